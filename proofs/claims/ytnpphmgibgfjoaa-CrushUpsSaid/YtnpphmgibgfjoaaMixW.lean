import Derived.Test.YtnpphmgibgfjoaaProg
import Derived.Test.YtnpphmgibgfjoaaShelf
import Derived.Test.YtnpphmgibgfjoaaMixP
import Derived.WalkKit
import Derived.WalkSpells
import Derived.Lib.Hide
import Derived.Laws.BitsLemmas
import Derived.Laws.Bits64
namespace Go.Proofs.Ytnpphmgibgfjoaa.MixW
open Go.RowKit MixP

theorem log_none (u : Int) (w : World) (h : u < 1 ∨ 65536 < u) :
    Calls Try.prog 105 #[.int .i64 u] w fun e w' => e = .returned (.tuple #[.int .i64 0, .bool false]) ∧ w = w' := by
  by_cases h1 : u < 1
  · clear h
    go_enter Try.func105, Try.ntmps105
    go_wp2
    go_ret2
    exact ⟨rfl, rfl⟩
  · have h2 : 65536 < u := by omega
    clear h
    go_enter Try.func105, Try.ntmps105
    go_wp2
    go_ret2
    exact ⟨rfl, rfl⟩
theorem sq_int (y : Nat) : ((y : Int) * y) / 2147483648 = (sq y : Nat) := by
  unfold sq; rw [Int.natCast_ediv, Int.natCast_mul]; rfl
theorem sq_le {y : Nat} (h : Nrm y) : (y : Int) * y / 2147483648 ≤ 8589934591 := by
  rw [sq_int]
  have := sq_hi h
  omega
theorem wrap_u64 {x : Int} (h : 0 ≤ x) (h1 : x < 18446744073709551616) : IntKind.u64.wrap x = x := by
  simp only [IntKind.wrap, IntKind.signed, IntKind.bits]
  simp
  omega
theorem sq_ge (y : Nat) : 0 ≤ (y : Int) * y := Int.mul_nonneg (by omega) (by omega)
theorem or_one (n : Nat) (h : n < 2305843009213693952) : Go.bits .or .i64 (2 * n : Nat) 1 = (2 * n + 1 : Nat) := by
  rw [bits_join .i64 62 (by decide) (fun m h0 h1 => by rw [IntKind.wrap_i64]; omega) 1 _ _ (by omega) (by omega) (by omega) (by omega) (by omega) (by omega)]
  omega
/-- What holds at the loop's head: y, o, k as numbers. -/
def Inv (u : Nat) (y o k : Int) : Prop := ∃ (yn on kn : Nat), y = yn ∧ o = on ∧ k = kn ∧ kn ≤ 24 ∧ Nrm yn ∧ on < 17 * 2 ^ kn ∧ run (24 - kn) yn on = logn u
theorem inv_start {u : Nat} (h1 : 1 ≤ u) (h2 : u ≤ 65536) : Inv u (IntKind.u64.wrap ((u : Int) * 2 ^ (31 - exp2 u))) (exp2 u : Nat) 0 := by
  have hn := norm_nrm (u := u) (by omega) h2
  obtain ⟨_, _, hx⟩ := exp2_spec (u := u) (by omega) h2
  refine ⟨norm u, exp2 u, 0, ?_, rfl, rfl, by omega, hn, by omega, rfl⟩
  have e : (u : Int) * 2 ^ (31 - exp2 u) = (norm u : Nat) := by unfold norm; push_cast; rfl
  rw [e, wrap_u64 (by omega) (by have := hn.2; omega)]
theorem inv_stp {u : Nat} {y o k : Int} (h : Inv u y o k) (hk : k < 24) :
    (4294967296 ≤ IntKind.u64.wrap (y * y) / 2147483648 → Inv u (IntKind.u64.wrap (y * y) / 2147483648 / 2) (Go.bits .or .i64 (wrap64 (o * 2)) 1) (wrap64 (k + 1))) ∧
    (¬ 4294967296 ≤ IntKind.u64.wrap (y * y) / 2147483648 → Inv u (IntKind.u64.wrap (y * y) / 2147483648) (wrap64 (o * 2)) (wrap64 (k + 1))) := by
  obtain ⟨yn, on, kn, rfl, rfl, rfl, hk2, hN, hO, hR⟩ := h
  have q0 := sq_ge yn
  have q1 := sq_le hN
  have hp : 2 ^ kn ≤ 2 ^ 23 := Nat.pow_le_pow_right (by decide) (by omega)
  have ek : wrap64 ((kn : Int) + 1) = (kn + 1 : Nat) := by unfold wrap64; omega
  have eo : wrap64 ((on : Int) * 2) = (2 * on : Nat) := by unfold wrap64; omega
  have hr : run (24 - kn) yn on = run (24 - (kn + 1)) (stp yn) (2 * on + bitv yn) := by
    rw [show 24 - kn = (24 - (kn + 1)) + 1 from by omega]; rfl
  rw [wrap_u64 q0 (by omega), sq_int, ek, eo]
  constructor
  · intro hc
    have hc' : 4294967296 ≤ sq yn := by omega
    have e1 : bitv yn = 1 := by simp [bitv, hc']
    have e2 : stp yn = sq yn / 2 := by simp [stp, hc']
    exact ⟨sq yn / 2, 2 * on + 1, kn + 1, by omega, or_one _ (by omega), rfl, by omega, e2 ▸ stp_nrm hN, by rw [Nat.pow_succ]; omega, by rw [← hR, hr, e1, e2]⟩
  · intro hc
    have hc' : ¬ 4294967296 ≤ sq yn := by omega
    have e1 : bitv yn = 0 := by simp [bitv, hc']
    have e2 : stp yn = sq yn := by simp [stp, hc']
    exact ⟨sq yn, 2 * on, kn + 1, rfl, rfl, rfl, by omega, e2 ▸ stp_nrm hN, by rw [Nat.pow_succ]; omega, by rw [← hR, hr, e1, e2]; rfl⟩
theorem inv_end {u : Nat} {y o k : Int} (h : Inv u y o k) (hk : ¬ k < 24) : o = (logn u : Nat) := by
  obtain ⟨yn, on, kn, rfl, rfl, rfl, hk2, hN, hO, hR⟩ := h
  obtain rfl : kn = 24 := by omega
  rw [← hR]; rfl
theorem inv_k {u : Nat} {y o k : Int} (h : Inv u y o k) : 0 ≤ k := by
  obtain ⟨yn, on, kn, rfl, rfl, rfl, _⟩ := h
  omega
theorem log_some (u : Nat) (w : World) (h1 : 1 ≤ u) (h2 : u ≤ 65536) :
    Calls Try.prog 105 #[.int .i64 u] w fun e w' => e = .returned (.tuple #[.int .i64 (logn u : Nat), .bool true]) ∧ w = w' := by
  have hS := Lib.hid (inv_start h1 h2)
  obtain ⟨_, _, hx⟩ := exp2_spec (u := u) (by omega) h2
  have hbl : Lib.bitLen u = exp2 u + 1 := by
    have := Lib.bitLenAux_bounds 64 u (by omega) (by omega)
    unfold exp2 Lib.bitLen; omega
  have HBL := Lib.hid hbl
  clear hbl
  go_enter Try.func105, Try.ntmps105
  go_wp2_with fail
  refine (Try.bits_Len _ _ (by omega) (by omega)).mono ?_
  rintro e w' ⟨rfl, rfl⟩
  rw [Int.toNat_natCast, HBL.out]
  go_wp2
  go_loop [5, 6, 23] (fun y o i => ∃ (yn on k : Int), y = .int .u64 yn ∧ o = .int .i64 on ∧ i = .int .i64 k ∧ Hid (Inv u yn on k)) (fun _ _ i => 24 - (intOf i).toNat)
  case atStart => exact ⟨_, _, _, rfl, rfl, rfl, hS⟩
  case round =>
    clear hS HBL h1 h2 hx
    obtain ⟨yn, on, k, rfl, rfl, rfl, hI⟩ := hrel
    by_cases hk : k < 24
    · by_cases hc : 4294967296 ≤ IntKind.u64.wrap (yn * yn) / 2147483648
      · have HN := Lib.hid ((inv_stp hI.out hk).1 hc)
        have hc1 : decide (4294967296 ≤ IntKind.u64.wrap (yn * yn) / 2147483648) = true := decide_eq_true hc
        have hk1 : decide (k < 24) = true := decide_eq_true hk
        clear hc hk
        go_wp2
        go_round
        case rel => exact ⟨_, _, _, rfl, rfl, rfl, HN⟩
        case measure => have := of_decide_eq_true hk1; have := inv_k hI.out; simp [intOf, wrap64]; omega
      · have HN := Lib.hid ((inv_stp hI.out hk).2 hc)
        have hc1 : decide (4294967296 ≤ IntKind.u64.wrap (yn * yn) / 2147483648) = false := decide_eq_false hc
        have hk1 : decide (k < 24) = true := decide_eq_true hk
        clear hc hk
        go_wp2
        go_round
        case rel => exact ⟨_, _, _, rfl, rfl, rfl, HN⟩
        case measure => have := of_decide_eq_true hk1; have := inv_k hI.out; simp [intOf, wrap64]; omega
    · have HN := Lib.hid (inv_end hI.out hk)
      have hk1 : decide (k < 24) = false := decide_eq_false hk
      clear hk
      go_wp2
      go_ret2
      rw [HN.out]
      exact ⟨rfl, rfl⟩

/-! ### the reference's logarithm -/
theorem ref_none (u : Int) (w : World) (h : u < 1 ∨ 65536 < u) :
    Calls Try.prog 108 #[.int .i64 u] w fun e w' => e = .returned (.tuple #[.int .i64 0, .bool false]) ∧ w = w' := by
  by_cases h1 : u < 1
  · clear h
    go_enter Try.func108, Try.ntmps108
    go_wp2
    go_ret2
    exact ⟨rfl, rfl⟩
  · have h2 : 65536 < u := by omega
    clear h
    go_enter Try.func108, Try.ntmps108
    go_wp2
    go_ret2
    exact ⟨rfl, rfl⟩
/-- after n halvings -/
def Half (u : Nat) (n v : Int) : Prop := ∃ m : Nat, n = m ∧ v = (u / 2 ^ m : Nat) ∧ m ≤ 17 ∧ 2 ^ m ≤ u
theorem half_start {u : Nat} (h : 1 ≤ u) : Half u 0 u := ⟨0, rfl, by simp, by omega, by simpa using h⟩
theorem half_v {u : Nat} {n v : Int} (h : Half u n v) (hu : u ≤ 65536) : 0 ≤ v ∧ v ≤ 65536 := by
  obtain ⟨m, rfl, rfl, _⟩ := h
  have : u / 2 ^ m ≤ u := Nat.div_le_self _ _
  generalize u / 2 ^ m = q at *
  omega
theorem half_step {u : Nat} {n v : Int} (h : Half u n v) (hu : u ≤ 65536) (hv : 1 < v) : Half u (wrap64 (n + 1)) (wrap64 (v.tdiv 2)) := by
  obtain ⟨m, rfl, rfl, h1, h2⟩ := h
  have hle : u / 2 ^ m ≤ u := Nat.div_le_self _ _
  have hp : 0 < 2 ^ m := Nat.pow_pos (by decide)
  have h4 : 2 ^ (m + 1) ≤ u := by
    have : 2 ≤ u / 2 ^ m := by omega
    have := (Nat.le_div_iff_mul_le hp).1 this
    rw [Nat.pow_succ]; omega
  have h5 : m < 17 := by
    rcases Nat.lt_or_ge m 17 with hc | hc
    · exact hc
    · have : 2 ^ 17 ≤ 2 ^ m := Nat.pow_le_pow_right (by decide) hc
      omega
  refine ⟨m + 1, by unfold wrap64; omega, ?_, by omega, h4⟩
  rw [Int.tdiv_eq_ediv_of_nonneg (by omega)]
  rw [show u / 2 ^ (m + 1) = u / 2 ^ m / 2 from by rw [Nat.div_div_eq_div_mul, Nat.pow_succ]]
  generalize u / 2 ^ m = q at *
  unfold wrap64
  omega
theorem half_end {u : Nat} {n v : Int} (h : Half u n v) (hu : u ≤ 65536) (hv : ¬ 1 < v) : n = (exp2 u : Nat) := by
  obtain ⟨m, rfl, rfl, h1, h2⟩ := h
  have hp : 0 < 2 ^ m := Nat.pow_pos (by decide)
  have h3 : u < 2 ^ (m + 1) := by
    have : u / 2 ^ m < 2 := by omega
    have := (Nat.div_lt_iff_lt_mul hp).1 this
    rw [Nat.pow_succ]; omega
  rw [exp2_unique hu h2 h3]
/-- after i doublings -/
def Dbl (u : Nat) (y i : Int) : Prop := ∃ m : Nat, i = m ∧ y = (u * 2 ^ m : Nat) ∧ m ≤ 31 - exp2 u
theorem dbl_start {u : Nat} : Dbl u u 0 := ⟨0, rfl, by simp, by omega⟩
theorem dbl_i {u : Nat} {y i : Int} (h : Dbl u y i) : 0 ≤ i ∧ i ≤ 31 := by obtain ⟨m, rfl, _, h⟩ := h; omega
theorem dbl_step {u : Nat} {y i : Int} (h : Dbl u y i) (hu : u ≤ 65536) (hi : i < 31 - (exp2 u : Nat)) : Dbl u (IntKind.u64.wrap (y * 2)) (i + 1) := by
  obtain ⟨m, rfl, rfl, h1⟩ := h
  have h2 : u * 2 ^ m ≤ 65536 * 2 ^ 31 := Nat.mul_le_mul hu (Nat.pow_le_pow_right (by decide) (by omega))
  refine ⟨m + 1, rfl, ?_, by omega⟩
  rw [wrap_u64 (by omega) (by omega), Nat.pow_succ, ← Nat.mul_assoc]
  omega
theorem dbl_end {u : Nat} {y i : Int} (h : Dbl u y i) (hi : ¬ i < 31 - (exp2 u : Nat)) : y = (norm u : Nat) := by
  obtain ⟨m, rfl, rfl, h1⟩ := h
  obtain rfl : m = 31 - exp2 u := by omega
  rfl
/-- digits: as Inv, from nought -/
def Dig (u : Nat) (y o k : Int) : Prop := ∃ (yn on kn : Nat), y = yn ∧ o = on ∧ k = kn ∧ kn ≤ 24 ∧ Nrm yn ∧ on < 2 ^ kn ∧ run (24 - kn) yn on = run 24 (norm u) 0
theorem dig_start {u : Nat} (h1 : u ≠ 0) (h2 : u ≤ 65536) : Dig u (norm u : Nat) 0 0 := ⟨norm u, 0, 0, rfl, rfl, rfl, by omega, norm_nrm h1 h2, by decide, rfl⟩
theorem dig_k {u : Nat} {y o k : Int} (h : Dig u y o k) : 0 ≤ k := by
  obtain ⟨yn, on, kn, rfl, rfl, rfl, _⟩ := h
  omega
def sqw (y : Int) : Int := IntKind.u64.wrap ((IntKind.u64.wrap (y * y)).tdiv 2147483648)
theorem dig_stp {u : Nat} {y o k : Int} (h : Dig u y o k) (hk : k < 24) :
    (4294967296 ≤ sqw y → Dig u (IntKind.u64.wrap ((sqw y).tdiv 2)) (wrap64 (wrap64 (o * 2) + 1)) (wrap64 (k + 1))) ∧
    (¬ 4294967296 ≤ sqw y → Dig u (sqw y) (wrap64 (o * 2)) (wrap64 (k + 1))) := by
  obtain ⟨yn, on, kn, rfl, rfl, rfl, hk2, hN, hO, hR⟩ := h
  have q0 := sq_ge yn
  have q1 := sq_le hN
  have q2 := sq_hi hN
  have hp : 2 ^ kn ≤ 2 ^ 23 := Nat.pow_le_pow_right (by decide) (by omega)
  have ek : wrap64 ((kn : Int) + 1) = (kn + 1 : Nat) := by unfold wrap64; omega
  have eo : wrap64 ((on : Int) * 2) = (2 * on : Nat) := by unfold wrap64; omega
  have eo2 : wrap64 (((2 * on : Nat) : Int) + 1) = (2 * on + 1 : Nat) := by unfold wrap64; omega
  have hr : run (24 - kn) yn on = run (24 - (kn + 1)) (stp yn) (2 * on + bitv yn) := by
    rw [show 24 - kn = (24 - (kn + 1)) + 1 from by omega]; rfl
  have es : sqw yn = (sq yn : Nat) := by
    unfold sqw
    rw [wrap_u64 q0 (by omega), Int.tdiv_eq_ediv_of_nonneg q0, sq_int, wrap_u64 (by omega) (by omega)]
  rw [es, ek, eo, eo2, Int.tdiv_eq_ediv_of_nonneg (by omega)]
  constructor
  · intro hc
    have hc' : 4294967296 ≤ sq yn := by omega
    have e1 : bitv yn = 1 := by simp [bitv, hc']
    have e2 : stp yn = sq yn / 2 := by simp [stp, hc']
    exact ⟨sq yn / 2, 2 * on + 1, kn + 1, by rw [wrap_u64 (by omega) (by omega)]; omega, rfl, rfl, by omega, e2 ▸ stp_nrm hN, by rw [Nat.pow_succ]; omega, by rw [← hR, hr, e1, e2]⟩
  · intro hc
    have hc' : ¬ 4294967296 ≤ sq yn := by omega
    have e1 : bitv yn = 0 := by simp [bitv, hc']
    have e2 : stp yn = sq yn := by simp [stp, hc']
    exact ⟨sq yn, 2 * on, kn + 1, rfl, rfl, rfl, by omega, e2 ▸ stp_nrm hN, by rw [Nat.pow_succ]; omega, by rw [← hR, hr, e1, e2]; rfl⟩
theorem dig_end {u : Nat} {y o k : Int} (h : Dig u y o k) (hk : ¬ k < 24) (h1 : u ≠ 0) (h2 : u ≤ 65536) : wrap64 (wrap64 (((exp2 u : Nat) : Int) * 16777216) + o) = (logn u : Nat) := by
  obtain ⟨yn, on, kn, rfl, rfl, rfl, hk2, hN, hO, hR⟩ := h
  obtain rfl : kn = 24 := by omega
  obtain ⟨_, _, hx⟩ := exp2_spec h1 h2
  have h3 : logn u = on + 16777216 * exp2 u := by
    have h4 := run_add 24 (norm u) 0 (exp2 u)
    have h5 : on = run 24 (norm u) 0 := hR
    unfold logn
    rw [h5, show (16777216 : Nat) = 2 ^ 24 from rfl, ← h4, Nat.zero_add]
  rw [h3]
  unfold wrap64
  omega
set_option maxHeartbeats 400000 in
theorem ref_some (u : Nat) (w : World) (h1 : 1 ≤ u) (h2 : u ≤ 65536) :
    Calls Try.prog 108 #[.int .i64 u] w fun e w' => e = .returned (.tuple #[.int .i64 (logn u : Nat), .bool true]) ∧ w = w' := by
  have hS := Lib.hid (half_start h1)
  have hu := Lib.hid h2
  have hu0 : Hid (u ≠ 0) := Lib.hid (by omega)
  have hx := Lib.hid (exp2_spec hu0.out h2).2.2
  go_enter Try.func108, Try.ntmps108
  go_wp2
  go_loop [4, 5] (fun n v => ∃ (ni vi : Int), n = .int .i64 ni ∧ v = .int .i64 vi ∧ Hid (Half u ni vi)) (fun _ v => (intOf v).toNat)
  case atStart => exact ⟨_, _, rfl, rfl, hS⟩
  case round =>
    clear hS
    obtain ⟨n, v, rfl, rfl, hI⟩ := hrel
    by_cases hv : 1 < v
    · have HN := Lib.hid (half_step hI.out hu.out hv)
      have hk1 : decide (1 < v) = true := decide_eq_true hv
      clear hv
      go_wp2
      go_round
      case rel => exact ⟨_, _, rfl, rfl, HN⟩
      case measure =>
        have := of_decide_eq_true hk1
        have := half_v hI.out hu.out
        have : v.tdiv 2 = v / 2 := Int.tdiv_eq_ediv_of_nonneg (by omega)
        simp only [intOf, this, wrap64]
        omega
    · have HE := half_end hI.out hu.out hv
      have hk1 : decide (1 < v) = false := decide_eq_false hv
      clear hv
      subst HE
      clear hI
      have hx1 := hx.out
      go_wp2
      go_loop [6, 7] (fun y i => ∃ (yi ii : Int), y = .int .u64 yi ∧ i = .int .i64 ii ∧ 0 ≤ ii ∧ ii ≤ 31 ∧ Hid (Dbl u yi ii)) (fun _ i => 31 - (intOf i).toNat)
      case atStart => exact ⟨_, _, rfl, rfl, by omega, by omega, Lib.hid dbl_start⟩
      case round =>
        obtain ⟨y, i, rfl, rfl, i0, i1, hI⟩ := hrel
        by_cases hv : i < 31 - (exp2 u : Nat)
        · have HN := Lib.hid (dbl_step hI.out hu.out hv)
          have := dbl_i HN.out
          go_wp2
          go_round
          case rel => exact ⟨_, _, rfl, rfl, by omega, by omega, HN⟩
          case measure => simp only [intOf]; omega
        · have HE := dbl_end hI.out hv
          subst HE
          clear hI
          have hS := Lib.hid (dig_start hu0.out hu.out)
          go_wp2
          clear hv i0 i1
          go_loop [6, 8, 9] (fun y o i => ∃ (yn on k : Int), y = .int .u64 yn ∧ o = .int .i64 on ∧ i = .int .i64 k ∧ Hid (Dig u yn on k)) (fun _ _ i => 24 - (intOf i).toNat)
          case atStart => exact ⟨_, _, _, rfl, rfl, rfl, hS⟩
          case round =>
            obtain ⟨yn, on, k, rfl, rfl, rfl, hI⟩ := hrel
            by_cases hk : k < 24
            · by_cases hc : 4294967296 ≤ sqw yn
              · have HN := Lib.hid ((dig_stp hI.out hk).1 hc)
                have hc1 : decide (4294967296 ≤ IntKind.u64.wrap ((IntKind.u64.wrap (yn * yn)).tdiv 2147483648)) = true := decide_eq_true hc
                have hk1 : decide (k < 24) = true := decide_eq_true hk
                clear hc hk
                go_wp2
                go_round
                case rel => exact ⟨_, _, _, rfl, rfl, rfl, HN⟩
                case measure => have := of_decide_eq_true hk1; have := dig_k hI.out; simp [intOf, wrap64]; omega
              · have HN := Lib.hid ((dig_stp hI.out hk).2 hc)
                have hc1 : decide (4294967296 ≤ IntKind.u64.wrap ((IntKind.u64.wrap (yn * yn)).tdiv 2147483648)) = false := decide_eq_false hc
                have hk1 : decide (k < 24) = true := decide_eq_true hk
                clear hc hk
                go_wp2
                go_round
                case rel => exact ⟨_, _, _, rfl, rfl, rfl, HN⟩
                case measure => have := of_decide_eq_true hk1; have := dig_k hI.out; simp [intOf, wrap64]; omega
            · have HN := Lib.hid (dig_end hI.out hk hu0.out hu.out)
              have hk1 : decide (k < 24) = false := decide_eq_false hk
              clear hk hx1
              go_wp2
              go_ret2
              rw [HN.out]
              exact ⟨rfl, rfl⟩

/-! ### Mix, Hash2, Hash3 -/
def mixI (x : Int) : Int := (mix x.toNat : Nat)
theorem mixI_range (x : Int) : 0 ≤ mixI x ∧ mixI x < 4294967296 := by
  have := @mix_lt x.toNat
  unfold mixI; omega
theorem xor_nat (a b : Nat) (ha : a < 4294967296) (hb : b < 4294967296) : Go.bits .xor .u32 (a : Int) (b : Int) = ((a ^^^ b : Nat) : Int) := by
  have hx : a ^^^ b < 2 ^ 32 := Nat.xor_lt_two_pow (by omega) (by omega)
  have h1 : (BitVec.ofInt 32 (a : Int)).toNat = a := by
    rw [BitVec.ofInt_natCast, BitVec.toNat_ofNat]; exact Nat.mod_eq_of_lt (by omega)
  have h2 : (BitVec.ofInt 32 (b : Int)).toNat = b := by
    rw [BitVec.ofInt_natCast, BitVec.toNat_ofNat]; exact Nat.mod_eq_of_lt (by omega)
  show IntKind.u32.wrap ((BitVec.ofInt 32 (a : Int) ^^^ BitVec.ofInt 32 (b : Int)).toNat : Int) = _
  rw [BitVec.toNat_xor, h1, h2, IntKind.wrap_u32]
  omega
def mixE (x : Int) : Int := (Go.bits .xor .u32 (((Go.bits .xor .u32 (((Go.bits .xor .u32 x (x / 65536)) * 2146121005) % 4294967296) ((((Go.bits .xor .u32 x (x / 65536)) * 2146121005) % 4294967296) / 32768)) * 2221713035) % 4294967296) ((((Go.bits .xor .u32 (((Go.bits .xor .u32 x (x / 65536)) * 2146121005) % 4294967296) ((((Go.bits .xor .u32 x (x / 65536)) * 2146121005) % 4294967296) / 32768)) * 2221713035) % 4294967296) / 65536))
theorem xs_int (a k : Nat) (h : a < 4294967296) : Go.bits .xor .u32 (a : Int) ((a : Int) / (k : Int)) = ((a ^^^ (a / k) : Nat) : Int) := by
  rw [← Int.natCast_ediv]; exact xor_nat _ _ h (Nat.lt_of_le_of_lt (Nat.div_le_self _ _) h)
theorem mul_int (a k : Nat) : ((a : Int) * (k : Int)) % 4294967296 = ((a * k % 4294967296 : Nat) : Int) := by
  rw [Int.natCast_emod, Int.natCast_mul]; rfl
theorem xs16 (a : Nat) (h : a < 4294967296) : Go.bits .xor .u32 (a : Int) ((a : Int) / 65536) = ((a ^^^ (a / 65536) : Nat) : Int) := xs_int a 65536 h
theorem xs15 (a : Nat) (h : a < 4294967296) : Go.bits .xor .u32 (a : Int) ((a : Int) / 32768) = ((a ^^^ (a / 32768) : Nat) : Int) := xs_int a 32768 h
theorem mulA (a : Nat) : ((a : Int) * 2146121005) % 4294967296 = ((a * 2146121005 % 4294967296 : Nat) : Int) := mul_int a 2146121005
theorem mulB (a : Nat) : ((a : Int) * 2221713035) % 4294967296 = ((a * 2221713035 % 4294967296 : Nat) : Int) := mul_int a 2221713035
theorem mixE_eq (x : Int) (h0 : 0 ≤ x) (h1 : x < 4294967296) : mixE x = mixI x := by
  obtain ⟨n, rfl⟩ := Int.eq_ofNat_of_zero_le h0
  have hm : ∀ a : Nat, a % 4294967296 < 4294967296 := fun a => Nat.mod_lt _ (by decide)
  unfold mixE
  rw [xs16 n (by omega), mulA, xs15 _ (hm _), mulB, xs16 _ (hm _)]
  rfl
theorem mix_calls (x : Int) (w : World) (h0 : 0 ≤ x) (h1 : x < 4294967296) :
    Calls Try.prog 90 #[.int .u32 x] w fun e w' => e = .returned (.int .u32 (mixI x)) ∧ w = w' := by
  have HE := Lib.hid (mixE_eq x h0 h1)
  clear h0 h1
  go_enter Try.func90, Try.ntmps90
  go_wp2
  go_ret
  rw [← HE.out]
  exact ⟨rfl, rfl⟩

theorem tdiv_w (x k : Int) (h0 : 0 ≤ x) (h1 : x < 4294967296) (hk : 0 < k) : (x.tdiv k) % 4294967296 = x / k := by
  rw [Int.tdiv_eq_ediv_of_nonneg h0]
  have a : 0 ≤ x / k := Int.ediv_nonneg h0 (by omega)
  have b : x / k ≤ x := Int.ediv_le_self _ h0
  exact Int.emod_eq_of_lt a (by omega)
theorem rmix_calls (x : Int) (w : World) (h0 : 0 ≤ x) (h1 : x < 4294967296) :
    Calls Try.prog 97 #[.int .u32 x] w fun e w' => e = .returned (.int .u32 (mixI x)) ∧ w = w' := by
  have HE := Lib.hid (mixE_eq x h0 h1)
  have T1 := Lib.hid (tdiv_w x 65536 h0 h1 (by decide))
  clear h0 h1
  go_enter Try.func97, Try.ntmps97
  go_wp2
  go_ret
  rw [← HE.out, T1.out]
  exact ⟨rfl, rfl⟩
def h2I (a b : Int) : Int := mixI (Go.bits .xor .u32 (mixI ((a + 2654435761) % 4294967296)) b)
def h3I (a b c : Int) : Int := mixI (Go.bits .xor .u32 (h2I a b) ((c + 2246822519) % 4294967296))
theorem xor_range (a b : Int) : 0 ≤ Go.bits .xor .u32 a b ∧ Go.bits .xor .u32 a b < 4294967296 := by
  show 0 ≤ IntKind.u32.wrap _ ∧ IntKind.u32.wrap _ < _
  rw [IntKind.wrap_u32]; omega
theorem h2I_range (a b : Int) : 0 ≤ h2I a b ∧ h2I a b < 4294967296 := mixI_range _
theorem h3I_range (a b c : Int) : 0 ≤ h3I a b c ∧ h3I a b c < 4294967296 := mixI_range _
theorem hash2_calls (a b : Int) (w : World) :
    Calls Try.prog 65 #[.int .u32 a, .int .u32 b] w fun e w' => e = .returned (.int .u32 (h2I a b)) ∧ w = w' := by
  go_enter Try.func65, Try.ntmps65
  go_wp2_with fail
  refine (mix_calls _ _ (by omega) (by omega)).mono ?_
  rintro e w' ⟨rfl, rfl⟩
  go_wp2_with fail
  refine (mix_calls _ _ (xor_range _ _).1 (xor_range _ _).2).mono ?_
  rintro e w' ⟨rfl, rfl⟩
  go_wp2
  go_ret
  exact ⟨rfl, rfl⟩
theorem rhash2_calls (a b : Int) (w : World) :
    Calls Try.prog 79 #[.int .u32 a, .int .u32 b] w fun e w' => e = .returned (.int .u32 (h2I a b)) ∧ w = w' := by
  go_enter Try.func79, Try.ntmps79
  go_wp2_with fail
  refine (rmix_calls _ _ (by omega) (by omega)).mono ?_
  rintro e w' ⟨rfl, rfl⟩
  go_wp2_with fail
  refine (rmix_calls _ _ (xor_range _ _).1 (xor_range _ _).2).mono ?_
  rintro e w' ⟨rfl, rfl⟩
  go_wp2
  go_ret
  exact ⟨rfl, rfl⟩
theorem hash3_calls (a b c : Int) (w : World) :
    Calls Try.prog 106 #[.int .u32 a, .int .u32 b, .int .u32 c] w fun e w' => e = .returned (.int .u32 (h3I a b c)) ∧ w = w' := by
  go_enter Try.func106, Try.ntmps106
  go_wp2_with fail
  refine (hash2_calls _ _ _).mono ?_
  rintro e w' ⟨rfl, rfl⟩
  go_wp2_with fail
  refine (mix_calls _ _ (xor_range _ _).1 (xor_range _ _).2).mono ?_
  rintro e w' ⟨rfl, rfl⟩
  go_wp2
  go_ret
  exact ⟨rfl, rfl⟩
theorem rhash3_calls (a b c : Int) (w : World) :
    Calls Try.prog 107 #[.int .u32 a, .int .u32 b, .int .u32 c] w fun e w' => e = .returned (.int .u32 (h3I a b c)) ∧ w = w' := by
  go_enter Try.func107, Try.ntmps107
  go_wp2_with fail
  refine (rhash2_calls _ _ _).mono ?_
  rintro e w' ⟨rfl, rfl⟩
  go_wp2_with fail
  refine (rmix_calls _ _ (xor_range _ _).1 (xor_range _ _).2).mono ?_
  rintro e w' ⟨rfl, rfl⟩
  go_wp2
  go_ret
  exact ⟨rfl, rfl⟩
theorem mixI_inj (a b : Int) (a0 : 0 ≤ a) (a1 : a < 4294967296) (b0 : 0 ≤ b) (b1 : b < 4294967296) : (mixI a == mixI b) = (a == b) := by
  rw [Bool.eq_iff_iff, beq_iff_eq, beq_iff_eq]
  constructor
  · intro h
    have := mix_inj (x := a.toNat) (y := b.toNat) (by omega) (by omega) (by unfold mixI at h; omega)
    omega
  · rintro rfl; rfl
end Go.Proofs.Ytnpphmgibgfjoaa.MixW
