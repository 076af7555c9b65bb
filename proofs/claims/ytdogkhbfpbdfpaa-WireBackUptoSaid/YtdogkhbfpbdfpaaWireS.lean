import Derived.Test.YtdogkhbfpbdfpaaWireR
import Derived.Test.YtdogkhbfpbdfpaaPWireReadsx
/- The document's reader reads as the program's does: the plain law, over the printed functions. -/
namespace Go.Proofs.Ytdogkhbfpbdfpaa.WireS
open Go.RowKit Go.Proofs.YtdogkhbfpbdfpaaW.PrintWords Go.Proofs.YtdogkhbfpbdfpaaW.PrintMore Mem WireP WireR PWireReads
/-- Bytes as a number, the lowest first. -/
def lev : List Int → Int
  | [] => 0
  | c :: t => c + 256 * lev t
theorem lev_range : ∀ (l : List Int), (∀ c ∈ l, 0 ≤ c ∧ c < 256) → 0 ≤ lev l ∧ lev l < 256 ^ l.length
  | [], _ => by simp [lev]
  | c :: t, h => by
    have h1 := lev_range t (fun x hx => h x (List.mem_cons_of_mem _ hx))
    have h2 := h c List.mem_cons_self
    simp only [lev, List.length_cons, Int.pow_succ]
    omega
theorem lev_snoc : ∀ (l : List Int) (c : Int), lev (l ++ [c]) = lev l + c * 256 ^ l.length
  | [], c => by simp [lev]
  | d :: t, c => by
    simp only [List.cons_append, lev, List.length_cons, Int.pow_succ, lev_snoc t c, Int.mul_add]
    rw [Int.mul_comm (256 ^ t.length) 256, ← Int.mul_assoc, ← Int.mul_assoc, Int.mul_comm 256 c]
    first | done | omega
theorem lev_fx (k : Nat) : ∀ n : Int, lev (fx n k) = n % 256 ^ k := by
  induction k with
  | zero => intro n; simp [fx, lev]
  | succ k ih =>
    intro n
    have hp : (0 : Int) < 256 ^ k := Int.pow_pos (by decide)
    simp only [fx, lev, ih, Int.pow_succ]
    have h1 := Int.emod_add_mul_ediv n 256
    have h2 := Int.emod_add_mul_ediv (n / 256) (256 ^ k)
    have h3 := Int.emod_nonneg n (b := 256) (by decide)
    have h4 := Int.emod_lt_of_pos n (b := 256) (by decide)
    have h5 := Int.emod_nonneg (n / 256) (b := 256 ^ k) (by omega)
    have h6 := Int.emod_lt_of_pos (n / 256) hp
    generalize hr : n / 256 % 256 ^ k = r at *
    have e : n = (n % 256 + 256 * r) + (256 ^ k * 256) * (n / 256 / 256 ^ k) := by
      rw [Int.mul_comm (256 ^ k) 256, Int.mul_assoc]; omega
    have hb : n % 256 + 256 * r < 256 ^ k * 256 := by
      generalize (256 : Int) ^ k = q at *
      omega
    have hb0 : 0 ≤ n % 256 + 256 * r := by omega
    have e2 : n % (256 ^ k * 256) = n % 256 + 256 * r := by
      conv => lhs; rw [e]
      rw [Int.add_mul_emod_self_left, Int.emod_eq_of_lt hb0 hb]
    rw [e2]
theorem or_shl {j acc y : Nat} (hj : j ≤ 64) (ha : acc < 2 ^ j) (ha' : acc < 18446744073709551616) (hb : y * 2 ^ j < 18446744073709551616) :
    Go.bits .or .u64 (acc : Int) (shl .u64 (y : Int) (j : Int)) = ((acc + y * 2 ^ j : Nat) : Int) := by
  have e : shl .u64 (y : Int) (j : Int) = ((y * 2 ^ j : Nat) : Int) := by
    unfold shl
    rw [show min ((j : Nat) : Int).toNat (IntKind.u64).bits = j by simp [IntKind.bits]; omega, Go.IntKind.wrap_u64]
    have : ((y : Int) * 2 ^ j) = ((y * 2 ^ j : Nat) : Int) := by rw [Int.natCast_mul, Int.natCast_pow]; rfl
    rw [this]; omega
  rw [e, bits_or_u64_nat _ _ ha' hb]
  congr 1
  have := Nat.two_pow_add_eq_or_of_lt (i := j) (b := acc) ha y
  rw [Nat.or_comm, Nat.mul_comm y, ← this]; omega
theorem wrap_mul (m i : Nat) (h : m * i ≤ 1000) : IntKind.u64.wrap (wrap64 ((m : Int) * (i : Int))) = ((m * i : Nat) : Int) := by
  have : (m : Int) * (i : Int) = ((m * i : Nat) : Int) := by rw [Int.natCast_mul]
  rw [this, Go.IntKind.wrap_u64]
  unfold wrap64
  omega
theorem wrap_nat (n : Nat) (h : n ≤ 9223372036854775807) : wrap64 (n : Int) = (n : Int) := by unfold wrap64; omega
theorem wrap_succ (n : Nat) (h : n < 9223372036854775807) : wrap64 ((n : Int) + 1) = ((n + 1 : Nat) : Int) := by unfold wrap64; omega
theorem next_yes (xs : List Int) (a : Nat) (h : a < xs.length) (hs : xs.length ≤ 9223372036854775807) : mooringref05_next.f xs (a : Int) 0 = some (xs.getD a 0, true, ((a + 1 : Nat) : Int), 0) := by
  unfold mooringref05_next.f
  have e1 : wrap64 (wrap64 ((a : Int) + 1) - 1) = (a : Int) := by unfold wrap64; omega
  rw [if_pos rfl, if_neg (by omega), e1, if_pos (by omega), if_pos (by omega), wrap_succ a (by omega)]
  simp [rd]
theorem next_no (xs : List Int) (a : Nat) (h : xs.length ≤ a) : mooringref05_next.f xs (a : Int) 0 = some (0, false, (a : Int), 0) := by
  unfold mooringref05_next.f
  rw [if_pos rfl, if_pos (by omega)]
theorem next_bad (xs : List Int) (a : Int) (e : Int) (h : e ≠ 0) : mooringref05_next.f xs a e = some (0, false, a, e) := by
  unfold mooringref05_next.f
  rw [if_neg h]
theorem wrong_yes (xs : List Int) (a b e : Int) : mooringref05_wrong.f xs a 0 e b = some (b, e) := by
  unfold mooringref05_wrong.f
  rw [if_pos rfl]
theorem wrong_no (xs : List Int) (a b e e1 : Int) (h : e ≠ 0) : mooringref05_wrong.f xs a e e1 b = some (a, e) := by
  unfold mooringref05_wrong.f
  rw [if_neg h]
theorem drop_get {xs : List Int} {a i : Nat} (h : a + i < xs.length) : (xs.drop a)[i]? = some (xs.getD (a + i) 0) := by
  rw [List.getElem?_drop, List.getElem?_eq_getElem h, List.getD_eq_getElem?_getD, List.getElem?_eq_getElem h]; rfl
theorem ruv_loop (xs : List Int) (hx : ∀ c ∈ xs, 0 ≤ c ∧ c < 256) (hs : xs.length ≤ 9223372036854775807) (a : Nat) (ha : a ≤ xs.length) : ∀ (d i acc : Nat), d + i = 9 → PkI (xs.drop a) i acc →
    ∃ (K n a' : Nat) (e' : Int), mooringref05_ReadUvarint.l0 K (a : Int) (acc : Int) (i : Int) xs ((a + i : Nat) : Int) 0 = some ((n : Int), (a' : Int), e') ∧ Rd1 xs a 0 n a' e' := by
  intro d
  induction d with
  | zero =>
    intro i acc hi hI
    obtain rfl : i = 9 := by omega
    have e7 : IntKind.u64.wrap (wrap64 (7 * ((9 : Nat) : Int))) = ((63 : Nat) : Int) := wrap_mul 7 9 (by decide)
    have e10 : ¬ (wrap64 (((9 : Nat) : Int) + 1) < 10) := by unfold wrap64; omega
    by_cases h : a + 9 < xs.length
    · have hc := drop_get h
      have hr := hx (xs.getD (a + 9) 0) (by rw [List.getD_eq_getElem?_getD, List.getElem?_eq_getElem h]; exact List.getElem_mem h)
      obtain ⟨y, hy⟩ := Int.eq_ofNat_of_zero_le hr.1
      rw [hy] at hc hr
      have hmod : IntKind.u64.wrap (Int.tmod (y : Int) 128) = ((y % 128 : Nat) : Int) := by rw [Go.IntKind.wrap_u64, Int.tmod_eq_emod_of_nonneg (by omega)]; omega
      by_cases hy1 : 1 < y
      · have hbig := pkI_big hI hc (by omega)
        by_cases hd : 1 < y % 128
        · refine ⟨2, 0, a, 5, ?_, .inr ⟨rfl, 0, hbig, rfl, rfl⟩⟩
          simp only [mooringref05_ReadUvarint.l0, next_yes xs (a + 9) h hs, hy, Option.bind_some, hmod, mooringref05_ReadUvarint.j1, wrong_yes]
          rw [if_pos (by decide), if_pos True.intro, if_pos (by rfl), if_pos (by rw [decide_eq_true_eq]; omega)]; rfl
        · refine ⟨3, 0, a, 5, ?_, .inr ⟨rfl, 0, hbig, rfl, rfl⟩⟩
          simp only [mooringref05_ReadUvarint.l0, next_yes xs (a + 9) h hs, hy, Option.bind_some, hmod, mooringref05_ReadUvarint.j1, wrong_yes]
          rw [if_pos (by decide), if_pos True.intro, if_pos (by rfl), if_neg (by rw [decide_eq_true_eq]; omega), e7, if_pos (by omega), if_neg (by omega), if_neg e10]; rfl
      · by_cases hz : y = 0
        · subst hz
          refine ⟨2, 0, a, 5, ?_, .inr ⟨rfl, 0, pkI_zero hI hc (by omega), rfl, rfl⟩⟩
          simp only [mooringref05_ReadUvarint.l0, next_yes xs (a + 9) h hs, hy, Option.bind_some, hmod, mooringref05_ReadUvarint.j1, wrong_yes]
          rw [if_pos (by decide), if_pos True.intro, if_pos (by rfl), if_neg (by decide), e7, if_pos (by omega), if_pos (by omega), if_pos (by omega), if_pos (by omega)]; rfl
        · have hd := pkI_done (c := y) hI hc (by omega) (by omega) (by omega)
          refine ⟨2, acc + y * 128 ^ 9, a + (9 + 1), 0, ?_, .inr ⟨rfl, 9 + 1, hd, rfl, rfl⟩⟩
          simp only [mooringref05_ReadUvarint.l0, next_yes xs (a + 9) h hs, hy, Option.bind_some, hmod, mooringref05_ReadUvarint.j1, wrong_yes]
          have hlt := hI.lt
          have h8 : (128 : Nat) ^ 9 = 9223372036854775808 := by decide
          rw [h8] at hlt
          have ho := or_shl (j := 63) (acc := acc) (y := y % 128) (by omega) (by rw [show (2 : Nat) ^ 63 = 9223372036854775808 by decide]; omega) (by omega) (by rw [show (2 : Nat) ^ 63 = 9223372036854775808 by decide]; omega)
          rw [if_pos (by decide), if_pos True.intro, if_pos (by rfl), if_neg (by rw [decide_eq_true_eq]; omega), e7, if_pos (by omega), if_pos (by omega), if_neg (by omega), ho, show y % 128 = y by omega]
          first | done | rfl
    · refine ⟨1, 0, a, 5, ?_, .inr ⟨rfl, 0, pkI_end hI (by rw [List.length_drop]; omega), rfl, rfl⟩⟩
      simp only [mooringref05_ReadUvarint.l0, next_no xs (a + 9) (by omega), Option.bind_some, wrong_yes]
      rw [if_pos (by decide), if_neg (by decide)]; rfl
  | succ d ih =>
    intro i acc hi hI
    have i10 : (i : Int) < 10 := by omega
    have i9 : ¬ ((i : Int) = 9) := by omega
    by_cases h : a + i < xs.length
    · have hc := drop_get h
      have hr := hx (xs.getD (a + i) 0) (by rw [List.getD_eq_getElem?_getD, List.getElem?_eq_getElem h]; exact List.getElem_mem h)
      obtain ⟨y, hy⟩ := Int.eq_ofNat_of_zero_le hr.1
      rw [hy] at hc hr
      have hmod : IntKind.u64.wrap (Int.tmod (y : Int) 128) = ((y % 128 : Nat) : Int) := by rw [Go.IntKind.wrap_u64, Int.tmod_eq_emod_of_nonneg (by omega)]; omega
      have e7 : IntKind.u64.wrap (wrap64 (7 * (i : Int))) = ((7 * i : Nat) : Int) := wrap_mul 7 i (by omega)
      have hlt := hI.lt
      have hb : (y % 128) * 128 ^ i < 18446744073709551616 := by
        have h6 : 128 ^ i ≤ 128 ^ 8 := Nat.pow_le_pow_right (by omega) (by omega)
        have h7 : y % 128 * 128 ^ i ≤ 127 * 128 ^ 8 := Nat.mul_le_mul (by omega) h6
        exact Nat.lt_of_le_of_lt h7 (by decide +kernel)
      have hac : acc < 18446744073709551616 := by
        have h6 : 128 ^ i ≤ 128 ^ 9 := Nat.pow_le_pow_right (by omega) (by omega)
        exact Nat.lt_of_lt_of_le hlt (Nat.le_trans h6 (by decide +kernel))
      have ho := or_shl (j := 7 * i) (acc := acc) (y := y % 128) (by omega) (by rw [pow7]; exact hlt) hac (by rw [pow7]; exact hb)
      rw [pow7] at ho
      by_cases hl : y < 128
      · by_cases hz : y = 0 ∧ 0 < i
        · obtain ⟨rfl, hi0⟩ := hz
          refine ⟨2, 0, a, 5, ?_, .inr ⟨rfl, 0, pkI_zero hI hc hi0, rfl, rfl⟩⟩
          simp only [mooringref05_ReadUvarint.l0, next_yes xs (a + i) h hs, hy, Option.bind_some, hmod, mooringref05_ReadUvarint.j1, wrong_yes]
          rw [if_pos i10, if_pos True.intro, if_neg i9, if_neg (by decide), e7, if_pos (by omega), if_pos (by omega), if_pos (by omega), if_pos (by omega)]; rfl
        · have hd := pkI_done (c := y) hI hc hl (by omega) (by omega)
          refine ⟨2, acc + y * 128 ^ i, a + (i + 1), 0, ?_, .inr ⟨rfl, i + 1, hd, rfl, rfl⟩⟩
          simp only [mooringref05_ReadUvarint.l0, next_yes xs (a + i) h hs, hy, Option.bind_some, hmod, mooringref05_ReadUvarint.j1, wrong_yes]
          rw [show y % 128 = y by omega] at *
          rw [if_pos i10, if_pos True.intro, if_neg i9, if_neg (by decide), e7, if_pos (by omega), if_pos (by omega), ho]
          by_cases h0 : y = 0
          · rw [if_pos (by omega), if_neg (by omega)]; rfl
          · rw [if_neg (by omega)]; rfl
      · obtain ⟨K, n, a', e', h1, h2⟩ := ih (i + 1) (acc + (y % 128) * 128 ^ i) (by omega) (pkI_more hI (by omega) hc (by omega) (by omega))
        refine ⟨K + 2, n, a', e', ?_, h2⟩
        simp only [mooringref05_ReadUvarint.l0, next_yes xs (a + i) h hs, hy, Option.bind_some, hmod, mooringref05_ReadUvarint.j1, wrong_yes]
        rw [if_pos i10, if_pos True.intro, if_neg i9, if_neg (by decide), e7, if_pos (by omega), if_neg (by omega), ho, wrap_succ i (by omega)]
        exact h1
    · refine ⟨1, 0, a, 5, ?_, .inr ⟨rfl, 0, pkI_end hI (by rw [List.length_drop]; omega), rfl, rfl⟩⟩
      simp only [mooringref05_ReadUvarint.l0, next_no xs (a + i) (by omega), Option.bind_some, wrong_yes]
      rw [if_pos i10, if_neg (by decide)]; rfl
theorem ruv (xs : List Int) (hx : ∀ c ∈ xs, 0 ≤ c ∧ c < 256) (hs : xs.length ≤ 9223372036854775807) (a : Nat) (ha : a ≤ xs.length) (e : Int) :
    ∃ (K n a' : Nat) (e' : Int), mooringref05_ReadUvarint.f K xs (a : Int) e = some ((n : Int), (a' : Int), e') ∧ Rd1 xs a e n a' e' := by
  by_cases he : e = 0
  · subst he
    obtain ⟨K, n, a', e', h1, h2⟩ := ruv_loop xs hx hs a ha 9 0 0 rfl (pkI_start _)
    exact ⟨K, n, a', e', h1, h2⟩
  · refine ⟨1, 0, a, e, ?_, .inl ⟨he, rfl, rfl, rfl⟩⟩
    simp only [mooringref05_ReadUvarint.f, mooringref05_ReadUvarint.l0, next_bad _ _ _ he, Option.bind_some, wrong_no _ _ _ _ _ he]
    rw [if_pos (by decide), if_neg (by decide)]; rfl
theorem rd1_lt {xs : List Int} {a n a' : Nat} {e e' : Int} (h : Rd1 xs a e n a' e') : n < 18446744073709551616 := by
  rcases h with ⟨_, h, _⟩ | ⟨_, k, h, _⟩
  · omega
  · exact pk_lt h
theorem rvr (xs : List Int) (hx : ∀ c ∈ xs, 0 ≤ c ∧ c < 256) (hs : xs.length ≤ 9223372036854775807) (a : Nat) (ha : a ≤ xs.length) (e : Int) :
    ∃ (K n a' : Nat) (e' : Int), mooringref05_ReadVarint.f K xs (a : Int) e = some (unzig n, (a' : Int), e') ∧ Rd1 xs a e n a' e' := by
  obtain ⟨K, n, a', e', h1, h2⟩ := ruv xs hx hs a ha e
  refine ⟨K, n, a', e', ?_, h2⟩
  have hn := rd1_lt h2
  simp only [mooringref05_ReadVarint.f, h1, Option.bind_some]
  rw [Int.tmod_eq_emod_of_nonneg (by omega), Int.tdiv_eq_ediv_of_nonneg (by omega), Go.IntKind.wrap_u64]
  unfold unzig
  by_cases h : n % 2 = 0
  · rw [if_pos h, if_neg (by omega)]
    congr 2
    unfold wrap64; omega
  · rw [if_neg h, if_pos (by omega)]
    congr 2
    unfold wrap64; omega
/-- What reading so many bytes does. -/
def RdF (xs : List Int) (a : Nat) (e : Int) (k : Nat) (n : Int) (a' : Nat) (e' : Int) : Prop :=
  (e ≠ 0 ∧ n = 0 ∧ a' = a ∧ e' = e) ∨ (e = 0 ∧ xs.length < a + k ∧ n = 0 ∧ a' = a ∧ e' = 5) ∨ (e = 0 ∧ a + k ≤ xs.length ∧ n = lev ((xs.drop a).take k) ∧ a' = a + k ∧ e' = 0)
theorem rdF_unique {xs : List Int} {a k : Nat} {e n m e' e2 : Int} {a' a2 : Nat} (h : RdF xs a e k n a' e') (h' : RdF xs a e k m a2 e2) : n = m ∧ a' = a2 ∧ e' = e2 := by
  rcases h with ⟨h1, rfl, rfl, rfl⟩ | ⟨h1, h2, rfl, rfl, rfl⟩ | ⟨h1, h2, rfl, rfl, rfl⟩ <;> rcases h' with ⟨k1, rfl, rfl, rfl⟩ | ⟨k1, k2, rfl, rfl, rfl⟩ | ⟨k1, k2, rfl, rfl, rfl⟩ <;> first | exact ⟨rfl, rfl, rfl⟩ | (exfalso; omega)
theorem pow256 (i : Nat) : (256 : Int) ^ i = ((2 ^ (8 * i) : Nat) : Int) := by rw [Nat.pow_mul, Int.natCast_pow]; simp
theorem h56 : (2 : Nat) ^ 56 ≤ 72057594037927936 := by decide
theorem rfx_step (k : Nat) (x1 x5 x6 x7 : Int) (x1000 : List Int) (x1001 x1002 : Int) : mooringref05_ReadFixed.l0 (k + 1) x1 x5 x6 x7 x1000 x1001 x1002 = if x7 < x1 then ((mooringref05_next.f x1000 x1001 x1002).bind fun bt124 => (if bt124.2.1 = true then (if 0 ≤ (IntKind.u64.wrap (wrap64 (8 * x7))) then (mooringref05_ReadFixed.l0 k x1 x5 (Go.bits .or .u64 x6 (shl .u64 (IntKind.u64.wrap (bt124.1)) (IntKind.u64.wrap (wrap64 (8 * x7))))) (wrap64 (x7 + 1)) x1000 bt124.2.2.1 bt124.2.2.2) else (none)) else ((mooringref05_wrong.f x1000 bt124.2.2.1 bt124.2.2.2 5 x5).bind fun bt128 => (some (0, bt128.1, bt128.2))))) else (some (x6, x1001, x1002)) := by rw [mooringref05_ReadFixed.l0]
theorem rfx_loop (xs : List Int) (hx : ∀ c ∈ xs, 0 ≤ c ∧ c < 256) (hs : xs.length ≤ 9223372036854775807) (a k : Nat) (hk : k ≤ 8) : ∀ (d i acc : Nat), d + i = k → a + i ≤ xs.length → (acc : Int) = lev ((xs.drop a).take i) →
    ∃ (K a' : Nat) (n e' : Int), mooringref05_ReadFixed.l0 K (k : Int) (a : Int) (acc : Int) (i : Int) xs ((a + i : Nat) : Int) 0 = some (n, (a' : Int), e') ∧ RdF xs a 0 k n a' e' := by
  intro d
  induction d with
  | zero =>
    intro i acc hi hl hacc
    obtain rfl : i = k := by omega
    refine ⟨1, a + i, acc, 0, ?_, .inr (.inr ⟨rfl, hl, hacc, rfl, rfl⟩)⟩
    simp only [mooringref05_ReadFixed.l0]
    rw [if_neg (by omega)]
  | succ d ih =>
    intro i acc hi hl hacc
    by_cases h : a + i < xs.length
    · have hc := drop_get h
      have hr := hx (xs.getD (a + i) 0) (by rw [List.getD_eq_getElem?_getD, List.getElem?_eq_getElem h]; exact List.getElem_mem h)
      obtain ⟨y, hy⟩ := Int.eq_ofNat_of_zero_le hr.1
      rw [hy] at hc hr
      have he8 := wrap_mul 8 i (by omega)
      have hik : (i : Int) < (k : Int) := by omega
      have hlen : ((xs.drop a).take i).length = i := by rw [List.length_take, List.length_drop]; omega
      have hrange := lev_range ((xs.drop a).take i) (fun c hc => hx c (List.mem_of_mem_drop (List.mem_of_mem_take hc)))
      rw [hlen] at hrange
      have e256 := pow256 i
      have hp : (2 : Nat) ^ (8 * i) ≤ 72057594037927936 := Nat.le_trans (Nat.pow_le_pow_right (by omega) (by omega)) h56
      rw [e256, ← hacc] at hrange
      have hac : acc < 2 ^ (8 * i) := Int.ofNat_lt.1 hrange.2
      have hyb : y * 2 ^ (8 * i) ≤ 255 * 72057594037927936 := Nat.mul_le_mul (by clear hp hac hrange; omega) hp
      have ho := or_shl (j := 8 * i) (acc := acc) (y := y) (by omega) hac (Nat.lt_of_lt_of_le hac (Nat.le_trans hp (by decide))) (Nat.lt_of_le_of_lt hyb (by decide))
      clear hyb hp
      have e8 : IntKind.u64.wrap (wrap64 (8 * (i : Int))) = ((8 * i : Nat) : Int) := he8
      have ey : IntKind.u64.wrap (y : Int) = (y : Int) := by rw [Go.IntKind.wrap_u64]; omega
      obtain ⟨K, a', n, e', h1, h2⟩ := ih (i + 1) (acc + y * 2 ^ (8 * i)) (by omega) (by omega) (by
        rw [take_at hc, lev_snoc, hlen, ← hacc, e256, Int.natCast_add, Int.natCast_mul])
      refine ⟨K + 1, a', n, e', ?_, h2⟩
      rw [rfx_step, next_yes xs (a + i) h hs, hy, if_pos hik, Option.bind_some]
      show (if true = true then _ else _) = _
      rw [if_pos rfl, e8, if_pos (by omega), ey, ho, wrap_succ i (by omega)]
      exact h1
    · refine ⟨1, a, 0, 5, ?_, .inr (.inl ⟨rfl, by omega, rfl, rfl, rfl⟩)⟩
      simp only [mooringref05_ReadFixed.l0, next_no xs (a + i) (by omega), Option.bind_some, wrong_yes]
      rw [if_pos (by omega), if_neg (by decide)]
theorem rfx (xs : List Int) (hx : ∀ c ∈ xs, 0 ≤ c ∧ c < 256) (hs : xs.length ≤ 9223372036854775807) (a : Nat) (ha : a ≤ xs.length) (e : Int) (k : Nat) (hk : k ≤ 8) (h0 : 0 < k) :
    ∃ (K a' : Nat) (n e' : Int), mooringref05_ReadFixed.f K xs (a : Int) e (k : Int) = some (n, (a' : Int), e') ∧ RdF xs a e k n a' e' := by
  by_cases he : e = 0
  · subst he
    exact rfx_loop xs hx hs a k hk k 0 0 rfl ha (by simp [lev])
  · refine ⟨1, a, 0, e, ?_, .inl ⟨he, rfl, rfl, rfl⟩⟩
    simp only [mooringref05_ReadFixed.f, mooringref05_ReadFixed.l0, next_bad _ _ _ he, Option.bind_some, wrong_no _ _ _ _ _ he]
    rw [if_pos (by omega), if_neg (by decide)]
/-- What reading a number of at most another one does. -/
def RdN (xs : List Int) (a : Nat) (e most n : Int) (a' : Nat) (e' : Int) : Prop :=
  (e ≠ 0 ∧ n = 0 ∧ a' = a ∧ e' = e) ∨ (e = 0 ∧ ∃ m k, PkOk (xs.drop a) m k ∧ ((k = 0 ∧ n = 0 ∧ a' = a ∧ e' = 5) ∨ (0 < k ∧ most < (m : Int) ∧ n = 0 ∧ a' = a ∧ e' = 3) ∨ (0 < k ∧ (m : Int) ≤ most ∧ n = m ∧ a' = a + k ∧ e' = 0)))
theorem rdN_unique {xs : List Int} {a : Nat} {e most n m e' e2 : Int} {a' a2 : Nat} (h : RdN xs a e most n a' e') (h' : RdN xs a e most m a2 e2) : n = m ∧ a' = a2 ∧ e' = e2 := by
  rcases h with ⟨h1, rfl, rfl, rfl⟩ | ⟨h1, p, k, hp, h⟩ <;> rcases h' with ⟨k1, rfl, rfl, rfl⟩ | ⟨k1, q, j, hq, k2⟩
  · exact ⟨rfl, rfl, rfl⟩
  · exact absurd k1 h1
  · exact absurd h1 k1
  · obtain ⟨rfl, rfl⟩ := pk_unique hp hq
    rcases h with ⟨h2, rfl, rfl, rfl⟩ | ⟨h2, h3, rfl, rfl, rfl⟩ | ⟨h2, h3, rfl, rfl, rfl⟩ <;> rcases k2 with ⟨k2, rfl, rfl, rfl⟩ | ⟨k2, k3, rfl, rfl, rfl⟩ | ⟨k2, k3, rfl, rfl, rfl⟩ <;> first | exact ⟨rfl, rfl, rfl⟩ | (exfalso; omega)
theorem rnm (xs : List Int) (hx : ∀ c ∈ xs, 0 ≤ c ∧ c < 256) (hs : xs.length ≤ 9223372036854775807) (a : Nat) (ha : a ≤ xs.length) (e most : Int) (hm : -9223372036854775808 ≤ most ∧ most < 9223372036854775808) :
    ∃ (K a' : Nat) (n e' : Int), mooringref05_ReadNumber.f K xs (a : Int) e most = some (n, (a' : Int), e') ∧ RdN xs a e most n a' e' := by
  obtain ⟨K, n, a', e', h1, h2⟩ := ruv xs hx hs a ha e
  have hn := rd1_lt h2
  rcases h2 with ⟨he, rfl, rfl, rfl⟩ | ⟨rfl, k, hp, rfl, rfl⟩
  · refine ⟨K, a', 0, e', ?_, .inl ⟨he, rfl, rfl, rfl⟩⟩
    simp only [mooringref05_ReadNumber.f, h1, Option.bind_some]
    rw [if_neg he]
  · by_cases hk : k = 0
    · subst hk
      refine ⟨K, a, 0, 5, ?_, .inr ⟨rfl, n, 0, hp, .inl ⟨rfl, rfl, rfl, rfl⟩⟩⟩
      simp only [mooringref05_ReadNumber.f, h1, Option.bind_some, if_true]
      rw [if_neg (by decide)]; rfl
    · rw [if_neg hk] at h1
      by_cases hmo : most < (n : Int)
      · refine ⟨K, a, 0, 3, ?_, .inr ⟨rfl, n, k, hp, .inr (.inl ⟨by omega, hmo, rfl, rfl, rfl⟩)⟩⟩
        simp only [mooringref05_ReadNumber.f, h1, Option.bind_some, wrong_yes]
        rw [if_pos True.intro]
        by_cases h0 : most < 0
        · rw [if_pos h0]
        · rw [if_neg h0, if_pos (by rw [Go.IntKind.wrap_u64]; omega)]
      · refine ⟨K, a + k, n, 0, ?_, .inr ⟨rfl, n, k, hp, .inr (.inr ⟨by omega, by omega, rfl, rfl, rfl⟩)⟩⟩
        simp only [mooringref05_ReadNumber.f, h1, Option.bind_some, wrong_yes]
        rw [if_pos True.intro, if_neg (by omega), if_neg (by rw [Go.IntKind.wrap_u64]; omega)]
        congr 2
        unfold wrap64; omega
/-- What reading bytes does. -/
def RdB (xs : List Int) (a : Nat) (e most : Int) (ys : List Int) (a' : Nat) (e' : Int) : Prop :=
  (e ≠ 0 ∧ ys = [] ∧ a' = a ∧ e' = e) ∨ (e = 0 ∧ ∃ m k, PkOk (xs.drop a) m k ∧ ((k = 0 ∧ ys = [] ∧ a' = a ∧ e' = 5) ∨ (0 < k ∧ most < (m : Int) ∧ ys = [] ∧ a' = a ∧ e' = 3) ∨ (0 < k ∧ (m : Int) ≤ most ∧ xs.length < a + k + m ∧ ys = [] ∧ a' = a ∧ e' = 5) ∨ (0 < k ∧ (m : Int) ≤ most ∧ a + k + m ≤ xs.length ∧ ys = (xs.drop (a + k)).take m ∧ a' = a + k + m ∧ e' = 0)))
theorem rdB_unique {xs : List Int} {a : Nat} {e most e' e2 : Int} {ys zs : List Int} {a' a2 : Nat} (h : RdB xs a e most ys a' e') (h' : RdB xs a e most zs a2 e2) : ys = zs ∧ a' = a2 ∧ e' = e2 := by
  rcases h with ⟨h1, rfl, rfl, rfl⟩ | ⟨h1, p, k, hp, h⟩ <;> rcases h' with ⟨k1, rfl, rfl, rfl⟩ | ⟨k1, q, j, hq, k2⟩
  · exact ⟨rfl, rfl, rfl⟩
  · exact absurd k1 h1
  · exact absurd h1 k1
  · obtain ⟨rfl, rfl⟩ := pk_unique hp hq
    rcases h with ⟨h2, rfl, rfl, rfl⟩ | ⟨h2, h3, rfl, rfl, rfl⟩ | ⟨h2, h3, h4, rfl, rfl, rfl⟩ | ⟨h2, h3, h4, rfl, rfl, rfl⟩ <;> rcases k2 with ⟨k2, rfl, rfl, rfl⟩ | ⟨k2, k3, rfl, rfl, rfl⟩ | ⟨k2, k3, k4, rfl, rfl, rfl⟩ | ⟨k2, k3, k4, rfl, rfl, rfl⟩ <;> first | exact ⟨rfl, rfl, rfl⟩ | (exfalso; omega)
theorem rd1_unique {xs : List Int} {a n m a' a2 : Nat} {e e' e2 : Int} (h : Rd1 xs a e n a' e') (h' : Rd1 xs a e m a2 e2) : n = m ∧ a' = a2 ∧ e' = e2 := by
  rcases h with ⟨h1, rfl, rfl, rfl⟩ | ⟨h1, k, hp, rfl, rfl⟩ <;> rcases h' with ⟨k1, rfl, rfl, rfl⟩ | ⟨k1, j, hq, rfl, rfl⟩
  · exact ⟨rfl, rfl, rfl⟩
  · exact absurd k1 h1
  · exact absurd h1 k1
  · obtain ⟨rfl, rfl⟩ := pk_unique hp hq
    exact ⟨rfl, rfl, rfl⟩
end Go.Proofs.Ytdogkhbfpbdfpaa.WireS
