import Derived.Test.YtnpphmgibgfjoaaProg
import Derived.Test.YtnpphmgibgfjoaaStrP
import Derived.WalkKit
import Derived.WalkSpells
import Derived.Lib.Hide
import Derived.Laws.BitsAllLaws
/- Straws: what the program's functions, and the reference's, come to. -/
namespace Go.Proofs.Ytnpphmgibgfjoaa.StrW
open Go.RowKit Go.Proofs.YtnpphmgibgfjoaaW.PrintWords KW MixP MixW StrP

/-- A block that was made stays. -/
theorem box_cell {W w1 : World} {cs : Array Value} {t : TypeId} (h : Below (W.alloc (.cells cs t)).heap.size (W.alloc (.cells cs t)) w1) (i : Nat) {v : Value} (hv : cs[i]? = some v) : w1.cell? ⟨W.heap.size, i, none⟩ = some v :=
  (blk_cell (blk_below (blk_new W (.cells cs t)) h) i).trans hv
theorem draws_calls (a b : Int) (w : World) :
    Calls Try.prog 104 #[.agg #[.int .i64 a, .int .i64 b]] w fun e w' => e = .returned (.bool (drB ⟨a, b⟩)) ∧ Below w.heap.size w w' := by
  have HB := Lib.hid (Below.refl w.heap.size w)
  by_cases h1 : 1 ≤ b
  · have e1 : drB ⟨a, b⟩ = decide (b ≤ 1073741824) := by unfold drB; simp [h1]
    rw [e1]
    clear e1
    go_enter Try.func104, Try.ntmps104
    go_wp2
    go_ret
    exact ⟨rfl, below_alloc HB.out _⟩
  · have e1 : drB ⟨a, b⟩ = false := by unfold drB; simp [h1]
    rw [e1]
    clear e1
    go_enter Try.func104, Try.ntmps104
    go_wp2
    go_ret
    exact ⟨rfl, below_alloc HB.out _⟩
theorem h3_lot (x id r : Int) : wrap64 (wrap64 (IntKind.u16.wrap (h3I x (id % 4294967296) r)) + 1) = ((lot x id r : Nat) : Int) := by
  rw [IntKind.wrap_u16]
  unfold lot
  generalize h3I x (id % 4294967296) r = h
  unfold wrap64
  omega
theorem r3_lot (x id r : Int) : wrap64 (wrap64 ((h3I x (id % 4294967296) r).tmod 65536) + 1) = ((lot x id r : Nat) : Int) := by
  have := h3I_range x (id % 4294967296) r
  rw [Int.tmod_eq_emod_of_nonneg this.1]
  unfold lot
  generalize h3I x (id % 4294967296) r = h
  unfold wrap64
  omega
theorem drV_no {x r : Int} {w : Wd} (h : drB w = false) : drV x r w = 0 := by
  unfold drV; rw [if_neg (by rw [h]; decide)]
theorem drV_yes {x r : Int} {w : Wd} (h : drB w = true) : drV x r w = numer x w.id r / w.wt := by
  unfold drV; rw [if_pos h]
theorem draw_calls (a b x r : Int) (w : World) :
    Calls Try.prog 95 #[.agg #[.int .i64 a, .int .i64 b], .int .u32 x, .int .u32 r] w fun e w' => e = .returned (.tuple #[.int .i64 (drV x r ⟨a, b⟩), .bool (drB ⟨a, b⟩)]) ∧ Below w.heap.size w w' := by
  cases hd : drB ⟨a, b⟩ with
  | false =>
    have e1 : drV x r ⟨a, b⟩ = 0 := drV_no hd
    rw [e1]
    clear e1
    have HD := Lib.hid hd
    clear hd
    go_enter Try.func95, Try.ntmps95
    go_wp2_with fail
    refine (draws_calls _ _ _).mono ?_
    rintro e w1 ⟨rfl, hb⟩
    have HB := Lib.hid (below_then (below_alloc (Below.refl _ _) _) (below_alloc (Below.refl _ _) _).size hb)
    clear hb
    rw [HD.out]
    go_wp2
    go_ret2
    exact ⟨rfl, HB.out⟩
  | true =>
    have hv : drV x r ⟨a, b⟩ = numer x a r / b := drV_yes hd
    have hwt : 1 ≤ b := ((drB_iff _).1 hd).1
    have HD := Lib.hid hd
    have HV := Lib.hid hv
    clear hd hv
    have hl := logn_le (lot_pos x a r) (lot_le x a r)
    have HL := Lib.hid (lot_le x a r)
    have HP : Hid (1 ≤ lot x a r) := Lib.hid (by have := lot_pos x a r; omega)
    have HT := Lib.hid (h3_lot x a r)
    go_enter Try.func95, Try.ntmps95
    go_wp2_with fail
    refine (draws_calls _ _ _).mono ?_
    rintro e w1 ⟨rfl, hb⟩
    rw [HD.out]
    have c0 := box_cell hb 0 rfl
    have c1 := box_cell hb 1 rfl
    have HB := Lib.hid (below_then (below_alloc (Below.refl _ _) _) (below_alloc (Below.refl _ _) _).size hb)
    clear hb
    go_wp2_with fail
    refine (hash3_calls _ _ _ _).mono ?_
    rintro e w2 ⟨rfl, rfl⟩
    go_wp2_with fail
    rw [HT.out]
    refine (log_some _ _ HP.out HL.out).mono ?_
    rintro e w3 ⟨rfl, rfl⟩
    clear HT
    generalize hg : logn (lot x a r) = g at *
    have HG := Lib.hid hg
    clear hg
    go_wp2
    go_ret2
    have e : drV x r ⟨a, b⟩ = (268435456 - (g : Int)) * 65536 / b := by rw [HV.out]; unfold numer; rw [HG.out]
    rw [e]
    exact ⟨rfl, HB.out⟩
theorem rdraw_calls (a b x r : Int) (w : World) :
    Calls Try.prog 96 #[.agg #[.int .i64 a, .int .i64 b], .int .u32 x, .int .u32 r] w fun e w' => e = .returned (.tuple #[.int .i64 (drV x r ⟨a, b⟩), .bool (drB ⟨a, b⟩)]) ∧ Below w.heap.size w w' := by
  have HB := Lib.hid (below_alloc (Below.refl w.heap.size w) (.cells #[.int .i64 a, .int .i64 b] 83))
  cases hd : drB ⟨a, b⟩ with
  | false =>
    have e1 : drV x r ⟨a, b⟩ = 0 := drV_no hd
    rw [e1]
    clear e1
    by_cases h1 : b < 1
    · clear hd
      go_enter Try.func96, Try.ntmps96
      go_wp2
      go_ret2
      exact ⟨rfl, HB.out⟩
    · have h2 : 1073741824 < b := by
        rcases Int.lt_or_le 1073741824 b with hc | hc
        · exact hc
        · rw [(drB_iff ⟨a, b⟩).2 ⟨by show 1 ≤ b; omega, hc⟩] at hd; cases hd
      have h3 : decide (1073741824 < b) = true := decide_eq_true h2
      clear hd h2
      go_enter Try.func96, Try.ntmps96
      go_wp2
      go_ret2
      exact ⟨rfl, HB.out⟩
  | true =>
    have hv : drV x r ⟨a, b⟩ = numer x a r / b := drV_yes hd
    have hwt : 1 ≤ b := ((drB_iff _).1 hd).1
    have h3 : decide (1073741824 < b) = false := decide_eq_false (by have h : b ≤ 1073741824 := ((drB_iff ⟨a, b⟩).1 hd).2; omega)
    have HV := Lib.hid hv
    clear hd hv
    have hl := logn_le (lot_pos x a r) (lot_le x a r)
    have HL := Lib.hid (lot_le x a r)
    have HP : Hid (1 ≤ lot x a r) := Lib.hid (by have := lot_pos x a r; omega)
    have HT := Lib.hid (r3_lot x a r)
    go_enter Try.func96, Try.ntmps96
    go_wp2_with fail
    refine (rhash3_calls _ _ _ _).mono ?_
    rintro e w2 ⟨rfl, rfl⟩
    go_wp2_with fail
    rw [HT.out]
    refine (ref_some _ _ HP.out HL.out).mono ?_
    rintro e w3 ⟨rfl, rfl⟩
    clear HT
    generalize hg : logn (lot x a r) = g at *
    have HG := Lib.hid hg
    clear hg
    go_wp2
    go_ret2
    have e : drV x r ⟨a, b⟩ = (268435456 - (g : Int)) * 65536 / b := by rw [HV.out]; unfold numer; rw [HG.out]
    rw [e]
    exact ⟨rfl, HB.out⟩

/-- The state behind the first i. -/
def St (x r : Int) (l : List Wd) (i : Nat) (at_ least : Int) : Prop := chs x r (l.drop i) i (at_, least) = chs x r l 0 (-1, 0)
theorem st_start (x r : Int) (l : List Wd) : St x r l 0 (-1) 0 := by unfold St; rw [List.drop_zero]; rfl
theorem st_step {x r : Int} {l : List Wd} {i : Nat} {a v : Int} {w : Wd} (h : St x r l i a v) (hw : l[i]? = some w) : St x r l (i + 1) (sstep x r i w (a, v)).1 (sstep x r i w (a, v)).2 := by
  obtain ⟨hl, hw⟩ := List.getElem?_eq_some_iff.1 hw
  unfold St at *
  rw [← h, List.drop_eq_getElem_cons hl, hw]
  rfl
theorem st_end {x r : Int} {l : List Wd} {i : Nat} {a v : Int} (h : St x r l i a v) (hi : l.length ≤ i) : pick x r l = a := by
  unfold St at h
  unfold pick
  rw [← h, List.drop_of_length_le hi]
  rfl
theorem step_yes {x r i : Int} {w : Wd} {a v : Int} (h : drB w = true) (h1 : a < 0 ∨ drV x r w < v) : sstep x r i w (a, v) = (i, drV x r w) := by
  unfold sstep; rw [if_pos (by simp [h, h1])]
theorem step_no {x r i : Int} {w : Wd} {a v : Int} (h : drB w = false ∨ (¬ a < 0 ∧ ¬ drV x r w < v)) : sstep x r i w (a, v) = (a, v) := by
  unfold sstep
  rw [if_neg]
  rcases h with h | ⟨h1, h2⟩
  · simp [h]
  · simp [h1, h2]
set_option maxHeartbeats 400000 in
theorem choose_calls (A : Option Addr) (c : Nat) (l : List Wd) (x r : Int) (w : World) (hc : kW.C w A l.length l) :
    Calls Try.prog 74 #[.slice A l.length c, .int .u32 x, .int .u32 r] w fun e w' => e = .returned (.int .i64 (pick x r l)) ∧ Below w.heap.size w w' := by
  have HC := Lib.hid hc
  have hm : l.length ≤ 9223372036854775807 := hc.2.1
  clear hc
  go_enter Try.func74, Try.ntmps74
  go_wp2
  go_loopw [7, 8, 15] (fun a v i wr => ∃ (ai vi : Int) (k : Nat), a = .int .i64 ai ∧ v = .int .i64 vi ∧ i = .int .i64 k ∧ k ≤ l.length ∧ Hid (St x r l k ai vi) ∧ Hid (Below w.heap.size w wr)) (fun _ _ i _ => l.length - (intOf i).toNat)
  case atStart => exact ⟨_, _, 0, rfl, rfl, rfl, Nat.zero_le _, Lib.hid (st_start x r l), Lib.hid (Below.refl _ _)⟩
  case round =>
    obtain ⟨a, v, k, rfl, rfl, rfl, hk, HS, HB⟩ := hrel
    by_cases h : k < l.length
    · obtain ⟨ad, u, hu, rfl, c0, c1⟩ := at_W (Kd.C_below HC.out HB.out) k h
      have HU := Lib.hid hu
      have hk1 : decide (k < l.length) = true := decide_eq_true h
      have i0 : (0 : Int) ≤ k := by omega
      clear hu
      go_wp2_with fail
      refine (draw_calls _ _ _ _ _).mono ?_
      rintro e w1 ⟨rfl, hb⟩
      have hB := Lib.hid (below_then (below_alloc HB.out _) (below_alloc HB.out _).size hb)
      clear hb HB c0 c1
      have HB := hB
      clear hB
      by_cases hd : drB u = true
      · by_cases h1 : a < 0
        · have HN := Lib.hid (st_step HS.out HU.out)
          rw [step_yes hd (.inl h1)] at HN
          have e1 := Lib.hid hd
          have t1 : decide (a < 0) = true := decide_eq_true h1
          clear hd h1
          rw [show (⟨u.id, u.wt⟩ : Wd) = u from rfl, e1.out]
          go_wp2_with fail
          go_roundw
          case rel => exact ⟨_, _, k + 1, rfl, rfl, by go_num, by omega, HN, HB⟩
          case measure => simp [intOf]; omega
        · by_cases h2 : drV x r u < v
          · have HN := Lib.hid (st_step HS.out HU.out)
            rw [step_yes hd (.inr h2)] at HN
            have e1 := Lib.hid hd
            have t1 : decide (a < 0) = false := decide_eq_false h1
            have t2 : decide (drV x r u < v) = true := decide_eq_true h2
            clear hd h1 h2
            rw [show (⟨u.id, u.wt⟩ : Wd) = u from rfl, e1.out]
            go_wp2_with fail
            go_roundw
            case rel => exact ⟨_, _, k + 1, rfl, rfl, by go_num, by omega, HN, HB⟩
            case measure => simp [intOf]; omega
          · have HN := Lib.hid (st_step HS.out HU.out)
            rw [step_no (.inr ⟨h1, h2⟩)] at HN
            have e1 := Lib.hid hd
            have t1 : decide (a < 0) = false := decide_eq_false h1
            have t2 : decide (drV x r u < v) = false := decide_eq_false h2
            clear hd h1 h2
            rw [show (⟨u.id, u.wt⟩ : Wd) = u from rfl, e1.out]
            go_wp2_with fail
            go_roundw
            case rel => exact ⟨_, _, k + 1, rfl, rfl, by go_num, by omega, HN, HB⟩
            case measure => simp [intOf]; omega
      · have hd : drB u = false := by cases h : drB u with | true => exact absurd h hd | false => rfl
        have HN := Lib.hid (st_step HS.out HU.out)
        rw [step_no (.inl hd)] at HN
        have e1 := Lib.hid hd
        clear hd
        rw [show (⟨u.id, u.wt⟩ : Wd) = u from rfl, e1.out]
        go_wp2_with fail
        go_roundw
        case rel => exact ⟨_, _, k + 1, rfl, rfl, by go_num, by omega, HN, HB⟩
        case measure => simp [intOf]; omega
    · have HE := Lib.hid (st_end HS.out (by omega))
      have hk1 : decide (k < l.length) = false := decide_eq_false h
      clear h
      go_wp2
      go_ret
      rw [HE.out]
      exact ⟨rfl, HB.out⟩
set_option maxHeartbeats 400000 in
theorem rchoose_calls (A : Option Addr) (c : Nat) (l : List Wd) (x r : Int) (w : World) (hc : kW.C w A l.length l) :
    Calls Try.prog 78 #[.slice A l.length c, .int .u32 x, .int .u32 r] w fun e w' => e = .returned (.int .i64 (pick x r l)) ∧ Below w.heap.size w w' := by
  have HC := Lib.hid hc
  have hm : l.length ≤ 9223372036854775807 := hc.2.1
  clear hc
  go_enter Try.func78, Try.ntmps78
  go_wp2
  go_loopw [7, 8, 9] (fun a v i wr => ∃ (ai vi : Int) (k : Nat), a = .int .i64 ai ∧ v = .int .i64 vi ∧ i = .int .i64 k ∧ k ≤ l.length ∧ Hid (St x r l k ai vi) ∧ Hid (Below w.heap.size w wr)) (fun _ _ i _ => l.length - (intOf i).toNat)
  case atStart => exact ⟨_, _, 0, rfl, rfl, rfl, Nat.zero_le _, Lib.hid (st_start x r l), Lib.hid (Below.refl _ _)⟩
  case round =>
    obtain ⟨a, v, k, rfl, rfl, rfl, hk, HS, HB⟩ := hrel
    by_cases h : k < l.length
    · obtain ⟨ad, u, hu, rfl, c0, c1⟩ := at_W (Kd.C_below HC.out HB.out) k h
      have HU := Lib.hid hu
      have hk1 : decide (k < l.length) = true := decide_eq_true h
      have i0 : (0 : Int) ≤ k := by omega
      clear hu
      go_wp2_with fail
      refine (rdraw_calls _ _ _ _ _).mono ?_
      rintro e w1 ⟨rfl, hb⟩
      have hB := Lib.hid (below_then HB.out HB.out.size hb)
      clear hb HB c0 c1
      have HB := hB
      clear hB
      by_cases hd : drB u = true
      · by_cases h1 : a < 0
        · have HN := Lib.hid (st_step HS.out HU.out)
          rw [step_yes hd (.inl h1)] at HN
          have e1 := Lib.hid hd
          have t1 : decide (a < 0) = true := decide_eq_true h1
          clear hd h1
          rw [show (⟨u.id, u.wt⟩ : Wd) = u from rfl, e1.out]
          go_wp2_with fail
          go_roundw
          case rel => exact ⟨_, _, k + 1, rfl, rfl, by go_num, by omega, HN, HB⟩
          case measure => simp [intOf]; omega
        · by_cases h2 : drV x r u < v
          · have HN := Lib.hid (st_step HS.out HU.out)
            rw [step_yes hd (.inr h2)] at HN
            have e1 := Lib.hid hd
            have t1 : decide (a < 0) = false := decide_eq_false h1
            have t2 : decide (drV x r u < v) = true := decide_eq_true h2
            clear hd h1 h2
            rw [show (⟨u.id, u.wt⟩ : Wd) = u from rfl, e1.out]
            go_wp2_with fail
            go_roundw
            case rel => exact ⟨_, _, k + 1, rfl, rfl, by go_num, by omega, HN, HB⟩
            case measure => simp [intOf]; omega
          · have HN := Lib.hid (st_step HS.out HU.out)
            rw [step_no (.inr ⟨h1, h2⟩)] at HN
            have e1 := Lib.hid hd
            have t1 : decide (a < 0) = false := decide_eq_false h1
            have t2 : decide (drV x r u < v) = false := decide_eq_false h2
            clear hd h1 h2
            rw [show (⟨u.id, u.wt⟩ : Wd) = u from rfl, e1.out]
            go_wp2_with fail
            go_roundw
            case rel => exact ⟨_, _, k + 1, rfl, rfl, by go_num, by omega, HN, HB⟩
            case measure => simp [intOf]; omega
      · have hd : drB u = false := by cases h : drB u with | true => exact absurd h hd | false => rfl
        have HN := Lib.hid (st_step HS.out HU.out)
        rw [step_no (.inl hd)] at HN
        have e1 := Lib.hid hd
        clear hd
        rw [show (⟨u.id, u.wt⟩ : Wd) = u from rfl, e1.out]
        go_wp2_with fail
        go_roundw
        case rel => exact ⟨_, _, k + 1, rfl, rfl, by go_num, by omega, HN, HB⟩
        case measure => simp [intOf]; omega
    · have HE := Lib.hid (st_end HS.out (by omega))
      have hk1 : decide (k < l.length) = false := decide_eq_false h
      clear h
      go_wp2
      go_ret
      rw [HE.out]
      exact ⟨rfl, HB.out⟩

end Go.Proofs.Ytnpphmgibgfjoaa.StrW
