import Derived.Test.YtffmhbblcihogaaPeerT
/- Does one that tells lack an interval: the walk of slices.ContainsFunc at it. -/
namespace Go.Proofs.Ytffmhbblcihogaa.PeerF
open Go.RowKit Go.Proofs.YtffmhbblcihogaaW.PrintWords PAll PeerP Opns Mem PeerK
/-- The function's value. -/
abbrev fv (g : Nat) : Value := .func (.func 18) #[] #[.pointer (some ⟨g, 0, none⟩)]
theorem lack_calls (p : Xe) (q : Ie) (g : Nat) (w : World) (hp : GoodX w p) (hq : GoodE w q) (hb : w.heap[g]? = some (.cells (aggX p) 33 (0, 0))) :
    Calls Try.prog 18 #[.agg (aggE q), .pointer (some ⟨g, 0, none⟩)] w fun e w' => e = .returned (.bool (lacks p.x q.x)) ∧ Below w.heap.size w w' := by
  have HBA := Lib.hid (below_alloc (Below.refl w.heap.size w) (.cells (aggE q) 38))
  have T := Lib.hid (lacks_calls p q (w.alloc (.cells (aggE q) 38)) (hp.below HBA.out) (hq.below HBA.out))
  have HX := Lib.hid (blk_alloc hb (.cells (aggE q) 38))
  obtain ⟨c0, c1, c2, c3, c4, c5⟩ := blkX HX.out
  clear hp hq hb
  go_enter Try.func18, Try.ntmps18
  go_wp2_with fail
  refine T.out.mono ?_
  rintro e w1 ⟨rfl, hb⟩
  have HB1 := Lib.hid (below_then HBA.out HBA.out.size hb)
  clear hb
  go_wp2_with fail
  go_ret
  exact ⟨rfl, HB1.out⟩
/-- Which one lacks first: from n on none so far. -/
def firstL (x : Iv) (l : List Ie) (n : Nat) : Prop := ∀ i q, i < n → l[i]? = some q → lacks x q.x = false
set_option maxHeartbeats 1600000 in
theorem index_calls (p : Xe) (A : Option Addr) (c : Nat) (l : List Ie) (g : Nat) (w : World) (hp : GoodX w p) (hx : kE.C w A l.length l) (hg : ∀ i ∈ l, GoodE w i) (hb : w.heap[g]? = some (.cells (aggX p) 33 (0, 0))) :
    Calls Try.prog 23 #[.slice A l.length c, fv g] w fun e w' => ∃ r : Int, e = .returned (.int .i64 r) ∧ decide (r ≥ 0) = anyLacks p.x l ∧ Below w.heap.size w w' := by
  have HP := Lib.hid hp
  have HC := Lib.hid hx
  have HG := Lib.hid hg
  have HX := Lib.hid hb
  have hm : l.length ≤ 9223372036854775807 := hx.2.1
  have HB0 := Lib.hid (Below.refl w.heap.size w)
  clear hp hx hg hb
  go_enter Try.func23, Try.ntmps23
  go_wp2_with fail
  go_loopw [8] (fun i' wr => ∃ (n : Nat), i' = .int .i64 n ∧ Hid (n ≤ l.length ∧ firstL p.x l n) ∧ Hid (Below w.heap.size w wr)) (fun i' _ => (l.length - intOf i').toNat)
  case atStart => exact ⟨0, rfl, Lib.hid ⟨Nat.zero_le _, fun i q hi => absurd hi (by omega)⟩, HB0⟩
  case round =>
    obtain ⟨n, rfl, HN, HB⟩ := hrel
    have hn := HN.out.1
    by_cases h : n < l.length
    · have hlt : decide (n < l.length) = true := decide_eq_true h
      have i0 : (0 : Int) ≤ n := by omega
      obtain ⟨ad, q, hq, hA, a0, a1, a2, a3, a4⟩ := at_E (Kd.C_below HC.out HB.out) n h
      subst hA
      have HQ := Lib.hid hq
      have T := Lib.hid (lack_calls p q g wr (HP.out.below HB.out) ((HG.out q (List.mem_of_getElem? hq)).below HB.out) (blk_below HX.out HB.out))
      clear hq
      go_wp2_with fail
      refine T.out.mono ?_
      rintro e w1 ⟨rfl, hb⟩
      have HB1 := Lib.hid (below_then HB.out HB.out.size hb)
      clear hb T HB
      cases hl : lacks p.x q.x
      · have HLK := Lib.hid hl
        clear hl
        go_wp2_with fail
        go_roundw
        case rel =>
          refine ⟨n + 1, by go_num, Lib.hid ⟨by omega, fun i z hi hz => ?_⟩, HB1⟩
          rcases Nat.lt_or_ge i n with h1 | h1
          · exact HN.out.2 i z h1 hz
          · obtain rfl : i = n := by omega
            rw [HQ.out] at hz
            obtain rfl := Option.some.inj hz
            exact HLK.out
        case measure => simp only [intOf]; omega
      · have HLK := Lib.hid hl
        clear hl
        go_wp2_with fail
        go_ret
        refine ⟨n, rfl, ?_, HB1.out⟩
        rw [decide_eq_true (by omega)]
        exact (List.any_eq_true.2 ⟨q, List.mem_of_getElem? HQ.out, HLK.out⟩).symm
    · obtain rfl : n = l.length := by omega
      have hlt : decide (l.length < l.length) = false := decide_eq_false (by omega)
      go_wp2_with fail
      go_ret
      refine ⟨-1, rfl, ?_, HB.out⟩
      have : anyLacks p.x l = false := by
        unfold anyLacks
        rw [List.any_eq_false]
        intro q hq
        obtain ⟨i, hi, e⟩ := List.mem_iff_getElem.1 hq
        have := HN.out.2 i q hi (by rw [List.getElem?_eq_getElem hi, e])
        rw [this]
        decide
      rw [this]
      rfl
theorem contains_calls (p : Xe) (A : Option Addr) (c : Nat) (l : List Ie) (g : Nat) (w : World) (hp : GoodX w p) (hx : kE.C w A l.length l) (hg : ∀ i ∈ l, GoodE w i) (hb : w.heap[g]? = some (.cells (aggX p) 33 (0, 0))) :
    Calls Try.prog 17 #[.slice A l.length c, fv g] w fun e w' => e = .returned (.bool (anyLacks p.x l)) ∧ Below w.heap.size w w' := by
  have T := Lib.hid (index_calls p A c l g w hp hx hg hb)
  clear hp hx hg hb
  go_enter Try.func17, Try.ntmps17
  go_wp2_with fail
  refine T.out.mono ?_
  rintro e w1 ⟨r, rfl, hr, hb⟩
  have HR := Lib.hid hr
  have HB1 := Lib.hid hb
  clear hb hr
  go_wp2_with fail
  go_ret
  refine ⟨?_, HB1.out⟩
  rw [← HR.out]
  rfl
end Go.Proofs.Ytffmhbblcihogaa.PeerF
