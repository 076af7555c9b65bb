import Derived.Test.YtffmhbblcihogaaPeerC
import Derived.Lib.QuietBelow
/- The small question of the laws of peering. -/
namespace Go.Proofs.Ytffmhbblcihogaa.PeerA
open Go.RowKit Go.Proofs.YtffmhbblcihogaaW.PrintWords PAll PeerP Opns Mem PeerK PeerT PeerF PeerS PeerC
theorem C_of_reps {α : Type} {d : Kd α} {w : World} {g e : Nat} {cs : Array Value} {ps : List α} (hb : w.heap[g]? = some (.cells cs e (0, 0))) (hr : Reps (d.K w) d.sz ps cs.toList) (hm : ps.length ≤ 9223372036854775807) : d.C w (some ⟨g, 0, none⟩) ps.length ps := by
  refine ⟨rfl, hm, fun _ => ⟨_, rfl, fun j p hj => ⟨(cs.toList.drop (j * d.sz)).take d.sz, d.K_len (hr.2 j p hj), hr.2 j p hj, fun i u hu => ?_⟩⟩⟩
  rw [add_plain, blk_cell hb]
  rw [List.getElem?_take] at hu
  split at hu
  · rw [List.getElem?_drop] at hu
    rw [← Array.getElem?_toList]; exact hu
  · cases hu
def px (h : Nat) : Xe := ⟨⟨3, 0, [5, 6, 7], [1, 1, 1], [], 0⟩, some ⟨h, 0, none⟩, 3, some ⟨h + 1, 0, none⟩, 3, none, 0⟩
def q1 : Ie := ⟨⟨5, 1, 3, 5, []⟩, none, 0⟩
def q2 : Ie := ⟨⟨6, 1, 3, 4, []⟩, none, 0⟩
def q3 : Ie := ⟨⟨7, 1, 0, 0, []⟩, none, 0⟩
theorem C_none {α : Type} (d : Kd α) (w : World) : d.C w none ([] : List α).length [] := Kd.C_nil d w
theorem ints_block {w : World} {g : Nat} {cs : Array Value} {xs : List Int} (hb : w.heap[g]? = some (.cells cs 3 (0, 0))) (hc : cs.toList = nums .i64 xs) (hm : xs.length ≤ 9223372036854775807) : (Kd.int .i64).C w (some ⟨g, 0, none⟩) xs.length xs := by
  refine Kd.C_of_reads (d := (0 : Int)) ⟨rfl, hm, fun h => ⟨_, rfl, fun j hj => ?_⟩⟩
  rw [add_plain, blk_cell hb, ← Array.getElem?_toList, hc]
  simp [nums, List.getD_eq_getElem?_getD, List.getElem?_eq_getElem hj]
theorem choose_px (h : Nat) : PeerP.choose [q1, q2] 2 (xs_ [px h]) = ⟨3, 3, 4, 2⟩ := by
  have hs : sorted [5, 4] = [4, 5] := by simp [sorted, List.mergeSort, List.MergeSort.Internal.splitInTwo]
  have ht : told (px h).x [] [q1, q2] = [q1, q2] := rfl
  have hh : heads (px h).x [q1, q2] = [5, 4] := rfl
  simp only [xs_, List.map_cons, List.map_nil, PeerP.choose]
  rw [ht, if_pos (show ((2 : Nat) : Int) ≤ many (px h).x.act from (by decide : ((2 : Nat) : Int) ≤ many [5, 6, 7])), hh, if_pos (by decide)]
  have ho : headOf (px h).x [q1, q2] 2 = 4 := by unfold headOf; rw [hh, hs]; rfl
  unfold stateOf
  rw [ho]
  rfl
theorem lacks_px (h : Nat) : lacks (px h).x q3.x = true := rfl
abbrev W1 (w : World) : World := w.alloc (.cells #[.int .i64 5, .int .i64 6, .int .i64 7] 3)
abbrev W2 (w : World) : World := (W1 w).alloc (.cells #[.int .i64 1, .int .i64 1, .int .i64 1] 3)
abbrev X_ (h : Nat) : Array Value := #[.int .i64 3, .int .i64 0, .slice (some ⟨h, 0, none⟩) 3 3, .slice (some ⟨h + 1, 0, none⟩) 3 3, .slice none 0 0, .int .i64 0]
abbrev W3 (w : World) : World := (W2 w).alloc (.cells (X_ w.heap.size) 33)
abbrev W4 (w : World) : World := (W3 w).alloc (.cells (X_ w.heap.size) 33)
abbrev W5 (w : World) : World := (W4 w).alloc (.cells #[.int .i64 5, .int .i64 1, .int .i64 3, .int .i64 5, .slice none 0 0, .int .i64 6, .int .i64 1, .int .i64 3, .int .i64 4, .slice none 0 0] 38)
theorem blks (w : World) : (W5 w).heap[w.heap.size]? = some (.cells #[.int .i64 5, .int .i64 6, .int .i64 7] 3 (0, 0)) ∧ (W5 w).heap[w.heap.size + 1]? = some (.cells #[.int .i64 1, .int .i64 1, .int .i64 1] 3 (0, 0)) ∧ (W5 w).heap[w.heap.size + 1 + 1]? = some (.cells (X_ w.heap.size) 33 (0, 0)) ∧ (W5 w).heap[w.heap.size + 1 + 1 + 1]? = some (.cells (X_ w.heap.size) 33 (0, 0)) ∧ (W5 w).heap[w.heap.size + 1 + 1 + 1 + 1]? = some (.cells #[.int .i64 5, .int .i64 1, .int .i64 3, .int .i64 5, .slice none 0 0, .int .i64 6, .int .i64 1, .int .i64 3, .int .i64 4, .slice none 0 0] 38 (0, 0)) := by
  have s1 : (W1 w).heap.size = w.heap.size + 1 := by simp
  have s2 : (W2 w).heap.size = w.heap.size + 1 + 1 := by simp
  have s3 : (W3 w).heap.size = w.heap.size + 1 + 1 + 1 := by simp
  have s4 : (W4 w).heap.size = w.heap.size + 1 + 1 + 1 + 1 := by simp
  refine ⟨blk_alloc (blk_alloc (blk_alloc (blk_alloc (blk_new _ _) _) _) _) _, blk_alloc (blk_alloc (blk_alloc ?_ _) _) _, blk_alloc (blk_alloc ?_ _) _, blk_alloc ?_ _, ?_⟩
  · rw [← s1]; exact blk_new _ _
  · rw [← s2]; exact blk_new _ _
  · rw [← s3]; exact blk_new _ _
  · rw [← s4]; exact blk_new _ _
theorem below5 (w : World) : Below w.heap.size w (W5 w) := below_alloc (below_alloc (below_alloc (below_alloc (below_alloc (Below.refl _ _) _) _) _) _) _
theorem good_px (w : World) : GoodX (W5 w) (px w.heap.size) := by
  obtain ⟨b0, b1, _⟩ := blks w
  exact ⟨Nat.le_refl 3, ints_block (xs := [5, 6, 7]) b0 rfl (by decide), Nat.le_refl 3, ints_block (xs := [1, 1, 1]) b1 rfl (by decide), Nat.le_refl 0, Kd.C_nil _ _⟩
theorem good_q (w : World) (q : Ie) (h : q.x.next = []) (hA : q.A = none) : GoodE w q := by
  refine ⟨by rw [h]; exact Nat.zero_le _, ?_⟩
  rw [h, hA]
  exact Kd.C_nil _ _
theorem lits (w : World) : kX.C (W5 w) (some ⟨w.heap.size + 1 + 1 + 1, 0, none⟩) 1 [px w.heap.size] ∧ kE.C (W5 w) (some ⟨w.heap.size + 1 + 1 + 1 + 1, 0, none⟩) 2 [q1, q2] := by
  obtain ⟨_, _, _, b3, b4⟩ := blks w
  refine ⟨C_of_reps (d := kX) (ps := [px w.heap.size]) b3 ⟨rfl, fun j p hj => ?_⟩ (show 1 ≤ 9223372036854775807 by decide), C_of_reps (d := kE) (ps := [q1, q2]) b4 ⟨rfl, fun j p hj => ?_⟩ (by decide)⟩
  · match j, hj with
    | 0, hj => obtain rfl := Option.some.inj hj; exact kX_mk _ (px w.heap.size)
    | j + 1, hj => cases hj
  · match j, hj with
    | 0, hj => obtain rfl := Option.some.inj hj; exact kE_mk _ q1
    | 1, hj => obtain rfl := Option.some.inj hj; exact kE_mk _ q2
    | j + 2, hj => cases hj
set_option maxRecDepth 100000 in
theorem awake_calls (w : World) : Calls Try.prog 8 #[] w fun e w' => e = .returned (.bool true) ∧ Below w.heap.size w w' := by
  have HB5 := Lib.hid (below5 w)
  have HBL := Lib.hid (blks w)
  have T := choose_good (some ⟨w.heap.size + 1 + 1 + 1, 0, none⟩) 1 [px w.heap.size] (some ⟨w.heap.size + 1 + 1 + 1 + 1, 0, none⟩) 2 [q1, q2] (W5 w) 2 (lits w).1
    (fun p hp => by obtain rfl := List.mem_singleton.1 hp; exact good_px w) (lits w).2
    (fun i hi => by
      rcases List.mem_cons.1 hi with rfl | hi
      · exact ⟨good_q _ _ rfl rfl, rfl⟩
      · obtain rfl := List.mem_singleton.1 hi; exact ⟨good_q _ _ rfl rfl, rfl⟩) (by decide) (by decide) rfl
  rw [choose_px] at T
  have HT := Lib.hid T
  have HG := Lib.hid (good_px w)
  clear T
  go_enter Try.func8, Try.ntmps8
  go_wp2_with fail
  refine HT.out.mono ?_
  rintro e w6 ⟨A, c, rfl, hb⟩
  have HX : Hid (w6.heap[w.heap.size + 1 + 1]? = some (.cells (aggX (px w.heap.size)) 33 (0, 0))) := Lib.hid (blk_below HBL.out.2.2.1 hb)
  have HB6 := Lib.hid (below_then HB5.out HB5.out.size hb)
  have HB7 := Lib.hid (below_alloc HB6.out (.cells #[.int .i64 3, .int .i64 3, .int .i64 4, .slice A 2 c] 27))
  have T := Lib.hid (lacks_calls (px w.heap.size) q3 (w6.alloc (.cells #[.int .i64 3, .int .i64 3, .int .i64 4, .slice A 2 c] 27)) (((HG.out.below hb)).below (below_alloc (Below.refl _ _) _)) (good_q _ _ rfl rfl))
  have HX7 := Lib.hid (blk_alloc HX.out (.cells #[.int .i64 3, .int .i64 3, .int .i64 4, .slice A 2 c] 27))
  obtain ⟨y0, y1, y2, y3, y4, y5⟩ := blkX HX7.out
  have y0 : (w6.alloc (.cells #[.int .i64 3, .int .i64 3, .int .i64 4, .slice A 2 c] 27)).cell? ⟨w.heap.size + 1 + 1, 0, none⟩ = some (.int .i64 3) := y0
  have y1 : (w6.alloc (.cells #[.int .i64 3, .int .i64 3, .int .i64 4, .slice A 2 c] 27)).cell? ⟨w.heap.size + 1 + 1, 1, none⟩ = some (.int .i64 0) := y1
  have y2 : (w6.alloc (.cells #[.int .i64 3, .int .i64 3, .int .i64 4, .slice A 2 c] 27)).cell? ⟨w.heap.size + 1 + 1, 2, none⟩ = some (.slice (some ⟨w.heap.size, 0, none⟩) 3 3) := y2
  have y3 : (w6.alloc (.cells #[.int .i64 3, .int .i64 3, .int .i64 4, .slice A 2 c] 27)).cell? ⟨w.heap.size + 1 + 1, 3, none⟩ = some (.slice (some ⟨w.heap.size + 1, 0, none⟩) 3 3) := y3
  have y4 : (w6.alloc (.cells #[.int .i64 3, .int .i64 3, .int .i64 4, .slice A 2 c] 27)).cell? ⟨w.heap.size + 1 + 1, 4, none⟩ = some (.slice none 0 0) := y4
  have y5 : (w6.alloc (.cells #[.int .i64 3, .int .i64 3, .int .i64 4, .slice A 2 c] 27)).cell? ⟨w.heap.size + 1 + 1, 5, none⟩ = some (.int .i64 0) := y5
  clear hb HT
  go_wp2_with fail
  refine T.out.mono ?_
  rintro e w7 ⟨rfl, hb⟩
  rw [lacks_px]
  have HB8 := Lib.hid (below_then HB7.out HB7.out.size hb)
  clear hb
  go_wp2_with fail
  go_ret
  exact ⟨rfl, HB8.out⟩
end Go.Proofs.Ytffmhbblcihogaa.PeerA
