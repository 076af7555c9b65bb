import Derived.Test.YtnpphmgibgfjoaaRoo
import Derived.Test.YtnpphmgibgfjoaaShelf
import Derived.Laws.CopyRow
import Derived.Laws.CopyOwn
import Derived.Laws.OwnMore
import Derived.Deep.RegionWith
/- slices.Repeat of one hole. -/
namespace Go.Proofs.Ytnpphmgibgfjoaa.Rep
open Go Go.RowKit Go.Proofs.YtnpphmgibgfjoaaW.PrintWords Go.Proofs.YtnpphmgibgfjoaaW.PrintMore Mem PAll AtA
abbrev holes (n k : Nat) : Array Value := (List.replicate k (Value.int .i64 (-1)) ++ List.replicate (n - k) (Value.int .i64 0)).toArray
theorem made_holes (n : Nat) : madeCells (Value.int .i64 0).cells n = holes n 0 := by
  have h := toList_madeCells_one (Value.int .i64 0) n
  rw [← Array.toArray_toList (xs := madeCells (Value.int .i64 0).cells n)]
  show ((madeCells #[Value.int .i64 0] n).toList).toArray = _
  rw [h]
  simp [holes]
theorem infoI : (Try.prog.info? 3).map (fun i => (i.zero, i.size, i.bytes)) = some (some (.int .i64 0), 1, 8) := by kernel_rfl
theorem make_run (n : Nat) (hn : n ≤ 32) (w : World) : (Instr.makeSlice 33 (.int .i64 n) (.int .i64 n)).run Try.prog w = .ok (.slice (some ⟨w.heap.size, 0, none⟩) n n) (w.alloc (.cells (holes n 0) 3)) := by
  have hi := infoI
  cases h : Try.prog.info? 3 with
  | none => rw [h] at hi; cases hi
  | some i =>
    rw [h] at hi
    simp only [Option.map_some, Option.some.injEq, Prod.mk.injEq] at hi
    have e := run_makeSlice (P := Try.prog) (w := w) 33 3 i (.int .i64 0) Try.underlying33 h hi.1 .i64 .i64 (n : Int) (n : Int) (by omega) (Int.le_refl _) (by rw [hi.2.1]; simp; omega) (by rw [hi.2.2]; omega) (by omega)
    rw [hi.2.1] at e
    simp only [Int.toNat_natCast, Nat.mul_one] at e
    rw [e, made_holes]
theorem copy_hole {W : World} {g n k m : Nat} (hh : W.heap[g]? = some (.cells (holes n k) 3 (0, 0))) (hkm : k + m ≤ n) (a : Addr) (ha : ∀ j, j < m → W.cell? (a.add j) = some (.int .i64 (-1))) (sl sc dc : Nat) (hm : m = Nat.min sl (n - k)) (ty : TypeId) :
    (Builtin.copy_ #[33, 33] ty #[.slice (some ⟨g, k, none⟩) (n - k) dc, .slice (some a) sl sc]).run Try.prog W = .ok (.int .i64 m) (W.setRow g (holes n (k + m))) := by
  have hsz : (holes n k).size = n := by simp; omega
  have e := run_copy_row (P := Try.prog) W 33 33 ty 3 g k (n - k) dc a sl sc (holes n k) 3 (List.replicate m (.int .i64 (-1))) Try.underlying33 (by have := infoI; cases h : Try.prog.info? 3 with | none => rw [h] at this; cases this | some i => rw [h] at this; simp only [Option.map_some, Option.some.injEq, Prod.mk.injEq] at this; simp [this.2.1]) hh (by simpa using hm)
    (fun j v hj => by
      have hjm : j < m := by have := (List.getElem?_eq_some_iff.1 hj).1; simpa using this
      rw [List.getElem?_replicate, if_pos hjm] at hj
      rw [ha j hjm, hj]) (by rw [hsz, List.length_replicate]; exact hkm) (fun v hv => by rw [List.eq_of_mem_replicate hv]; rfl)
  rw [e]
  have e2 : ((holes n k).toList.take k ++ List.replicate m (Value.int .i64 (-1)) ++ (holes n k).toList.drop (k + (List.replicate m (Value.int .i64 (-1))).length)).toArray = holes n (k + m) := by
    refine congrArg List.toArray ?_
    simp only [List.length_replicate]
    rw [List.take_left' (by simp), List.drop_append, List.drop_replicate, List.drop_replicate]
    simp only [List.length_replicate]
    rw [show k - (k + m) = 0 by omega, List.replicate_zero, List.nil_append, show n - k - (k + m - k) = n - (k + m) by omega, ← List.replicate_append_replicate]
  rw [e2]
  simp [goInt]
set_option maxHeartbeats 1600000 in
set_option maxRecDepth 100000 in
theorem repeat_calls (g0 n : Nat) (w : World) (hg : w.heap[g0]? = some (.cells #[.int .i64 (-1)] 3 (0, 0))) (hn : 1 ≤ n) (hn2 : n ≤ 32) :
    Calls Try.prog 41 #[.slice (some ⟨g0, 0, none⟩) 1 1, .int .i64 n] w fun e w' => ∃ g, e = .returned (.slice (some ⟨g, 0, none⟩) n n) ∧ w.heap.size ≤ g ∧ w'.heap[g]? = some (.cells (Array.replicate n (.int .i64 (-1))) 3 (0, 0)) ∧ Below w.heap.size w w' := by
  have HG := Lib.hid hg
  have HN := Lib.hid hn
  have HN2 := Lib.hid hn2
  have T := Lib.hid (Try.bits_Mul 1 n (by decide) (by omega) w)
  rw [show 1 * n / 18446744073709551616 = 0 by omega, show 1 * n % 18446744073709551616 = n by omega] at T
  have k1 : IntKind.u64.wrap 1 = 1 := rfl
  have k2 : IntKind.u64.wrap (n : Int) = n := by rw [IntKind.wrap_u64]; omega
  have k3 : IntKind.i64.wrap (n : Int) = n := IntWalk.i64_in _ (by omega)
  have d1 : decide ((n : Int) < 0) = false := decide_eq_false (by omega)
  have d2 : decide (9223372036854775807 < (n : Int)) = false := decide_eq_false (by omega)
  clear hg hn hn2
  go_enter Try.func41, Try.ntmps41
  go_wp2_with fail
  refine T.out.mono ?_
  rintro e w1 ⟨rfl, rfl⟩
  clear T
  have hmk := make_run n HN2.out w1
  have HH1 : Hid ((w1.alloc (.cells (holes n 0) 3)).heap[w1.heap.size]? = some (.cells (holes n 0) 3 (0, 0))) := Lib.hid (blk_new _ _)
  have HB1 := Lib.hid (below_alloc (Below.refl w1.heap.size w1) (.cells (holes n 0) 3))
  have hcp := fun ty => copy_hole HH1.out (k := 0) (m := 1) (by have := HN.out; omega) ⟨g0, 0, none⟩ (fun j hj => by
    obtain rfl : j = 0 := by omega
    exact blk_cell (blk_below HG.out HB1.out) 0) 1 1 n (by rw [Nat.sub_zero]; exact (Nat.min_eq_left HN.out).symm) ty
  rw [Nat.sub_zero, Nat.zero_add] at hcp
  have HH2 := Lib.hid (setRow_heap _ w1.heap.size (holes n 0) (holes n 1) 3 (0, 0) HH1.out)
  have HB2 := Lib.hid (below_setRow HB1.out (Nat.le_refl _) (holes n 1))
  go_wp2_with fail
  obtain ⟨g, hg⟩ : ∃ g, g = w1.heap.size := ⟨_, rfl⟩
  obtain ⟨w2, hw2⟩ : ∃ w2, w2 = (w1.alloc (.cells (holes n 0) 3)).setRow w1.heap.size (holes n 1) := ⟨_, rfl⟩
  rw [← hw2] at HH2 HB2 ⊢
  rw [← hg] at HH2 ⊢
  have HGE := Lib.hid hg
  clear hw2 hg hcp hmk HH1 HB1
  go_loopw [8] (fun v8 wr => ∃ k : Nat, v8 = .int .i64 k ∧ Hid (1 ≤ k ∧ k ≤ n) ∧ Hid (wr.heap[g]? = some (.cells (holes n k) 3 (0, 0))) ∧ Hid (Below w1.heap.size w1 wr)) (fun v8 _ => (n - intOf v8).toNat)
  case atStart => exact ⟨1, rfl, Lib.hid ⟨Nat.le_refl _, HN.out⟩, HH2, HB2⟩
  case round =>
    obtain ⟨k, rfl, HK, HH, HB⟩ := hrel
    clear HH2 HB2
    have hk := HK.out
    by_cases h : k < n
    · have hlt : decide ((k : Int) < (n : Int)) = true := decide_eq_true (by omega)
      have hlt2 : decide (k < n) = true := decide_eq_true h
      have k0 : (0 : Int) ≤ k := by omega
      have kn : (k : Int) ≤ n := by omega
      obtain ⟨m, hm⟩ : ∃ m, m = Nat.min k (n - k) := ⟨_, rfl⟩
      have hm1 : 1 ≤ m ∧ m ≤ k ∧ k + m ≤ n := by
        have := Nat.min_le_left k (n - k)
        have := Nat.min_le_right k (n - k)
        have e : Nat.min k (n - k) = min k (n - k) := rfl
        omega
      have hcp := fun ty => copy_hole (W := wr.drew) (g := g) (n := n) (k := k) (m := m) HH.out hm1.2.2 ⟨g, 0, none⟩ (fun j hj => by
        have e : wr.drew.cell? ⟨g, j, none⟩ = (holes n k)[j]? := blk_cell (w := wr.drew) HH.out j
        rw [add_plain, e]
        simp only [holes, List.getElem?_toArray]
        rw [List.getElem?_append_left (by simp; omega), List.getElem?_replicate, if_pos (by omega)]) k n (n - k) hm ty
      have kw : IntKind.i64.wrap ((k : Int) + m) = (k : Int) + m := IntWalk.i64_in _ (by have := HN2.out; omega)
      have HM := Lib.hid hm1
      have hnk : ¬ n = k := by omega
      clear hm hm1 h
      go_wp2_with fail
      go_region_with fail
      all_goals (go_wp2_with fail; go_roundw)
      case rel =>
        have hm1 := HM.out
        have hge : w1.heap.size ≤ g := by rw [HGE.out]; exact Nat.le_refl _
        (repeat apply Exists.intro)
        exact ⟨⟨k + m, by go_num, Lib.hid (by omega), Lib.hid (setRow_heap _ g (holes n k) (holes n (k + m)) 3 (0, 0) HH.out), Lib.hid (below_setRow (below_drew HB.out) hge _)⟩, rfl⟩
      case measure =>
        have hm1 := HM.out
        have e1 : ((n : Int) - (k + m)).toNat < ((n : Int) - k).toNat := by omega
        first
          | exact e1
          | (have e2 : ((n : Int) - IntKind.i64.wrap ((k : Int) + m)).toNat < ((n : Int) - k).toNat := by rw [kw]; exact e1
             exact e2)
    · obtain rfl : k = n := by omega
      have hlt : decide ((k : Int) < (k : Int)) = false := decide_eq_false (by omega)
      have hlt2 : decide (k < k) = false := decide_eq_false (by omega)
      go_wp2_with fail
      go_ret
      refine ⟨g, rfl, by rw [HGE.out]; exact Nat.le_refl _, ?_, HB.out⟩
      have e := HH.out
      rw [show holes k k = Array.replicate k (.int .i64 (-1)) by simp [holes]] at e
      exact e
end Go.Proofs.Ytnpphmgibgfjoaa.Rep
