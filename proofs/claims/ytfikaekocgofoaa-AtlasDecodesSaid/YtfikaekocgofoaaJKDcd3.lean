import Derived.Test.YtfikaekocgofoaaJKDcd2
import Derived.Deep.WholeRow
import Derived.Test.YtfikaekocgofoaaShelf
import Derived.Lib.LazyBuf
import Derived.Lib.AppendZerosOnto
import Derived.Lib.Overlaps
import Derived.Laws.CopyOwn
import Derived.Deep.RegionLaw
/- Merged texts, one behind the other: AtK, AtV, AtX, AtD, AtC, AtP, Ins, AtQ. -/
/- Kinds of changes: the map of what they may have and what they do. -/
set_option linter.unusedSimpArgs false
namespace Go.Proofs.Ytfikaekocgofoaa.AtK
open Go Go.RowKit Go.Proofs.YtfikaekocgofoaaW.PrintWords Go.Proofs.YtfikaekocgofoaaW.PrintLast Go.Proofs.YtfikaekocgofoaaW.PrintMore Mem PAll KW AtA AtB Dsc MayP ApP Fnd PlF Roo Awk McW ApY ApZ ApW
open CrP hiding Od
def kindsE : Array MapEntry := #[⟨.int .i64 2, .agg #[.func (.func 60) #[] #[], .func (.func 61) #[] #[]], 0⟩, ⟨.int .i64 3, .agg #[.func (.func 58) #[] #[], .func (.func 64) #[] #[]], 1⟩, ⟨.int .i64 4, .agg #[.func (.func 58) #[] #[], .func (.func 65) #[] #[]], 2⟩, ⟨.int .i64 5, .agg #[.func (.func 58) #[] #[], .func (.func 66) #[] #[]], 3⟩, ⟨.int .i64 6, .agg #[.func (.func 67) #[] #[], .func (.func 68) #[] #[]], 4⟩]
set_option maxHeartbeats 4000000 in
theorem kinds_calls (w : World) : Calls Try.prog 34 #[] w fun e w' => ∃ g, e = .returned (.map (some g)) ∧ w.heap.size ≤ g ∧ w'.heap[g]? = some (.map kindsE 5) ∧ Below w.heap.size w w' := by
  have hmm := @run_makeMap Try.prog
  have HB0 : Hid (Below w.heap.size w (w.alloc (.map #[] 0))) := Lib.hid (below_alloc (Below.refl _ _) _)
  have HM0 : Hid ((w.alloc (.map #[] 0)).heap[w.heap.size]? = some (.map #[] 0)) := Lib.hid (blk_new _ _)
  go_enter Try.func34, Try.ntmps34
  go_wp2_with (first | (refine Go.Proofs.YtfikaekocgofoaaW.PrintWords.gate_ (.insert 70 (.tmp 2) (.const (.int .i64 2)) (.tmp 3)) rfl ?_; go_must (refine Mlt.insert_list rfl rfl 70 (.tmp 2) (.const (.int .i64 2)) (.tmp 3) rfl (v := .agg #[.func (.func 60) #[] #[], .func (.func 61) #[] #[]]) (by rfl) (by rfl) (by rfl) Try.underlying70 Try.underlying3 (by exact HM0.out) (by rfl) ?_; intro v0 h1 h2 h3; have HM1 := Lib.hid h1; have HB1 := Lib.hid (Stb.below_grown1 HB0.out h2 (Nat.le_refl _) HB0.out.size); clear h1 h2 h3 HM0 HB0)) | (refine Go.Proofs.YtfikaekocgofoaaW.PrintWords.gate_ (.insert 70 (.tmp 2) (.const (.int .i64 3)) (.tmp 5)) rfl ?_; go_must (refine Mlt.insert_list rfl rfl 70 (.tmp 2) (.const (.int .i64 3)) (.tmp 5) rfl (v := .agg #[.func (.func 58) #[] #[], .func (.func 64) #[] #[]]) (by rfl) (by rfl) (by rfl) Try.underlying70 Try.underlying3 (by exact HM1.out) (by rfl) ?_; intro v1 h1 h2 h3; have HM2 := Lib.hid h1; have HB2 := Lib.hid (Stb.below_grown1 HB1.out h2 (Nat.le_refl _) HB1.out.size); clear h1 h2 h3 HM1 HB1)) | (refine Go.Proofs.YtfikaekocgofoaaW.PrintWords.gate_ (.insert 70 (.tmp 2) (.const (.int .i64 4)) (.tmp 7)) rfl ?_; go_must (refine Mlt.insert_list rfl rfl 70 (.tmp 2) (.const (.int .i64 4)) (.tmp 7) rfl (v := .agg #[.func (.func 58) #[] #[], .func (.func 65) #[] #[]]) (by rfl) (by rfl) (by rfl) Try.underlying70 Try.underlying3 (by exact HM2.out) (by rfl) ?_; intro v2 h1 h2 h3; have HM3 := Lib.hid h1; have HB3 := Lib.hid (Stb.below_grown1 HB2.out h2 (Nat.le_refl _) HB2.out.size); clear h1 h2 h3 HM2 HB2)) | (refine Go.Proofs.YtfikaekocgofoaaW.PrintWords.gate_ (.insert 70 (.tmp 2) (.const (.int .i64 5)) (.tmp 9)) rfl ?_; go_must (refine Mlt.insert_list rfl rfl 70 (.tmp 2) (.const (.int .i64 5)) (.tmp 9) rfl (v := .agg #[.func (.func 58) #[] #[], .func (.func 66) #[] #[]]) (by rfl) (by rfl) (by rfl) Try.underlying70 Try.underlying3 (by exact HM3.out) (by rfl) ?_; intro v3 h1 h2 h3; have HM4 := Lib.hid h1; have HB4 := Lib.hid (Stb.below_grown1 HB3.out h2 (Nat.le_refl _) HB3.out.size); clear h1 h2 h3 HM3 HB3)) | (refine Go.Proofs.YtfikaekocgofoaaW.PrintWords.gate_ (.insert 70 (.tmp 2) (.const (.int .i64 6)) (.tmp 10)) rfl ?_; go_must (refine Mlt.insert_list rfl rfl 70 (.tmp 2) (.const (.int .i64 6)) (.tmp 10) rfl (v := .agg #[.func (.func 67) #[] #[], .func (.func 68) #[] #[]]) (by rfl) (by rfl) (by rfl) Try.underlying70 Try.underlying3 (by exact HM4.out) (by rfl) ?_; intro v4 h1 h2 h3; have HM5 := Lib.hid h1; have HB5 := Lib.hid (Stb.below_grown1 HB4.out h2 (Nat.le_refl _) HB4.out.size); clear h1 h2 h3 HM4 HB4)))
  go_ret
  exact ⟨w.heap.size, rfl, Nat.le_refl _, HM5.out, HB5.out⟩
def mayF (kd : Int) : Nat := if kd = 2 then 60 else if kd = 6 then 67 else 58
def doF (kd : Int) : Nat := if kd = 2 then 61 else if kd = 3 then 64 else if kd = 4 then 65 else if kd = 5 then 66 else 68
def knownB (kd : Int) : Bool := decide (2 ≤ kd) && decide (kd ≤ 6)
def kindV (kd : Int) : Value := .agg #[.func (.func (mayF kd)) #[] #[], .func (.func (doF kd)) #[] #[]]
theorem find_yes {kd : Int} (h : knownB kd = true) : ∃ i, Instr.findNow (.int .i64) (.int .i64 kd) kindsE.toList 0 = some (some (i, kindV kd)) := by
  unfold knownB at h
  simp only [Bool.and_eq_true, decide_eq_true_eq] at h
  have : kd = 2 ∨ kd = 3 ∨ kd = 4 ∨ kd = 5 ∨ kd = 6 := by omega
  rcases this with rfl | rfl | rfl | rfl | rfl
  · exact ⟨0, rfl⟩
  · exact ⟨1, rfl⟩
  · exact ⟨2, rfl⟩
  · exact ⟨3, rfl⟩
  · exact ⟨4, rfl⟩
theorem find_no {kd : Int} (h : knownB kd = false) : Instr.findNow (.int .i64) (.int .i64 kd) kindsE.toList 0 = some none := by
  unfold knownB at h
  simp only [Bool.and_eq_false_iff, decide_eq_false_iff_not] at h
  have e : ∀ n : Int, 2 ≤ n → n ≤ 6 → (kd == n) = false := fun n h1 h2 => beq_eq_false_iff_ne.2 (by omega)
  simp [kindsE, Instr.findNow, Instr.sameNow, e]
end Go.Proofs.Ytfikaekocgofoaa.AtK
/- What a change may have: CheckChange. -/
set_option linter.unusedSimpArgs false
namespace Go.Proofs.Ytfikaekocgofoaa.AtV
open Go Go.RowKit Go.Proofs.YtfikaekocgofoaaW.PrintWords Go.Proofs.YtfikaekocgofoaaW.PrintLast Go.Proofs.YtfikaekocgofoaaW.PrintMore Mem PAll KW AtA AtB Dsc MayP ApP Fnd PlF Roo Awk McW ApY ApZ ApW AtK
open CrP hiding Od
/-- Has a only what b has, but for its number? -/
def likeO (a b : Od) : Bool := eqO a { b with f0 := a.f0 }
def onlyB (a b : Od) : Bool := likeO a b && winB a.f0 999
set_option maxHeartbeats 4000000 in
theorem only_calls (a b : Od) (w : World) : Calls Try.prog 59 #[.agg (aggO a), .agg (aggO b)] w fun e w' => e = .returned (.bool (onlyB a b)) ∧ Below w.heap.size w w' := by
  have HB0 := Lib.hid (below_alloc (below_alloc (Below.refl w.heap.size w) (.cells (aggO a) 37)) (.cells (aggO b) 37))
  have HA : Hid (((w.alloc (.cells (aggO a) 37)).alloc (.cells (aggO b) 37)).heap[w.heap.size]? = some (.cells (aggO a) 37 (0, 0))) := Lib.hid (blk_below (blk_new _ _) (below_alloc (Below.refl _ _) _))
  have HC : Hid (((w.alloc (.cells (aggO a) 37)).alloc (.cells (aggO b) 37)).heap[w.heap.size + 1]? = some (.cells (aggO b) 37 (0, 0))) := Lib.hid (by have h := blk_new (w.alloc (.cells (aggO a) 37)) (.cells (aggO b) 37); simp only [World.alloc, Array.size_push] at h ⊢; exact h)
  have a0 := blk_cell HA.out 0
  obtain ⟨q, hq⟩ : ∃ q, q = likeO a b := ⟨_, rfl⟩
  have HQ : Hid (onlyB a b = (q && winB a.f0 999)) := Lib.hid (by rw [hq]; rfl)
  have heq : ∀ W, (binOp .eql 37 (.agg #[.int .i64 a.f0, .bool a.f1, .bool a.f2, .int .i64 a.f3, .int .i64 a.f4, .int .i64 a.f5, .int .i64 a.f6, .int .i64 a.f7]) (.agg #[.int .i64 a.f0, .bool b.f1, .bool b.f2, .int .i64 b.f3, .int .i64 b.f4, .int .i64 b.f5, .int .i64 b.f6, .int .i64 b.f7])).run Try.prog W = .ok (.bool q) W := fun W => by rw [hq]; exact eql_O a { b with f0 := a.f0 } W
  rw [HQ.out]
  clear hq
  go_enter Try.func59, Try.ntmps59
  go_wp2_with (first | (refine gate_ (.store 3 (.tmp 7) (.tmp 6)) rfl ?_; go_must (refine Stb.store_list rfl rfl 3 (.tmp 7) (.tmp 6) rfl (cur' := #[.int .i64 a.f0, .bool b.f1, .bool b.f2, .int .i64 b.f3, .int .i64 b.f4, .int .i64 b.f5, .int .i64 b.f6, .int .i64 b.f7]) [.int .i64 a.f0] (by exact HC.out) (by rfl) (by rfl) (by rfl) (by kernel_rfl) (Nat.le_of_ble_eq_true rfl) (by rfl) (by rfl) ?_; intro w3 h1 h2 h3; have HC3 := Lib.hid h1; have HA3 := Lib.hid (blk_grown HA.out h2 (fun e => by injection e with e; omega)); have HB3 := Lib.hid (Stb.below_grown1 HB0.out h2 (Nat.le_succ _) HB0.out.size); obtain ⟨y0, y1, y2, y3, y4, y5, y6, y7⟩ := blkO HA3.out; have z0 := blk_cell HC3.out 0; have z1 := blk_cell HC3.out 1; have z2 := blk_cell HC3.out 2; have z3 := blk_cell HC3.out 3; have z4 := blk_cell HC3.out 4; have z5 := blk_cell HC3.out 5; have z6 := blk_cell HC3.out 6; have z7 := blk_cell HC3.out 7; clear h1 h2 h3 a0 HB0 HA HC)) | (go_at_call 52; refine (win_calls _ _ _).mono ?_; rintro e w1 ⟨rfl, rfl⟩))
  all_goals (go_ret; (first | exact ⟨rfl, HB3.out⟩ | (refine ⟨?_, HB3.out⟩; simp_all)))
set_option maxHeartbeats 4000000 in
theorem bare_calls (o : Od) (w : World) : Calls Try.prog 58 #[.agg (aggO o)] w fun e w' => e = .returned (.bool (onlyB o ⟨0, false, false, 0, 0, 0, 0, 0⟩)) ∧ Below w.heap.size w w' := by
  have HB0 := Lib.hid (below_alloc (Below.refl w.heap.size w) (.cells (aggO o) 37))
  have HA : Hid ((w.alloc (.cells (aggO o) 37)).heap[w.heap.size]? = some (.cells (aggO o) 37 (0, 0))) := Lib.hid (blk_new _ _)
  obtain ⟨y0, y1, y2, y3, y4, y5, y6, y7⟩ := blkO HA.out
  have T := Lib.hid (only_calls o ⟨0, false, false, 0, 0, 0, 0, 0⟩ (w.alloc (.cells (aggO o) 37)))
  go_enter Try.func58, Try.ntmps58
  go_wp2_with fail
  refine T.out.mono ?_
  rintro e w1 ⟨rfl, hb⟩
  have HB1 := Lib.hid (below_then HB0.out HB0.out.size hb)
  have HA1 := Lib.hid (blk_below HA.out hb)
  clear hb y0 y1 y2 y3 y4 y5 y6 y7 T HA
  obtain ⟨y0, y1, y2, y3, y4, y5, y6, y7⟩ := blkO HA1.out
  go_wp2_with fail
  go_ret
  exact ⟨rfl, HB1.out⟩
set_option maxHeartbeats 4000000 in
theorem weigh_calls (o : Od) (w : World) : Calls Try.prog 67 #[.agg (aggO o)] w fun e w' => e = .returned (.bool (onlyB o ⟨0, false, false, o.f3, 0, 0, 0, 0⟩ && winB o.f3 16777216)) ∧ Below w.heap.size w w' := by
  have HB0 := Lib.hid (below_alloc (Below.refl w.heap.size w) (.cells (aggO o) 37))
  have HA : Hid ((w.alloc (.cells (aggO o) 37)).heap[w.heap.size]? = some (.cells (aggO o) 37 (0, 0))) := Lib.hid (blk_new _ _)
  obtain ⟨y0, y1, y2, y3, y4, y5, y6, y7⟩ := blkO HA.out
  have T := Lib.hid (only_calls o ⟨0, false, false, o.f3, 0, 0, 0, 0⟩ (w.alloc (.cells (aggO o) 37)))
  obtain ⟨q, hq⟩ : ∃ q, q = onlyB o ⟨0, false, false, o.f3, 0, 0, 0, 0⟩ := ⟨_, rfl⟩
  rw [← hq] at T ⊢
  clear hq
  go_enter Try.func67, Try.ntmps67
  go_wp2_with fail
  refine T.out.mono ?_
  rintro e w1 ⟨rfl, hb⟩
  have HB1 := Lib.hid (below_then HB0.out HB0.out.size hb)
  have HA1 := Lib.hid (blk_below HA.out hb)
  clear hb y0 y1 y2 y3 y4 y5 y6 y7 T HA
  obtain ⟨y0, y1, y2, y3, y4, y5, y6, y7⟩ := blkO HA1.out
  cases q
  · go_wp2_with fail
    go_ret
    exact ⟨rfl, HB1.out⟩
  · go_wp2_with (go_at_call 52; refine (win_calls _ _ _).mono ?_; rintro e w1 ⟨rfl, rfl⟩)
    go_ret
    exact ⟨rfl, HB1.out⟩
set_option maxHeartbeats 4000000 in
theorem up_calls (o : Od) (w : World) : Calls Try.prog 60 #[.agg (aggO o)] w fun e w' => e = .returned (.bool (onlyB o ⟨0, false, false, 0, o.f4, o.f5, 0, 0⟩ && (decide (1 ≤ min o.f4 o.f5) && decide (max o.f4 o.f5 ≤ 2147483647)))) ∧ Below w.heap.size w w' := by
  have HB0 := Lib.hid (below_alloc (Below.refl w.heap.size w) (.cells (aggO o) 37))
  have HA : Hid ((w.alloc (.cells (aggO o) 37)).heap[w.heap.size]? = some (.cells (aggO o) 37 (0, 0))) := Lib.hid (blk_new _ _)
  obtain ⟨y0, y1, y2, y3, y4, y5, y6, y7⟩ := blkO HA.out
  have T := Lib.hid (only_calls o ⟨0, false, false, 0, o.f4, o.f5, 0, 0⟩ (w.alloc (.cells (aggO o) 37)))
  obtain ⟨q, hq⟩ : ∃ q, q = onlyB o ⟨0, false, false, 0, o.f4, o.f5, 0, 0⟩ := ⟨_, rfl⟩
  rw [← hq] at T ⊢
  clear hq
  go_enter Try.func60, Try.ntmps60
  go_wp2_with fail
  refine T.out.mono ?_
  rintro e w1 ⟨rfl, hb⟩
  have HB1 := Lib.hid (below_then HB0.out HB0.out.size hb)
  have HA1 := Lib.hid (blk_below HA.out hb)
  clear hb y0 y1 y2 y3 y4 y5 y6 y7 T HA
  obtain ⟨y0, y1, y2, y3, y4, y5, y6, y7⟩ := blkO HA1.out
  cases q
  · go_wp2_with fail
    go_ret
    exact ⟨rfl, HB1.out⟩
  · cases hm : decide (1 ≤ min o.f4 o.f5)
    · go_wp2_with fail
      go_ret
      refine ⟨?_, HB1.out⟩
      first | rfl | (simp; done) | (simp [hm]; done) | (simp_all; done)
    · go_wp2_with fail
      go_ret
      refine ⟨?_, HB1.out⟩
      first | rfl | (simp; done) | (simp [hm]; done) | (simp_all; done)
end Go.Proofs.Ytfikaekocgofoaa.AtV
/- What a change may have: CheckChange. -/
set_option linter.unusedSimpArgs false
namespace Go.Proofs.Ytfikaekocgofoaa.AtX
open Go Go.RowKit Go.Proofs.YtfikaekocgofoaaW.PrintWords Go.Proofs.YtfikaekocgofoaaW.PrintLast Go.Proofs.YtfikaekocgofoaaW.PrintMore Mem PAll KW AtA AtB Dsc MayP ApP Fnd PlF Roo Awk McW ApY ApZ ApW AtK AtV
open CrP hiding Od
set_option maxHeartbeats 8000000 in
set_option maxRecDepth 100000 in
theorem chk_2 (o : Od) (w : World) : Calls Try.prog 30 #[.agg (chA 2 o)] w fun e w' => e = .returned (.int .i64 (if (onlyB o ⟨0, false, false, 0, o.f4, o.f5, 0, 0⟩ && (decide (1 ≤ min o.f4 o.f5) && decide (max o.f4 o.f5 ≤ 2147483647))) = true then 0 else 1)) ∧ Below w.heap.size w w' := by
  have HB0 := Lib.hid (below_alloc (Below.refl w.heap.size w) (.cells #[.int .i64 2, .int .i64 o.f0, .bool o.f1, .bool o.f2, .int .i64 o.f3, .int .i64 o.f4, .int .i64 o.f5, .int .i64 o.f6, .int .i64 o.f7] 39))
  have HA : Hid ((w.alloc (.cells #[.int .i64 2, .int .i64 o.f0, .bool o.f1, .bool o.f2, .int .i64 o.f3, .int .i64 o.f4, .int .i64 o.f5, .int .i64 o.f6, .int .i64 o.f7] 39)).heap[w.heap.size]? = some (.cells #[.int .i64 2, .int .i64 o.f0, .bool o.f1, .bool o.f2, .int .i64 o.f3, .int .i64 o.f4, .int .i64 o.f5, .int .i64 o.f6, .int .i64 o.f7] 39 (0, 0))) := Lib.hid (blk_new _ _)
  obtain ⟨q, hq⟩ : ∃ q, q = (onlyB o ⟨0, false, false, 0, o.f4, o.f5, 0, 0⟩ && (decide (1 ≤ min o.f4 o.f5) && decide (max o.f4 o.f5 ≤ 2147483647))) := ⟨_, rfl⟩
  rw [← hq]
  have HQ := Lib.hid hq
  clear hq
  go_enter Try.func30, Try.ntmps30
  go_upto_region 1 with fail
  obtain ⟨w1, hw1⟩ : ∃ w1, w1 = w.alloc (.cells #[.int .i64 2, .int .i64 o.f0, .bool o.f1, .bool o.f2, .int .i64 o.f3, .int .i64 o.f4, .int .i64 o.f5, .int .i64 o.f6, .int .i64 o.f7] 39) := ⟨_, rfl⟩
  rw [← hw1] at HB0 HA ⊢
  clear hw1
  have y0 := blk_cell HA.out 0
  go_cut [3, 4] from 5 to 11 (fun s3 s4 wx => ∃ R : Nat, s3 = .pointer (some ⟨R, 0, none⟩) ∧ s4 = .bool true ∧ wx.heap[R]? = some (.cells #[.func (.func 60) #[] #[], .func (.func 61) #[] #[]] 69 (0, 0)) ∧ w1.heap.size ≤ R ∧ Below w1.heap.size w1 wx)
  case first =>
    refine start_ (n := 10) (S := fun w' => Below w1.heap.size w1 w') (ds := [8]) #[false, false, false, false, false, false, false, false, false, false] (by kernel_rfl) rfl rfl (below_drew (Below.refl _ _)) (fun hHeld => ?_)
    have HBd := Lib.hid (below_drew (Below.refl w1.heap.size w1))
    generalize w1.drew = wd at HBd hHeld ⊢
    refine pure_ (i := 1) (N := some 7) (v := ?_) (a' := ?_) #[false, true, false, false, false, false, false, false, false, false] rfl rfl (by kernel_rfl) (fun _ _ _ h => h) (Or.inl ⟨by rfl, ?_⟩) ?_ ?_
    rotate_left
    · intro w'
      go_simp
      with_reducible rfl
    rotate_left
    · simp only [Act.put, List.setIfInBounds_toArray, List.set_cons_zero, List.set_cons_succ, i64_w, i32_w]
      rfl
    refine take_ (i := 2) (N := some 8) (v := ?_) (a' := ?_) #[false, true, true, false, false, false, false, false, false, false] rfl rfl (by kernel_rfl) (fun _ _ _ h => h) (Or.inl ⟨by rfl, ?_⟩) hHeld ?_ ?_
    rotate_left
    · rintro w' hS
      have x0 := pw_cell_below hS y0
      go_simp
      with_reducible rfl
    rotate_left
    · simp only [Act.put, List.setIfInBounds_toArray, List.set_cons_zero, List.set_cons_succ, i64_w, i32_w]
      rfl
    refine join_ (σ := Nat × Nat) 2 #[true, true, true, true, true, true, true, true, false, false] (fun s => [(6, .map (some s.2)), (3, .pointer (some ⟨s.1, 0, none⟩)), (9, .tuple #[.agg #[.func (.func 60) #[] #[], .func (.func 61) #[] #[]], .bool true]), (5, .tuple #[.agg #[.func (.func 60) #[] #[], .func (.func 61) #[] #[]], .bool true]), (10, .agg #[.func (.func 60) #[] #[], .func (.func 61) #[] #[]]), (11, .bool true)]) (fun s w' => Hid (w'.heap[s.1]? = some (.cells #[.nilFunc, .nilFunc] 69 (0, 0))) ∧ Hid (w1.heap.size ≤ s.1) ∧ Hid (Below w1.heap.size w1 w')) ?_ (fun hfin => ?_)
    · rintro ⟨R, g⟩ w9 ⟨HZ, HRG, HB9⟩
      dsimp only at HZ HRG
      refine norm_ (a' := ?_) ?_ ?_
      rotate_left
      · show putAll _ _ = _
        simp only [putAll, Act.put, List.setIfInBounds_toArray, List.set_cons_zero, List.set_cons_succ]
        rfl
      refine last_ (i := 8) (N := none) #[true, true, true, true, true, true, true, true, true, false] rfl rfl (by kernel_rfl) (by decide) (fun K hK => ?_)
      refine Stb.store_step (by rfl) rfl 69 (.tmp 3) (.tmp 10) (by rfl) (cur' := #[.func (.func 60) #[] #[], .func (.func 61) #[] #[]]) [.func (.func 60) #[] #[], .func (.func 61) #[] #[]] HZ.out (by rfl) (by rfl) (by rfl) (by kernel_rfl) (Nat.le_refl 2) (by rfl) (by rfl) ?_
      intro w10 hz10 hg10 hs10
      have HZ2 := Lib.hid hz10
      have HB2_ := Lib.hid (Stb.below_grown1 HB9.out hg10 HRG.out HB9.out.size)
      clear hz10 hg10 hs10
      refine hK.out _ _ ?_
      clear hK K
      refine norm_ (a' := ?_) ?_ ?_
      rotate_left
      · show Act.put _ (none) _ = _
        simp only [Act.put, List.setIfInBounds_toArray, List.set_cons_zero, List.set_cons_succ, i64_w, i32_w]
        rfl
      refine pure_ (i := 9) (N := some 4) (v := ?_) (a' := ?_) #[true, true, true, true, true, true, true, true, true, true] rfl rfl (by kernel_rfl) (fun _ _ _ h => h) (Or.inl ⟨by rfl, ?_⟩) ?_ ?_
      rotate_left
      · intro w'
        go_simp
        with_reducible rfl
      rotate_left
      · simp only [Act.put, List.setIfInBounds_toArray, List.set_cons_zero, List.set_cons_succ, i64_w, i32_w]
        rfl
      refine done_ (by kernel_rfl) ?_
      go_wp2_with fail
      go_meet
      exact ⟨R, rfl, rfl, HZ2.out, HRG.out, HB2_.out⟩
    refine two_ (i := 0) (j := 7) (Ni := some 6) (Nj := some 3) #[true, true, true, false, false, false, false, false, false, false] #[false, true, true, false, false, false, false, true, false, false] rfl rfl rfl rfl (by kernel_rfl) (by decide) (by decide) (fun K hK => ?_) (fun K hK => ?_)
    · refine goes_ Try.func34 (by kernel_rfl) rfl #[] (by rfl) rfl rfl (by (try simp only [List.map_toArray, List.map_cons, List.map_nil]); first | done | rfl | (go_simp; done) | (go_simp; rfl)) ?_
      refine (kinds_calls _).mono ?_
      rintro e w5 ⟨g, rfl, hg, hm, hb⟩
      refine ⟨_, rfl, ?_⟩
      refine hK.out _ _ (below_then HBd.out HBd.out.size hb) (fun hHeld => ?_)
      clear hK K
      refine norm_ (a' := ?_) ?_ ?_
      rotate_left
      · show Act.put _ (some 6) _ = _
        simp only [Act.put, List.setIfInBounds_toArray, List.set_cons_zero, List.set_cons_succ, i64_w, i32_w]
        rfl
      refine two_ (i := 3) (j := 7) (Ni := some 9) (Nj := some 3) #[true, true, true, true, false, false, false, false, false, false] #[true, true, true, false, false, false, false, true, false, false] rfl rfl rfl rfl (by kernel_rfl) (by decide) (by decide) (fun K hK => ?_) (fun K hK => ?_)
      · refine value_ (w1 := _) (v := .tuple #[.agg #[.func (.func 60) #[] #[], .func (.func 61) #[] #[]], .bool true]) (by rfl) rfl (Mlt.lookup_ev rfl (by rfl) (by rfl) (Mlt.lookup_yes (k := 2) true Try.underlying70 Try.underlying3 hm (i := 0) (by rfl))) ?_
        refine hK.out _ _ hHeld (fun hHeld => ?_)
        clear hK K
        refine norm_ (a' := ?_) ?_ ?_
        rotate_left
        · show Act.put _ (some 9) _ = _
          simp only [Act.put, List.setIfInBounds_toArray, List.set_cons_zero, List.set_cons_succ, i64_w, i32_w]
          rfl
        refine pure_ (i := 4) (N := some 5) (v := ?_) (a' := ?_) #[true, true, true, true, true, false, false, false, false, false] rfl rfl (by kernel_rfl) (fun _ _ _ h => h) (Or.inl ⟨by rfl, ?_⟩) ?_ ?_
        rotate_left
        · intro w'
          go_simp
          with_reducible rfl
        rotate_left
        · simp only [Act.put, List.setIfInBounds_toArray, List.set_cons_zero, List.set_cons_succ, i64_w, i32_w]
          rfl
        refine pure_ (i := 5) (N := some 10) (v := ?_) (a' := ?_) #[true, true, true, true, true, true, false, false, false, false] rfl rfl (by kernel_rfl) (fun _ _ _ h => h) (Or.inl ⟨by rfl, ?_⟩) ?_ ?_
        rotate_left
        · intro w'
          go_simp
          with_reducible rfl
        rotate_left
        · simp only [Act.put, List.setIfInBounds_toArray, List.set_cons_zero, List.set_cons_succ, i64_w, i32_w]
          rfl
        refine pure_ (i := 6) (N := some 11) (v := ?_) (a' := ?_) #[true, true, true, true, true, true, true, false, false, false] rfl rfl (by kernel_rfl) (fun _ _ _ h => h) (Or.inl ⟨by rfl, ?_⟩) ?_ ?_
        rotate_left
        · intro w'
          go_simp
          with_reducible rfl
        rotate_left
        · simp only [Act.put, List.setIfInBounds_toArray, List.set_cons_zero, List.set_cons_succ, i64_w, i32_w]
          rfl
        refine one_ (i := 7) (N := some 3) #[true, true, true, true, true, true, true, true, false, false] rfl rfl (by kernel_rfl) (by decide) (fun K hK => ?_)
        refine value_ (w1 := ?_) (v := ?_) (by rfl) rfl ?_ ?_
        rotate_left 2
        · go_simp
          constructor
          · rfl
          · rfl
        refine hK.out _ _ (below_alloc hHeld _) (fun hHeld => ?_)
        clear hK K
        refine norm_ (a' := ?_) ?_ ?_
        rotate_left
        · show Act.put _ (some 3) _ = _
          simp only [Act.put, List.setIfInBounds_toArray, List.set_cons_zero, List.set_cons_succ, i64_w, i32_w]
          rfl
        have h9 := hfin (w5.heap.size, g) _ ⟨Lib.hid (blk_new w5 _), Lib.hid (Nat.le_trans HBd.out.size hb.size), Lib.hid hHeld⟩
        refine norm_ ?_ h9
        show _ = putAll _ _
        simp only [putAll, Act.put, List.setIfInBounds_toArray, List.set_cons_zero, List.set_cons_succ]
      · refine value_ (w1 := ?_) (v := ?_) (by rfl) rfl ?_ ?_
        rotate_left 2
        · go_simp
          constructor
          · rfl
          · rfl
        refine hK.out _ _ (below_alloc hHeld _) (fun hHeld => ?_)
        clear hK K
        refine norm_ (a' := ?_) ?_ ?_
        rotate_left
        · show Act.put _ (some 3) _ = _
          simp only [Act.put, List.setIfInBounds_toArray, List.set_cons_zero, List.set_cons_succ, i64_w, i32_w]
          rfl
        refine one_ (i := 3) (N := some 9) #[true, true, true, true, false, false, false, true, false, false] rfl rfl (by kernel_rfl) (by decide) (fun K hK => ?_)
        refine value_ (w1 := _) (v := .tuple #[.agg #[.func (.func 60) #[] #[], .func (.func 61) #[] #[]], .bool true]) (by rfl) rfl (Mlt.lookup_ev rfl (by rfl) (by rfl) (Mlt.lookup_yes (k := 2) true Try.underlying70 Try.underlying3 (blk_below hm (below_alloc (Below.refl _ _) _)) (i := 0) (by rfl))) ?_
        refine hK.out _ _ hHeld (fun hHeld => ?_)
        clear hK K
        refine norm_ (a' := ?_) ?_ ?_
        rotate_left
        · show Act.put _ (some 9) _ = _
          simp only [Act.put, List.setIfInBounds_toArray, List.set_cons_zero, List.set_cons_succ, i64_w, i32_w]
          rfl
        refine pure_ (i := 4) (N := some 5) (v := ?_) (a' := ?_) #[true, true, true, true, true, false, false, true, false, false] rfl rfl (by kernel_rfl) (fun _ _ _ h => h) (Or.inl ⟨by rfl, ?_⟩) ?_ ?_
        rotate_left
        · intro w'
          go_simp
          with_reducible rfl
        rotate_left
        · simp only [Act.put, List.setIfInBounds_toArray, List.set_cons_zero, List.set_cons_succ, i64_w, i32_w]
          rfl
        refine pure_ (i := 5) (N := some 10) (v := ?_) (a' := ?_) #[true, true, true, true, true, true, false, true, false, false] rfl rfl (by kernel_rfl) (fun _ _ _ h => h) (Or.inl ⟨by rfl, ?_⟩) ?_ ?_
        rotate_left
        · intro w'
          go_simp
          with_reducible rfl
        rotate_left
        · simp only [Act.put, List.setIfInBounds_toArray, List.set_cons_zero, List.set_cons_succ, i64_w, i32_w]
          rfl
        refine pure_ (i := 6) (N := some 11) (v := ?_) (a' := ?_) #[true, true, true, true, true, true, true, true, false, false] rfl rfl (by kernel_rfl) (fun _ _ _ h => h) (Or.inl ⟨by rfl, ?_⟩) ?_ ?_
        rotate_left
        · intro w'
          go_simp
          with_reducible rfl
        rotate_left
        · simp only [Act.put, List.setIfInBounds_toArray, List.set_cons_zero, List.set_cons_succ, i64_w, i32_w]
          rfl
        have h9 := hfin (w5.heap.size, g) _ ⟨Lib.hid (blk_new w5 _), Lib.hid (Nat.le_trans HBd.out.size hb.size), Lib.hid hHeld⟩
        refine norm_ ?_ h9
        show _ = putAll _ _
        simp only [putAll, Act.put, List.setIfInBounds_toArray, List.set_cons_zero, List.set_cons_succ]
    · refine value_ (w1 := ?_) (v := ?_) (by rfl) rfl ?_ ?_
      rotate_left 2
      · go_simp
        constructor
        · rfl
        · rfl
      refine hK.out _ _ (below_alloc HBd.out _) (fun hHeld => ?_)
      clear hK K
      refine norm_ (a' := ?_) ?_ ?_
      rotate_left
      · show Act.put _ (some 3) _ = _
        simp only [Act.put, List.setIfInBounds_toArray, List.set_cons_zero, List.set_cons_succ, i64_w, i32_w]
        rfl
      refine one_ (i := 0) (N := some 6) #[true, true, true, false, false, false, false, true, false, false] rfl rfl (by kernel_rfl) (by decide) (fun K hK => ?_)
      refine goes_ Try.func34 (by kernel_rfl) rfl #[] (by rfl) rfl rfl (by (try simp only [List.map_toArray, List.map_cons, List.map_nil]); first | done | rfl | (go_simp; done) | (go_simp; rfl)) ?_
      refine (kinds_calls _).mono ?_
      rintro e w5 ⟨g, rfl, hg, hm, hb⟩
      refine ⟨_, rfl, ?_⟩
      refine hK.out _ _ (below_then (below_alloc HBd.out _) (below_alloc HBd.out _).size hb) (fun hHeld => ?_)
      clear hK K
      refine norm_ (a' := ?_) ?_ ?_
      rotate_left
      · show Act.put _ (some 6) _ = _
        simp only [Act.put, List.setIfInBounds_toArray, List.set_cons_zero, List.set_cons_succ, i64_w, i32_w]
        rfl
      refine one_ (i := 3) (N := some 9) #[true, true, true, true, false, false, false, true, false, false] rfl rfl (by kernel_rfl) (by decide) (fun K hK => ?_)
      refine value_ (w1 := _) (v := .tuple #[.agg #[.func (.func 60) #[] #[], .func (.func 61) #[] #[]], .bool true]) (by rfl) rfl (Mlt.lookup_ev rfl (by rfl) (by rfl) (Mlt.lookup_yes (k := 2) true Try.underlying70 Try.underlying3 hm (i := 0) (by rfl))) ?_
      refine hK.out _ _ hHeld (fun hHeld => ?_)
      clear hK K
      refine norm_ (a' := ?_) ?_ ?_
      rotate_left
      · show Act.put _ (some 9) _ = _
        simp only [Act.put, List.setIfInBounds_toArray, List.set_cons_zero, List.set_cons_succ, i64_w, i32_w]
        rfl
      refine pure_ (i := 4) (N := some 5) (v := ?_) (a' := ?_) #[true, true, true, true, true, false, false, true, false, false] rfl rfl (by kernel_rfl) (fun _ _ _ h => h) (Or.inl ⟨by rfl, ?_⟩) ?_ ?_
      rotate_left
      · intro w'
        go_simp
        with_reducible rfl
      rotate_left
      · simp only [Act.put, List.setIfInBounds_toArray, List.set_cons_zero, List.set_cons_succ, i64_w, i32_w]
        rfl
      refine pure_ (i := 5) (N := some 10) (v := ?_) (a' := ?_) #[true, true, true, true, true, true, false, true, false, false] rfl rfl (by kernel_rfl) (fun _ _ _ h => h) (Or.inl ⟨by rfl, ?_⟩) ?_ ?_
      rotate_left
      · intro w'
        go_simp
        with_reducible rfl
      rotate_left
      · simp only [Act.put, List.setIfInBounds_toArray, List.set_cons_zero, List.set_cons_succ, i64_w, i32_w]
        rfl
      refine pure_ (i := 6) (N := some 11) (v := ?_) (a' := ?_) #[true, true, true, true, true, true, true, true, false, false] rfl rfl (by kernel_rfl) (fun _ _ _ h => h) (Or.inl ⟨by rfl, ?_⟩) ?_ ?_
      rotate_left
      · intro w'
        go_simp
        with_reducible rfl
      rotate_left
      · simp only [Act.put, List.setIfInBounds_toArray, List.set_cons_zero, List.set_cons_succ, i64_w, i32_w]
        rfl
      have h9 := hfin (wd.heap.size, g) _ ⟨Lib.hid (blk_below (blk_new wd _) hb), Lib.hid HBd.out.size, Lib.hid hHeld⟩
      refine norm_ ?_ h9
      show _ = putAll _ _
      simp only [putAll, Act.put, List.setIfInBounds_toArray, List.set_cons_zero, List.set_cons_succ]
  case rest =>
    obtain ⟨R, rfl, rfl, hz, hrg, hb⟩ := hcut
    have HB2 := Lib.hid (below_then HB0.out HB0.out.size hb)
    have HA2 := Lib.hid (blk_below HA.out hb)
    have HZ2 := Lib.hid hz
    clear hz hrg hb y0
    have r0 := blk_cell HZ2.out 0
    have y0 := blk_cell HA2.out 0
    have y1 := blk_cell HA2.out 1
    have y2 := blk_cell HA2.out 2
    have y3 := blk_cell HA2.out 3
    have y4 := blk_cell HA2.out 4
    have y5 := blk_cell HA2.out 5
    have y6 := blk_cell HA2.out 6
    have y7 := blk_cell HA2.out 7
    have y8 := blk_cell HA2.out 8
    have T := Lib.hid (fun W => up_calls o W)
    rw [← HQ.out] at T
    go_wp2_with fail
    refine (T.out _).mono ?_
    rintro e w3 ⟨rfl, hb⟩
    have HB3 := Lib.hid (below_then HB2.out HB2.out.size hb)
    have c0 := blk_cell (blk_below HA2.out hb) 0
    clear hb T r0 y0 y1 y2 y3 y4 y5 y6 y7 y8
    cases q
    · go_wp2_with fail
      go_ret
      exact ⟨rfl, HB3.out⟩
    · go_wp2_with fail
      go_ret
      exact ⟨rfl, HB3.out⟩
set_option maxHeartbeats 8000000 in
set_option maxRecDepth 100000 in
theorem chk_3 (o : Od) (w : World) : Calls Try.prog 30 #[.agg (chA 3 o)] w fun e w' => e = .returned (.int .i64 (if (onlyB o ⟨0, false, false, 0, 0, 0, 0, 0⟩) = true then 0 else 1)) ∧ Below w.heap.size w w' := by
  have HB0 := Lib.hid (below_alloc (Below.refl w.heap.size w) (.cells #[.int .i64 3, .int .i64 o.f0, .bool o.f1, .bool o.f2, .int .i64 o.f3, .int .i64 o.f4, .int .i64 o.f5, .int .i64 o.f6, .int .i64 o.f7] 39))
  have HA : Hid ((w.alloc (.cells #[.int .i64 3, .int .i64 o.f0, .bool o.f1, .bool o.f2, .int .i64 o.f3, .int .i64 o.f4, .int .i64 o.f5, .int .i64 o.f6, .int .i64 o.f7] 39)).heap[w.heap.size]? = some (.cells #[.int .i64 3, .int .i64 o.f0, .bool o.f1, .bool o.f2, .int .i64 o.f3, .int .i64 o.f4, .int .i64 o.f5, .int .i64 o.f6, .int .i64 o.f7] 39 (0, 0))) := Lib.hid (blk_new _ _)
  obtain ⟨q, hq⟩ : ∃ q, q = (onlyB o ⟨0, false, false, 0, 0, 0, 0, 0⟩) := ⟨_, rfl⟩
  rw [← hq]
  have HQ := Lib.hid hq
  clear hq
  go_enter Try.func30, Try.ntmps30
  go_upto_region 1 with fail
  obtain ⟨w1, hw1⟩ : ∃ w1, w1 = w.alloc (.cells #[.int .i64 3, .int .i64 o.f0, .bool o.f1, .bool o.f2, .int .i64 o.f3, .int .i64 o.f4, .int .i64 o.f5, .int .i64 o.f6, .int .i64 o.f7] 39) := ⟨_, rfl⟩
  rw [← hw1] at HB0 HA ⊢
  clear hw1
  have y0 := blk_cell HA.out 0
  go_cut [3, 4] from 5 to 11 (fun s3 s4 wx => ∃ R : Nat, s3 = .pointer (some ⟨R, 0, none⟩) ∧ s4 = .bool true ∧ wx.heap[R]? = some (.cells #[.func (.func 58) #[] #[], .func (.func 64) #[] #[]] 69 (0, 0)) ∧ w1.heap.size ≤ R ∧ Below w1.heap.size w1 wx)
  case first =>
    refine start_ (n := 10) (S := fun w' => Below w1.heap.size w1 w') (ds := [8]) #[false, false, false, false, false, false, false, false, false, false] (by kernel_rfl) rfl rfl (below_drew (Below.refl _ _)) (fun hHeld => ?_)
    have HBd := Lib.hid (below_drew (Below.refl w1.heap.size w1))
    generalize w1.drew = wd at HBd hHeld ⊢
    refine pure_ (i := 1) (N := some 7) (v := ?_) (a' := ?_) #[false, true, false, false, false, false, false, false, false, false] rfl rfl (by kernel_rfl) (fun _ _ _ h => h) (Or.inl ⟨by rfl, ?_⟩) ?_ ?_
    rotate_left
    · intro w'
      go_simp
      with_reducible rfl
    rotate_left
    · simp only [Act.put, List.setIfInBounds_toArray, List.set_cons_zero, List.set_cons_succ, i64_w, i32_w]
      rfl
    refine take_ (i := 2) (N := some 8) (v := ?_) (a' := ?_) #[false, true, true, false, false, false, false, false, false, false] rfl rfl (by kernel_rfl) (fun _ _ _ h => h) (Or.inl ⟨by rfl, ?_⟩) hHeld ?_ ?_
    rotate_left
    · rintro w' hS
      have x0 := pw_cell_below hS y0
      go_simp
      with_reducible rfl
    rotate_left
    · simp only [Act.put, List.setIfInBounds_toArray, List.set_cons_zero, List.set_cons_succ, i64_w, i32_w]
      rfl
    refine join_ (σ := Nat × Nat) 2 #[true, true, true, true, true, true, true, true, false, false] (fun s => [(6, .map (some s.2)), (3, .pointer (some ⟨s.1, 0, none⟩)), (9, .tuple #[.agg #[.func (.func 58) #[] #[], .func (.func 64) #[] #[]], .bool true]), (5, .tuple #[.agg #[.func (.func 58) #[] #[], .func (.func 64) #[] #[]], .bool true]), (10, .agg #[.func (.func 58) #[] #[], .func (.func 64) #[] #[]]), (11, .bool true)]) (fun s w' => Hid (w'.heap[s.1]? = some (.cells #[.nilFunc, .nilFunc] 69 (0, 0))) ∧ Hid (w1.heap.size ≤ s.1) ∧ Hid (Below w1.heap.size w1 w')) ?_ (fun hfin => ?_)
    · rintro ⟨R, g⟩ w9 ⟨HZ, HRG, HB9⟩
      dsimp only at HZ HRG
      refine norm_ (a' := ?_) ?_ ?_
      rotate_left
      · show putAll _ _ = _
        simp only [putAll, Act.put, List.setIfInBounds_toArray, List.set_cons_zero, List.set_cons_succ]
        rfl
      refine last_ (i := 8) (N := none) #[true, true, true, true, true, true, true, true, true, false] rfl rfl (by kernel_rfl) (by decide) (fun K hK => ?_)
      refine Stb.store_step (by rfl) rfl 69 (.tmp 3) (.tmp 10) (by rfl) (cur' := #[.func (.func 58) #[] #[], .func (.func 64) #[] #[]]) [.func (.func 58) #[] #[], .func (.func 64) #[] #[]] HZ.out (by rfl) (by rfl) (by rfl) (by kernel_rfl) (Nat.le_refl 2) (by rfl) (by rfl) ?_
      intro w10 hz10 hg10 hs10
      have HZ2 := Lib.hid hz10
      have HB2_ := Lib.hid (Stb.below_grown1 HB9.out hg10 HRG.out HB9.out.size)
      clear hz10 hg10 hs10
      refine hK.out _ _ ?_
      clear hK K
      refine norm_ (a' := ?_) ?_ ?_
      rotate_left
      · show Act.put _ (none) _ = _
        simp only [Act.put, List.setIfInBounds_toArray, List.set_cons_zero, List.set_cons_succ, i64_w, i32_w]
        rfl
      refine pure_ (i := 9) (N := some 4) (v := ?_) (a' := ?_) #[true, true, true, true, true, true, true, true, true, true] rfl rfl (by kernel_rfl) (fun _ _ _ h => h) (Or.inl ⟨by rfl, ?_⟩) ?_ ?_
      rotate_left
      · intro w'
        go_simp
        with_reducible rfl
      rotate_left
      · simp only [Act.put, List.setIfInBounds_toArray, List.set_cons_zero, List.set_cons_succ, i64_w, i32_w]
        rfl
      refine done_ (by kernel_rfl) ?_
      go_wp2_with fail
      go_meet
      exact ⟨R, rfl, rfl, HZ2.out, HRG.out, HB2_.out⟩
    refine two_ (i := 0) (j := 7) (Ni := some 6) (Nj := some 3) #[true, true, true, false, false, false, false, false, false, false] #[false, true, true, false, false, false, false, true, false, false] rfl rfl rfl rfl (by kernel_rfl) (by decide) (by decide) (fun K hK => ?_) (fun K hK => ?_)
    · refine goes_ Try.func34 (by kernel_rfl) rfl #[] (by rfl) rfl rfl (by (try simp only [List.map_toArray, List.map_cons, List.map_nil]); first | done | rfl | (go_simp; done) | (go_simp; rfl)) ?_
      refine (kinds_calls _).mono ?_
      rintro e w5 ⟨g, rfl, hg, hm, hb⟩
      refine ⟨_, rfl, ?_⟩
      refine hK.out _ _ (below_then HBd.out HBd.out.size hb) (fun hHeld => ?_)
      clear hK K
      refine norm_ (a' := ?_) ?_ ?_
      rotate_left
      · show Act.put _ (some 6) _ = _
        simp only [Act.put, List.setIfInBounds_toArray, List.set_cons_zero, List.set_cons_succ, i64_w, i32_w]
        rfl
      refine two_ (i := 3) (j := 7) (Ni := some 9) (Nj := some 3) #[true, true, true, true, false, false, false, false, false, false] #[true, true, true, false, false, false, false, true, false, false] rfl rfl rfl rfl (by kernel_rfl) (by decide) (by decide) (fun K hK => ?_) (fun K hK => ?_)
      · refine value_ (w1 := _) (v := .tuple #[.agg #[.func (.func 58) #[] #[], .func (.func 64) #[] #[]], .bool true]) (by rfl) rfl (Mlt.lookup_ev rfl (by rfl) (by rfl) (Mlt.lookup_yes (k := 3) true Try.underlying70 Try.underlying3 hm (i := 1) (by rfl))) ?_
        refine hK.out _ _ hHeld (fun hHeld => ?_)
        clear hK K
        refine norm_ (a' := ?_) ?_ ?_
        rotate_left
        · show Act.put _ (some 9) _ = _
          simp only [Act.put, List.setIfInBounds_toArray, List.set_cons_zero, List.set_cons_succ, i64_w, i32_w]
          rfl
        refine pure_ (i := 4) (N := some 5) (v := ?_) (a' := ?_) #[true, true, true, true, true, false, false, false, false, false] rfl rfl (by kernel_rfl) (fun _ _ _ h => h) (Or.inl ⟨by rfl, ?_⟩) ?_ ?_
        rotate_left
        · intro w'
          go_simp
          with_reducible rfl
        rotate_left
        · simp only [Act.put, List.setIfInBounds_toArray, List.set_cons_zero, List.set_cons_succ, i64_w, i32_w]
          rfl
        refine pure_ (i := 5) (N := some 10) (v := ?_) (a' := ?_) #[true, true, true, true, true, true, false, false, false, false] rfl rfl (by kernel_rfl) (fun _ _ _ h => h) (Or.inl ⟨by rfl, ?_⟩) ?_ ?_
        rotate_left
        · intro w'
          go_simp
          with_reducible rfl
        rotate_left
        · simp only [Act.put, List.setIfInBounds_toArray, List.set_cons_zero, List.set_cons_succ, i64_w, i32_w]
          rfl
        refine pure_ (i := 6) (N := some 11) (v := ?_) (a' := ?_) #[true, true, true, true, true, true, true, false, false, false] rfl rfl (by kernel_rfl) (fun _ _ _ h => h) (Or.inl ⟨by rfl, ?_⟩) ?_ ?_
        rotate_left
        · intro w'
          go_simp
          with_reducible rfl
        rotate_left
        · simp only [Act.put, List.setIfInBounds_toArray, List.set_cons_zero, List.set_cons_succ, i64_w, i32_w]
          rfl
        refine one_ (i := 7) (N := some 3) #[true, true, true, true, true, true, true, true, false, false] rfl rfl (by kernel_rfl) (by decide) (fun K hK => ?_)
        refine value_ (w1 := ?_) (v := ?_) (by rfl) rfl ?_ ?_
        rotate_left 2
        · go_simp
          constructor
          · rfl
          · rfl
        refine hK.out _ _ (below_alloc hHeld _) (fun hHeld => ?_)
        clear hK K
        refine norm_ (a' := ?_) ?_ ?_
        rotate_left
        · show Act.put _ (some 3) _ = _
          simp only [Act.put, List.setIfInBounds_toArray, List.set_cons_zero, List.set_cons_succ, i64_w, i32_w]
          rfl
        have h9 := hfin (w5.heap.size, g) _ ⟨Lib.hid (blk_new w5 _), Lib.hid (Nat.le_trans HBd.out.size hb.size), Lib.hid hHeld⟩
        refine norm_ ?_ h9
        show _ = putAll _ _
        simp only [putAll, Act.put, List.setIfInBounds_toArray, List.set_cons_zero, List.set_cons_succ]
      · refine value_ (w1 := ?_) (v := ?_) (by rfl) rfl ?_ ?_
        rotate_left 2
        · go_simp
          constructor
          · rfl
          · rfl
        refine hK.out _ _ (below_alloc hHeld _) (fun hHeld => ?_)
        clear hK K
        refine norm_ (a' := ?_) ?_ ?_
        rotate_left
        · show Act.put _ (some 3) _ = _
          simp only [Act.put, List.setIfInBounds_toArray, List.set_cons_zero, List.set_cons_succ, i64_w, i32_w]
          rfl
        refine one_ (i := 3) (N := some 9) #[true, true, true, true, false, false, false, true, false, false] rfl rfl (by kernel_rfl) (by decide) (fun K hK => ?_)
        refine value_ (w1 := _) (v := .tuple #[.agg #[.func (.func 58) #[] #[], .func (.func 64) #[] #[]], .bool true]) (by rfl) rfl (Mlt.lookup_ev rfl (by rfl) (by rfl) (Mlt.lookup_yes (k := 3) true Try.underlying70 Try.underlying3 (blk_below hm (below_alloc (Below.refl _ _) _)) (i := 1) (by rfl))) ?_
        refine hK.out _ _ hHeld (fun hHeld => ?_)
        clear hK K
        refine norm_ (a' := ?_) ?_ ?_
        rotate_left
        · show Act.put _ (some 9) _ = _
          simp only [Act.put, List.setIfInBounds_toArray, List.set_cons_zero, List.set_cons_succ, i64_w, i32_w]
          rfl
        refine pure_ (i := 4) (N := some 5) (v := ?_) (a' := ?_) #[true, true, true, true, true, false, false, true, false, false] rfl rfl (by kernel_rfl) (fun _ _ _ h => h) (Or.inl ⟨by rfl, ?_⟩) ?_ ?_
        rotate_left
        · intro w'
          go_simp
          with_reducible rfl
        rotate_left
        · simp only [Act.put, List.setIfInBounds_toArray, List.set_cons_zero, List.set_cons_succ, i64_w, i32_w]
          rfl
        refine pure_ (i := 5) (N := some 10) (v := ?_) (a' := ?_) #[true, true, true, true, true, true, false, true, false, false] rfl rfl (by kernel_rfl) (fun _ _ _ h => h) (Or.inl ⟨by rfl, ?_⟩) ?_ ?_
        rotate_left
        · intro w'
          go_simp
          with_reducible rfl
        rotate_left
        · simp only [Act.put, List.setIfInBounds_toArray, List.set_cons_zero, List.set_cons_succ, i64_w, i32_w]
          rfl
        refine pure_ (i := 6) (N := some 11) (v := ?_) (a' := ?_) #[true, true, true, true, true, true, true, true, false, false] rfl rfl (by kernel_rfl) (fun _ _ _ h => h) (Or.inl ⟨by rfl, ?_⟩) ?_ ?_
        rotate_left
        · intro w'
          go_simp
          with_reducible rfl
        rotate_left
        · simp only [Act.put, List.setIfInBounds_toArray, List.set_cons_zero, List.set_cons_succ, i64_w, i32_w]
          rfl
        have h9 := hfin (w5.heap.size, g) _ ⟨Lib.hid (blk_new w5 _), Lib.hid (Nat.le_trans HBd.out.size hb.size), Lib.hid hHeld⟩
        refine norm_ ?_ h9
        show _ = putAll _ _
        simp only [putAll, Act.put, List.setIfInBounds_toArray, List.set_cons_zero, List.set_cons_succ]
    · refine value_ (w1 := ?_) (v := ?_) (by rfl) rfl ?_ ?_
      rotate_left 2
      · go_simp
        constructor
        · rfl
        · rfl
      refine hK.out _ _ (below_alloc HBd.out _) (fun hHeld => ?_)
      clear hK K
      refine norm_ (a' := ?_) ?_ ?_
      rotate_left
      · show Act.put _ (some 3) _ = _
        simp only [Act.put, List.setIfInBounds_toArray, List.set_cons_zero, List.set_cons_succ, i64_w, i32_w]
        rfl
      refine one_ (i := 0) (N := some 6) #[true, true, true, false, false, false, false, true, false, false] rfl rfl (by kernel_rfl) (by decide) (fun K hK => ?_)
      refine goes_ Try.func34 (by kernel_rfl) rfl #[] (by rfl) rfl rfl (by (try simp only [List.map_toArray, List.map_cons, List.map_nil]); first | done | rfl | (go_simp; done) | (go_simp; rfl)) ?_
      refine (kinds_calls _).mono ?_
      rintro e w5 ⟨g, rfl, hg, hm, hb⟩
      refine ⟨_, rfl, ?_⟩
      refine hK.out _ _ (below_then (below_alloc HBd.out _) (below_alloc HBd.out _).size hb) (fun hHeld => ?_)
      clear hK K
      refine norm_ (a' := ?_) ?_ ?_
      rotate_left
      · show Act.put _ (some 6) _ = _
        simp only [Act.put, List.setIfInBounds_toArray, List.set_cons_zero, List.set_cons_succ, i64_w, i32_w]
        rfl
      refine one_ (i := 3) (N := some 9) #[true, true, true, true, false, false, false, true, false, false] rfl rfl (by kernel_rfl) (by decide) (fun K hK => ?_)
      refine value_ (w1 := _) (v := .tuple #[.agg #[.func (.func 58) #[] #[], .func (.func 64) #[] #[]], .bool true]) (by rfl) rfl (Mlt.lookup_ev rfl (by rfl) (by rfl) (Mlt.lookup_yes (k := 3) true Try.underlying70 Try.underlying3 hm (i := 1) (by rfl))) ?_
      refine hK.out _ _ hHeld (fun hHeld => ?_)
      clear hK K
      refine norm_ (a' := ?_) ?_ ?_
      rotate_left
      · show Act.put _ (some 9) _ = _
        simp only [Act.put, List.setIfInBounds_toArray, List.set_cons_zero, List.set_cons_succ, i64_w, i32_w]
        rfl
      refine pure_ (i := 4) (N := some 5) (v := ?_) (a' := ?_) #[true, true, true, true, true, false, false, true, false, false] rfl rfl (by kernel_rfl) (fun _ _ _ h => h) (Or.inl ⟨by rfl, ?_⟩) ?_ ?_
      rotate_left
      · intro w'
        go_simp
        with_reducible rfl
      rotate_left
      · simp only [Act.put, List.setIfInBounds_toArray, List.set_cons_zero, List.set_cons_succ, i64_w, i32_w]
        rfl
      refine pure_ (i := 5) (N := some 10) (v := ?_) (a' := ?_) #[true, true, true, true, true, true, false, true, false, false] rfl rfl (by kernel_rfl) (fun _ _ _ h => h) (Or.inl ⟨by rfl, ?_⟩) ?_ ?_
      rotate_left
      · intro w'
        go_simp
        with_reducible rfl
      rotate_left
      · simp only [Act.put, List.setIfInBounds_toArray, List.set_cons_zero, List.set_cons_succ, i64_w, i32_w]
        rfl
      refine pure_ (i := 6) (N := some 11) (v := ?_) (a' := ?_) #[true, true, true, true, true, true, true, true, false, false] rfl rfl (by kernel_rfl) (fun _ _ _ h => h) (Or.inl ⟨by rfl, ?_⟩) ?_ ?_
      rotate_left
      · intro w'
        go_simp
        with_reducible rfl
      rotate_left
      · simp only [Act.put, List.setIfInBounds_toArray, List.set_cons_zero, List.set_cons_succ, i64_w, i32_w]
        rfl
      have h9 := hfin (wd.heap.size, g) _ ⟨Lib.hid (blk_below (blk_new wd _) hb), Lib.hid HBd.out.size, Lib.hid hHeld⟩
      refine norm_ ?_ h9
      show _ = putAll _ _
      simp only [putAll, Act.put, List.setIfInBounds_toArray, List.set_cons_zero, List.set_cons_succ]
  case rest =>
    obtain ⟨R, rfl, rfl, hz, hrg, hb⟩ := hcut
    have HB2 := Lib.hid (below_then HB0.out HB0.out.size hb)
    have HA2 := Lib.hid (blk_below HA.out hb)
    have HZ2 := Lib.hid hz
    clear hz hrg hb y0
    have r0 := blk_cell HZ2.out 0
    have y0 := blk_cell HA2.out 0
    have y1 := blk_cell HA2.out 1
    have y2 := blk_cell HA2.out 2
    have y3 := blk_cell HA2.out 3
    have y4 := blk_cell HA2.out 4
    have y5 := blk_cell HA2.out 5
    have y6 := blk_cell HA2.out 6
    have y7 := blk_cell HA2.out 7
    have y8 := blk_cell HA2.out 8
    have T := Lib.hid (fun W => bare_calls o W)
    rw [← HQ.out] at T
    go_wp2_with fail
    refine (T.out _).mono ?_
    rintro e w3 ⟨rfl, hb⟩
    have HB3 := Lib.hid (below_then HB2.out HB2.out.size hb)
    have c0 := blk_cell (blk_below HA2.out hb) 0
    clear hb T r0 y0 y1 y2 y3 y4 y5 y6 y7 y8
    cases q
    · go_wp2_with fail
      go_ret
      exact ⟨rfl, HB3.out⟩
    · go_wp2_with fail
      go_ret
      exact ⟨rfl, HB3.out⟩
set_option maxHeartbeats 8000000 in
set_option maxRecDepth 100000 in
theorem chk_4 (o : Od) (w : World) : Calls Try.prog 30 #[.agg (chA 4 o)] w fun e w' => e = .returned (.int .i64 (if (onlyB o ⟨0, false, false, 0, 0, 0, 0, 0⟩) = true then 0 else 1)) ∧ Below w.heap.size w w' := by
  have HB0 := Lib.hid (below_alloc (Below.refl w.heap.size w) (.cells #[.int .i64 4, .int .i64 o.f0, .bool o.f1, .bool o.f2, .int .i64 o.f3, .int .i64 o.f4, .int .i64 o.f5, .int .i64 o.f6, .int .i64 o.f7] 39))
  have HA : Hid ((w.alloc (.cells #[.int .i64 4, .int .i64 o.f0, .bool o.f1, .bool o.f2, .int .i64 o.f3, .int .i64 o.f4, .int .i64 o.f5, .int .i64 o.f6, .int .i64 o.f7] 39)).heap[w.heap.size]? = some (.cells #[.int .i64 4, .int .i64 o.f0, .bool o.f1, .bool o.f2, .int .i64 o.f3, .int .i64 o.f4, .int .i64 o.f5, .int .i64 o.f6, .int .i64 o.f7] 39 (0, 0))) := Lib.hid (blk_new _ _)
  obtain ⟨q, hq⟩ : ∃ q, q = (onlyB o ⟨0, false, false, 0, 0, 0, 0, 0⟩) := ⟨_, rfl⟩
  rw [← hq]
  have HQ := Lib.hid hq
  clear hq
  go_enter Try.func30, Try.ntmps30
  go_upto_region 1 with fail
  obtain ⟨w1, hw1⟩ : ∃ w1, w1 = w.alloc (.cells #[.int .i64 4, .int .i64 o.f0, .bool o.f1, .bool o.f2, .int .i64 o.f3, .int .i64 o.f4, .int .i64 o.f5, .int .i64 o.f6, .int .i64 o.f7] 39) := ⟨_, rfl⟩
  rw [← hw1] at HB0 HA ⊢
  clear hw1
  have y0 := blk_cell HA.out 0
  go_cut [3, 4] from 5 to 11 (fun s3 s4 wx => ∃ R : Nat, s3 = .pointer (some ⟨R, 0, none⟩) ∧ s4 = .bool true ∧ wx.heap[R]? = some (.cells #[.func (.func 58) #[] #[], .func (.func 65) #[] #[]] 69 (0, 0)) ∧ w1.heap.size ≤ R ∧ Below w1.heap.size w1 wx)
  case first =>
    refine start_ (n := 10) (S := fun w' => Below w1.heap.size w1 w') (ds := [8]) #[false, false, false, false, false, false, false, false, false, false] (by kernel_rfl) rfl rfl (below_drew (Below.refl _ _)) (fun hHeld => ?_)
    have HBd := Lib.hid (below_drew (Below.refl w1.heap.size w1))
    generalize w1.drew = wd at HBd hHeld ⊢
    refine pure_ (i := 1) (N := some 7) (v := ?_) (a' := ?_) #[false, true, false, false, false, false, false, false, false, false] rfl rfl (by kernel_rfl) (fun _ _ _ h => h) (Or.inl ⟨by rfl, ?_⟩) ?_ ?_
    rotate_left
    · intro w'
      go_simp
      with_reducible rfl
    rotate_left
    · simp only [Act.put, List.setIfInBounds_toArray, List.set_cons_zero, List.set_cons_succ, i64_w, i32_w]
      rfl
    refine take_ (i := 2) (N := some 8) (v := ?_) (a' := ?_) #[false, true, true, false, false, false, false, false, false, false] rfl rfl (by kernel_rfl) (fun _ _ _ h => h) (Or.inl ⟨by rfl, ?_⟩) hHeld ?_ ?_
    rotate_left
    · rintro w' hS
      have x0 := pw_cell_below hS y0
      go_simp
      with_reducible rfl
    rotate_left
    · simp only [Act.put, List.setIfInBounds_toArray, List.set_cons_zero, List.set_cons_succ, i64_w, i32_w]
      rfl
    refine join_ (σ := Nat × Nat) 2 #[true, true, true, true, true, true, true, true, false, false] (fun s => [(6, .map (some s.2)), (3, .pointer (some ⟨s.1, 0, none⟩)), (9, .tuple #[.agg #[.func (.func 58) #[] #[], .func (.func 65) #[] #[]], .bool true]), (5, .tuple #[.agg #[.func (.func 58) #[] #[], .func (.func 65) #[] #[]], .bool true]), (10, .agg #[.func (.func 58) #[] #[], .func (.func 65) #[] #[]]), (11, .bool true)]) (fun s w' => Hid (w'.heap[s.1]? = some (.cells #[.nilFunc, .nilFunc] 69 (0, 0))) ∧ Hid (w1.heap.size ≤ s.1) ∧ Hid (Below w1.heap.size w1 w')) ?_ (fun hfin => ?_)
    · rintro ⟨R, g⟩ w9 ⟨HZ, HRG, HB9⟩
      dsimp only at HZ HRG
      refine norm_ (a' := ?_) ?_ ?_
      rotate_left
      · show putAll _ _ = _
        simp only [putAll, Act.put, List.setIfInBounds_toArray, List.set_cons_zero, List.set_cons_succ]
        rfl
      refine last_ (i := 8) (N := none) #[true, true, true, true, true, true, true, true, true, false] rfl rfl (by kernel_rfl) (by decide) (fun K hK => ?_)
      refine Stb.store_step (by rfl) rfl 69 (.tmp 3) (.tmp 10) (by rfl) (cur' := #[.func (.func 58) #[] #[], .func (.func 65) #[] #[]]) [.func (.func 58) #[] #[], .func (.func 65) #[] #[]] HZ.out (by rfl) (by rfl) (by rfl) (by kernel_rfl) (Nat.le_refl 2) (by rfl) (by rfl) ?_
      intro w10 hz10 hg10 hs10
      have HZ2 := Lib.hid hz10
      have HB2_ := Lib.hid (Stb.below_grown1 HB9.out hg10 HRG.out HB9.out.size)
      clear hz10 hg10 hs10
      refine hK.out _ _ ?_
      clear hK K
      refine norm_ (a' := ?_) ?_ ?_
      rotate_left
      · show Act.put _ (none) _ = _
        simp only [Act.put, List.setIfInBounds_toArray, List.set_cons_zero, List.set_cons_succ, i64_w, i32_w]
        rfl
      refine pure_ (i := 9) (N := some 4) (v := ?_) (a' := ?_) #[true, true, true, true, true, true, true, true, true, true] rfl rfl (by kernel_rfl) (fun _ _ _ h => h) (Or.inl ⟨by rfl, ?_⟩) ?_ ?_
      rotate_left
      · intro w'
        go_simp
        with_reducible rfl
      rotate_left
      · simp only [Act.put, List.setIfInBounds_toArray, List.set_cons_zero, List.set_cons_succ, i64_w, i32_w]
        rfl
      refine done_ (by kernel_rfl) ?_
      go_wp2_with fail
      go_meet
      exact ⟨R, rfl, rfl, HZ2.out, HRG.out, HB2_.out⟩
    refine two_ (i := 0) (j := 7) (Ni := some 6) (Nj := some 3) #[true, true, true, false, false, false, false, false, false, false] #[false, true, true, false, false, false, false, true, false, false] rfl rfl rfl rfl (by kernel_rfl) (by decide) (by decide) (fun K hK => ?_) (fun K hK => ?_)
    · refine goes_ Try.func34 (by kernel_rfl) rfl #[] (by rfl) rfl rfl (by (try simp only [List.map_toArray, List.map_cons, List.map_nil]); first | done | rfl | (go_simp; done) | (go_simp; rfl)) ?_
      refine (kinds_calls _).mono ?_
      rintro e w5 ⟨g, rfl, hg, hm, hb⟩
      refine ⟨_, rfl, ?_⟩
      refine hK.out _ _ (below_then HBd.out HBd.out.size hb) (fun hHeld => ?_)
      clear hK K
      refine norm_ (a' := ?_) ?_ ?_
      rotate_left
      · show Act.put _ (some 6) _ = _
        simp only [Act.put, List.setIfInBounds_toArray, List.set_cons_zero, List.set_cons_succ, i64_w, i32_w]
        rfl
      refine two_ (i := 3) (j := 7) (Ni := some 9) (Nj := some 3) #[true, true, true, true, false, false, false, false, false, false] #[true, true, true, false, false, false, false, true, false, false] rfl rfl rfl rfl (by kernel_rfl) (by decide) (by decide) (fun K hK => ?_) (fun K hK => ?_)
      · refine value_ (w1 := _) (v := .tuple #[.agg #[.func (.func 58) #[] #[], .func (.func 65) #[] #[]], .bool true]) (by rfl) rfl (Mlt.lookup_ev rfl (by rfl) (by rfl) (Mlt.lookup_yes (k := 4) true Try.underlying70 Try.underlying3 hm (i := 2) (by rfl))) ?_
        refine hK.out _ _ hHeld (fun hHeld => ?_)
        clear hK K
        refine norm_ (a' := ?_) ?_ ?_
        rotate_left
        · show Act.put _ (some 9) _ = _
          simp only [Act.put, List.setIfInBounds_toArray, List.set_cons_zero, List.set_cons_succ, i64_w, i32_w]
          rfl
        refine pure_ (i := 4) (N := some 5) (v := ?_) (a' := ?_) #[true, true, true, true, true, false, false, false, false, false] rfl rfl (by kernel_rfl) (fun _ _ _ h => h) (Or.inl ⟨by rfl, ?_⟩) ?_ ?_
        rotate_left
        · intro w'
          go_simp
          with_reducible rfl
        rotate_left
        · simp only [Act.put, List.setIfInBounds_toArray, List.set_cons_zero, List.set_cons_succ, i64_w, i32_w]
          rfl
        refine pure_ (i := 5) (N := some 10) (v := ?_) (a' := ?_) #[true, true, true, true, true, true, false, false, false, false] rfl rfl (by kernel_rfl) (fun _ _ _ h => h) (Or.inl ⟨by rfl, ?_⟩) ?_ ?_
        rotate_left
        · intro w'
          go_simp
          with_reducible rfl
        rotate_left
        · simp only [Act.put, List.setIfInBounds_toArray, List.set_cons_zero, List.set_cons_succ, i64_w, i32_w]
          rfl
        refine pure_ (i := 6) (N := some 11) (v := ?_) (a' := ?_) #[true, true, true, true, true, true, true, false, false, false] rfl rfl (by kernel_rfl) (fun _ _ _ h => h) (Or.inl ⟨by rfl, ?_⟩) ?_ ?_
        rotate_left
        · intro w'
          go_simp
          with_reducible rfl
        rotate_left
        · simp only [Act.put, List.setIfInBounds_toArray, List.set_cons_zero, List.set_cons_succ, i64_w, i32_w]
          rfl
        refine one_ (i := 7) (N := some 3) #[true, true, true, true, true, true, true, true, false, false] rfl rfl (by kernel_rfl) (by decide) (fun K hK => ?_)
        refine value_ (w1 := ?_) (v := ?_) (by rfl) rfl ?_ ?_
        rotate_left 2
        · go_simp
          constructor
          · rfl
          · rfl
        refine hK.out _ _ (below_alloc hHeld _) (fun hHeld => ?_)
        clear hK K
        refine norm_ (a' := ?_) ?_ ?_
        rotate_left
        · show Act.put _ (some 3) _ = _
          simp only [Act.put, List.setIfInBounds_toArray, List.set_cons_zero, List.set_cons_succ, i64_w, i32_w]
          rfl
        have h9 := hfin (w5.heap.size, g) _ ⟨Lib.hid (blk_new w5 _), Lib.hid (Nat.le_trans HBd.out.size hb.size), Lib.hid hHeld⟩
        refine norm_ ?_ h9
        show _ = putAll _ _
        simp only [putAll, Act.put, List.setIfInBounds_toArray, List.set_cons_zero, List.set_cons_succ]
      · refine value_ (w1 := ?_) (v := ?_) (by rfl) rfl ?_ ?_
        rotate_left 2
        · go_simp
          constructor
          · rfl
          · rfl
        refine hK.out _ _ (below_alloc hHeld _) (fun hHeld => ?_)
        clear hK K
        refine norm_ (a' := ?_) ?_ ?_
        rotate_left
        · show Act.put _ (some 3) _ = _
          simp only [Act.put, List.setIfInBounds_toArray, List.set_cons_zero, List.set_cons_succ, i64_w, i32_w]
          rfl
        refine one_ (i := 3) (N := some 9) #[true, true, true, true, false, false, false, true, false, false] rfl rfl (by kernel_rfl) (by decide) (fun K hK => ?_)
        refine value_ (w1 := _) (v := .tuple #[.agg #[.func (.func 58) #[] #[], .func (.func 65) #[] #[]], .bool true]) (by rfl) rfl (Mlt.lookup_ev rfl (by rfl) (by rfl) (Mlt.lookup_yes (k := 4) true Try.underlying70 Try.underlying3 (blk_below hm (below_alloc (Below.refl _ _) _)) (i := 2) (by rfl))) ?_
        refine hK.out _ _ hHeld (fun hHeld => ?_)
        clear hK K
        refine norm_ (a' := ?_) ?_ ?_
        rotate_left
        · show Act.put _ (some 9) _ = _
          simp only [Act.put, List.setIfInBounds_toArray, List.set_cons_zero, List.set_cons_succ, i64_w, i32_w]
          rfl
        refine pure_ (i := 4) (N := some 5) (v := ?_) (a' := ?_) #[true, true, true, true, true, false, false, true, false, false] rfl rfl (by kernel_rfl) (fun _ _ _ h => h) (Or.inl ⟨by rfl, ?_⟩) ?_ ?_
        rotate_left
        · intro w'
          go_simp
          with_reducible rfl
        rotate_left
        · simp only [Act.put, List.setIfInBounds_toArray, List.set_cons_zero, List.set_cons_succ, i64_w, i32_w]
          rfl
        refine pure_ (i := 5) (N := some 10) (v := ?_) (a' := ?_) #[true, true, true, true, true, true, false, true, false, false] rfl rfl (by kernel_rfl) (fun _ _ _ h => h) (Or.inl ⟨by rfl, ?_⟩) ?_ ?_
        rotate_left
        · intro w'
          go_simp
          with_reducible rfl
        rotate_left
        · simp only [Act.put, List.setIfInBounds_toArray, List.set_cons_zero, List.set_cons_succ, i64_w, i32_w]
          rfl
        refine pure_ (i := 6) (N := some 11) (v := ?_) (a' := ?_) #[true, true, true, true, true, true, true, true, false, false] rfl rfl (by kernel_rfl) (fun _ _ _ h => h) (Or.inl ⟨by rfl, ?_⟩) ?_ ?_
        rotate_left
        · intro w'
          go_simp
          with_reducible rfl
        rotate_left
        · simp only [Act.put, List.setIfInBounds_toArray, List.set_cons_zero, List.set_cons_succ, i64_w, i32_w]
          rfl
        have h9 := hfin (w5.heap.size, g) _ ⟨Lib.hid (blk_new w5 _), Lib.hid (Nat.le_trans HBd.out.size hb.size), Lib.hid hHeld⟩
        refine norm_ ?_ h9
        show _ = putAll _ _
        simp only [putAll, Act.put, List.setIfInBounds_toArray, List.set_cons_zero, List.set_cons_succ]
    · refine value_ (w1 := ?_) (v := ?_) (by rfl) rfl ?_ ?_
      rotate_left 2
      · go_simp
        constructor
        · rfl
        · rfl
      refine hK.out _ _ (below_alloc HBd.out _) (fun hHeld => ?_)
      clear hK K
      refine norm_ (a' := ?_) ?_ ?_
      rotate_left
      · show Act.put _ (some 3) _ = _
        simp only [Act.put, List.setIfInBounds_toArray, List.set_cons_zero, List.set_cons_succ, i64_w, i32_w]
        rfl
      refine one_ (i := 0) (N := some 6) #[true, true, true, false, false, false, false, true, false, false] rfl rfl (by kernel_rfl) (by decide) (fun K hK => ?_)
      refine goes_ Try.func34 (by kernel_rfl) rfl #[] (by rfl) rfl rfl (by (try simp only [List.map_toArray, List.map_cons, List.map_nil]); first | done | rfl | (go_simp; done) | (go_simp; rfl)) ?_
      refine (kinds_calls _).mono ?_
      rintro e w5 ⟨g, rfl, hg, hm, hb⟩
      refine ⟨_, rfl, ?_⟩
      refine hK.out _ _ (below_then (below_alloc HBd.out _) (below_alloc HBd.out _).size hb) (fun hHeld => ?_)
      clear hK K
      refine norm_ (a' := ?_) ?_ ?_
      rotate_left
      · show Act.put _ (some 6) _ = _
        simp only [Act.put, List.setIfInBounds_toArray, List.set_cons_zero, List.set_cons_succ, i64_w, i32_w]
        rfl
      refine one_ (i := 3) (N := some 9) #[true, true, true, true, false, false, false, true, false, false] rfl rfl (by kernel_rfl) (by decide) (fun K hK => ?_)
      refine value_ (w1 := _) (v := .tuple #[.agg #[.func (.func 58) #[] #[], .func (.func 65) #[] #[]], .bool true]) (by rfl) rfl (Mlt.lookup_ev rfl (by rfl) (by rfl) (Mlt.lookup_yes (k := 4) true Try.underlying70 Try.underlying3 hm (i := 2) (by rfl))) ?_
      refine hK.out _ _ hHeld (fun hHeld => ?_)
      clear hK K
      refine norm_ (a' := ?_) ?_ ?_
      rotate_left
      · show Act.put _ (some 9) _ = _
        simp only [Act.put, List.setIfInBounds_toArray, List.set_cons_zero, List.set_cons_succ, i64_w, i32_w]
        rfl
      refine pure_ (i := 4) (N := some 5) (v := ?_) (a' := ?_) #[true, true, true, true, true, false, false, true, false, false] rfl rfl (by kernel_rfl) (fun _ _ _ h => h) (Or.inl ⟨by rfl, ?_⟩) ?_ ?_
      rotate_left
      · intro w'
        go_simp
        with_reducible rfl
      rotate_left
      · simp only [Act.put, List.setIfInBounds_toArray, List.set_cons_zero, List.set_cons_succ, i64_w, i32_w]
        rfl
      refine pure_ (i := 5) (N := some 10) (v := ?_) (a' := ?_) #[true, true, true, true, true, true, false, true, false, false] rfl rfl (by kernel_rfl) (fun _ _ _ h => h) (Or.inl ⟨by rfl, ?_⟩) ?_ ?_
      rotate_left
      · intro w'
        go_simp
        with_reducible rfl
      rotate_left
      · simp only [Act.put, List.setIfInBounds_toArray, List.set_cons_zero, List.set_cons_succ, i64_w, i32_w]
        rfl
      refine pure_ (i := 6) (N := some 11) (v := ?_) (a' := ?_) #[true, true, true, true, true, true, true, true, false, false] rfl rfl (by kernel_rfl) (fun _ _ _ h => h) (Or.inl ⟨by rfl, ?_⟩) ?_ ?_
      rotate_left
      · intro w'
        go_simp
        with_reducible rfl
      rotate_left
      · simp only [Act.put, List.setIfInBounds_toArray, List.set_cons_zero, List.set_cons_succ, i64_w, i32_w]
        rfl
      have h9 := hfin (wd.heap.size, g) _ ⟨Lib.hid (blk_below (blk_new wd _) hb), Lib.hid HBd.out.size, Lib.hid hHeld⟩
      refine norm_ ?_ h9
      show _ = putAll _ _
      simp only [putAll, Act.put, List.setIfInBounds_toArray, List.set_cons_zero, List.set_cons_succ]
  case rest =>
    obtain ⟨R, rfl, rfl, hz, hrg, hb⟩ := hcut
    have HB2 := Lib.hid (below_then HB0.out HB0.out.size hb)
    have HA2 := Lib.hid (blk_below HA.out hb)
    have HZ2 := Lib.hid hz
    clear hz hrg hb y0
    have r0 := blk_cell HZ2.out 0
    have y0 := blk_cell HA2.out 0
    have y1 := blk_cell HA2.out 1
    have y2 := blk_cell HA2.out 2
    have y3 := blk_cell HA2.out 3
    have y4 := blk_cell HA2.out 4
    have y5 := blk_cell HA2.out 5
    have y6 := blk_cell HA2.out 6
    have y7 := blk_cell HA2.out 7
    have y8 := blk_cell HA2.out 8
    have T := Lib.hid (fun W => bare_calls o W)
    rw [← HQ.out] at T
    go_wp2_with fail
    refine (T.out _).mono ?_
    rintro e w3 ⟨rfl, hb⟩
    have HB3 := Lib.hid (below_then HB2.out HB2.out.size hb)
    have c0 := blk_cell (blk_below HA2.out hb) 0
    clear hb T r0 y0 y1 y2 y3 y4 y5 y6 y7 y8
    cases q
    · go_wp2_with fail
      go_ret
      exact ⟨rfl, HB3.out⟩
    · go_wp2_with fail
      go_ret
      exact ⟨rfl, HB3.out⟩
set_option maxHeartbeats 8000000 in
set_option maxRecDepth 100000 in
theorem chk_5 (o : Od) (w : World) : Calls Try.prog 30 #[.agg (chA 5 o)] w fun e w' => e = .returned (.int .i64 (if (onlyB o ⟨0, false, false, 0, 0, 0, 0, 0⟩) = true then 0 else 1)) ∧ Below w.heap.size w w' := by
  have HB0 := Lib.hid (below_alloc (Below.refl w.heap.size w) (.cells #[.int .i64 5, .int .i64 o.f0, .bool o.f1, .bool o.f2, .int .i64 o.f3, .int .i64 o.f4, .int .i64 o.f5, .int .i64 o.f6, .int .i64 o.f7] 39))
  have HA : Hid ((w.alloc (.cells #[.int .i64 5, .int .i64 o.f0, .bool o.f1, .bool o.f2, .int .i64 o.f3, .int .i64 o.f4, .int .i64 o.f5, .int .i64 o.f6, .int .i64 o.f7] 39)).heap[w.heap.size]? = some (.cells #[.int .i64 5, .int .i64 o.f0, .bool o.f1, .bool o.f2, .int .i64 o.f3, .int .i64 o.f4, .int .i64 o.f5, .int .i64 o.f6, .int .i64 o.f7] 39 (0, 0))) := Lib.hid (blk_new _ _)
  obtain ⟨q, hq⟩ : ∃ q, q = (onlyB o ⟨0, false, false, 0, 0, 0, 0, 0⟩) := ⟨_, rfl⟩
  rw [← hq]
  have HQ := Lib.hid hq
  clear hq
  go_enter Try.func30, Try.ntmps30
  go_upto_region 1 with fail
  obtain ⟨w1, hw1⟩ : ∃ w1, w1 = w.alloc (.cells #[.int .i64 5, .int .i64 o.f0, .bool o.f1, .bool o.f2, .int .i64 o.f3, .int .i64 o.f4, .int .i64 o.f5, .int .i64 o.f6, .int .i64 o.f7] 39) := ⟨_, rfl⟩
  rw [← hw1] at HB0 HA ⊢
  clear hw1
  have y0 := blk_cell HA.out 0
  go_cut [3, 4] from 5 to 11 (fun s3 s4 wx => ∃ R : Nat, s3 = .pointer (some ⟨R, 0, none⟩) ∧ s4 = .bool true ∧ wx.heap[R]? = some (.cells #[.func (.func 58) #[] #[], .func (.func 66) #[] #[]] 69 (0, 0)) ∧ w1.heap.size ≤ R ∧ Below w1.heap.size w1 wx)
  case first =>
    refine start_ (n := 10) (S := fun w' => Below w1.heap.size w1 w') (ds := [8]) #[false, false, false, false, false, false, false, false, false, false] (by kernel_rfl) rfl rfl (below_drew (Below.refl _ _)) (fun hHeld => ?_)
    have HBd := Lib.hid (below_drew (Below.refl w1.heap.size w1))
    generalize w1.drew = wd at HBd hHeld ⊢
    refine pure_ (i := 1) (N := some 7) (v := ?_) (a' := ?_) #[false, true, false, false, false, false, false, false, false, false] rfl rfl (by kernel_rfl) (fun _ _ _ h => h) (Or.inl ⟨by rfl, ?_⟩) ?_ ?_
    rotate_left
    · intro w'
      go_simp
      with_reducible rfl
    rotate_left
    · simp only [Act.put, List.setIfInBounds_toArray, List.set_cons_zero, List.set_cons_succ, i64_w, i32_w]
      rfl
    refine take_ (i := 2) (N := some 8) (v := ?_) (a' := ?_) #[false, true, true, false, false, false, false, false, false, false] rfl rfl (by kernel_rfl) (fun _ _ _ h => h) (Or.inl ⟨by rfl, ?_⟩) hHeld ?_ ?_
    rotate_left
    · rintro w' hS
      have x0 := pw_cell_below hS y0
      go_simp
      with_reducible rfl
    rotate_left
    · simp only [Act.put, List.setIfInBounds_toArray, List.set_cons_zero, List.set_cons_succ, i64_w, i32_w]
      rfl
    refine join_ (σ := Nat × Nat) 2 #[true, true, true, true, true, true, true, true, false, false] (fun s => [(6, .map (some s.2)), (3, .pointer (some ⟨s.1, 0, none⟩)), (9, .tuple #[.agg #[.func (.func 58) #[] #[], .func (.func 66) #[] #[]], .bool true]), (5, .tuple #[.agg #[.func (.func 58) #[] #[], .func (.func 66) #[] #[]], .bool true]), (10, .agg #[.func (.func 58) #[] #[], .func (.func 66) #[] #[]]), (11, .bool true)]) (fun s w' => Hid (w'.heap[s.1]? = some (.cells #[.nilFunc, .nilFunc] 69 (0, 0))) ∧ Hid (w1.heap.size ≤ s.1) ∧ Hid (Below w1.heap.size w1 w')) ?_ (fun hfin => ?_)
    · rintro ⟨R, g⟩ w9 ⟨HZ, HRG, HB9⟩
      dsimp only at HZ HRG
      refine norm_ (a' := ?_) ?_ ?_
      rotate_left
      · show putAll _ _ = _
        simp only [putAll, Act.put, List.setIfInBounds_toArray, List.set_cons_zero, List.set_cons_succ]
        rfl
      refine last_ (i := 8) (N := none) #[true, true, true, true, true, true, true, true, true, false] rfl rfl (by kernel_rfl) (by decide) (fun K hK => ?_)
      refine Stb.store_step (by rfl) rfl 69 (.tmp 3) (.tmp 10) (by rfl) (cur' := #[.func (.func 58) #[] #[], .func (.func 66) #[] #[]]) [.func (.func 58) #[] #[], .func (.func 66) #[] #[]] HZ.out (by rfl) (by rfl) (by rfl) (by kernel_rfl) (Nat.le_refl 2) (by rfl) (by rfl) ?_
      intro w10 hz10 hg10 hs10
      have HZ2 := Lib.hid hz10
      have HB2_ := Lib.hid (Stb.below_grown1 HB9.out hg10 HRG.out HB9.out.size)
      clear hz10 hg10 hs10
      refine hK.out _ _ ?_
      clear hK K
      refine norm_ (a' := ?_) ?_ ?_
      rotate_left
      · show Act.put _ (none) _ = _
        simp only [Act.put, List.setIfInBounds_toArray, List.set_cons_zero, List.set_cons_succ, i64_w, i32_w]
        rfl
      refine pure_ (i := 9) (N := some 4) (v := ?_) (a' := ?_) #[true, true, true, true, true, true, true, true, true, true] rfl rfl (by kernel_rfl) (fun _ _ _ h => h) (Or.inl ⟨by rfl, ?_⟩) ?_ ?_
      rotate_left
      · intro w'
        go_simp
        with_reducible rfl
      rotate_left
      · simp only [Act.put, List.setIfInBounds_toArray, List.set_cons_zero, List.set_cons_succ, i64_w, i32_w]
        rfl
      refine done_ (by kernel_rfl) ?_
      go_wp2_with fail
      go_meet
      exact ⟨R, rfl, rfl, HZ2.out, HRG.out, HB2_.out⟩
    refine two_ (i := 0) (j := 7) (Ni := some 6) (Nj := some 3) #[true, true, true, false, false, false, false, false, false, false] #[false, true, true, false, false, false, false, true, false, false] rfl rfl rfl rfl (by kernel_rfl) (by decide) (by decide) (fun K hK => ?_) (fun K hK => ?_)
    · refine goes_ Try.func34 (by kernel_rfl) rfl #[] (by rfl) rfl rfl (by (try simp only [List.map_toArray, List.map_cons, List.map_nil]); first | done | rfl | (go_simp; done) | (go_simp; rfl)) ?_
      refine (kinds_calls _).mono ?_
      rintro e w5 ⟨g, rfl, hg, hm, hb⟩
      refine ⟨_, rfl, ?_⟩
      refine hK.out _ _ (below_then HBd.out HBd.out.size hb) (fun hHeld => ?_)
      clear hK K
      refine norm_ (a' := ?_) ?_ ?_
      rotate_left
      · show Act.put _ (some 6) _ = _
        simp only [Act.put, List.setIfInBounds_toArray, List.set_cons_zero, List.set_cons_succ, i64_w, i32_w]
        rfl
      refine two_ (i := 3) (j := 7) (Ni := some 9) (Nj := some 3) #[true, true, true, true, false, false, false, false, false, false] #[true, true, true, false, false, false, false, true, false, false] rfl rfl rfl rfl (by kernel_rfl) (by decide) (by decide) (fun K hK => ?_) (fun K hK => ?_)
      · refine value_ (w1 := _) (v := .tuple #[.agg #[.func (.func 58) #[] #[], .func (.func 66) #[] #[]], .bool true]) (by rfl) rfl (Mlt.lookup_ev rfl (by rfl) (by rfl) (Mlt.lookup_yes (k := 5) true Try.underlying70 Try.underlying3 hm (i := 3) (by rfl))) ?_
        refine hK.out _ _ hHeld (fun hHeld => ?_)
        clear hK K
        refine norm_ (a' := ?_) ?_ ?_
        rotate_left
        · show Act.put _ (some 9) _ = _
          simp only [Act.put, List.setIfInBounds_toArray, List.set_cons_zero, List.set_cons_succ, i64_w, i32_w]
          rfl
        refine pure_ (i := 4) (N := some 5) (v := ?_) (a' := ?_) #[true, true, true, true, true, false, false, false, false, false] rfl rfl (by kernel_rfl) (fun _ _ _ h => h) (Or.inl ⟨by rfl, ?_⟩) ?_ ?_
        rotate_left
        · intro w'
          go_simp
          with_reducible rfl
        rotate_left
        · simp only [Act.put, List.setIfInBounds_toArray, List.set_cons_zero, List.set_cons_succ, i64_w, i32_w]
          rfl
        refine pure_ (i := 5) (N := some 10) (v := ?_) (a' := ?_) #[true, true, true, true, true, true, false, false, false, false] rfl rfl (by kernel_rfl) (fun _ _ _ h => h) (Or.inl ⟨by rfl, ?_⟩) ?_ ?_
        rotate_left
        · intro w'
          go_simp
          with_reducible rfl
        rotate_left
        · simp only [Act.put, List.setIfInBounds_toArray, List.set_cons_zero, List.set_cons_succ, i64_w, i32_w]
          rfl
        refine pure_ (i := 6) (N := some 11) (v := ?_) (a' := ?_) #[true, true, true, true, true, true, true, false, false, false] rfl rfl (by kernel_rfl) (fun _ _ _ h => h) (Or.inl ⟨by rfl, ?_⟩) ?_ ?_
        rotate_left
        · intro w'
          go_simp
          with_reducible rfl
        rotate_left
        · simp only [Act.put, List.setIfInBounds_toArray, List.set_cons_zero, List.set_cons_succ, i64_w, i32_w]
          rfl
        refine one_ (i := 7) (N := some 3) #[true, true, true, true, true, true, true, true, false, false] rfl rfl (by kernel_rfl) (by decide) (fun K hK => ?_)
        refine value_ (w1 := ?_) (v := ?_) (by rfl) rfl ?_ ?_
        rotate_left 2
        · go_simp
          constructor
          · rfl
          · rfl
        refine hK.out _ _ (below_alloc hHeld _) (fun hHeld => ?_)
        clear hK K
        refine norm_ (a' := ?_) ?_ ?_
        rotate_left
        · show Act.put _ (some 3) _ = _
          simp only [Act.put, List.setIfInBounds_toArray, List.set_cons_zero, List.set_cons_succ, i64_w, i32_w]
          rfl
        have h9 := hfin (w5.heap.size, g) _ ⟨Lib.hid (blk_new w5 _), Lib.hid (Nat.le_trans HBd.out.size hb.size), Lib.hid hHeld⟩
        refine norm_ ?_ h9
        show _ = putAll _ _
        simp only [putAll, Act.put, List.setIfInBounds_toArray, List.set_cons_zero, List.set_cons_succ]
      · refine value_ (w1 := ?_) (v := ?_) (by rfl) rfl ?_ ?_
        rotate_left 2
        · go_simp
          constructor
          · rfl
          · rfl
        refine hK.out _ _ (below_alloc hHeld _) (fun hHeld => ?_)
        clear hK K
        refine norm_ (a' := ?_) ?_ ?_
        rotate_left
        · show Act.put _ (some 3) _ = _
          simp only [Act.put, List.setIfInBounds_toArray, List.set_cons_zero, List.set_cons_succ, i64_w, i32_w]
          rfl
        refine one_ (i := 3) (N := some 9) #[true, true, true, true, false, false, false, true, false, false] rfl rfl (by kernel_rfl) (by decide) (fun K hK => ?_)
        refine value_ (w1 := _) (v := .tuple #[.agg #[.func (.func 58) #[] #[], .func (.func 66) #[] #[]], .bool true]) (by rfl) rfl (Mlt.lookup_ev rfl (by rfl) (by rfl) (Mlt.lookup_yes (k := 5) true Try.underlying70 Try.underlying3 (blk_below hm (below_alloc (Below.refl _ _) _)) (i := 3) (by rfl))) ?_
        refine hK.out _ _ hHeld (fun hHeld => ?_)
        clear hK K
        refine norm_ (a' := ?_) ?_ ?_
        rotate_left
        · show Act.put _ (some 9) _ = _
          simp only [Act.put, List.setIfInBounds_toArray, List.set_cons_zero, List.set_cons_succ, i64_w, i32_w]
          rfl
        refine pure_ (i := 4) (N := some 5) (v := ?_) (a' := ?_) #[true, true, true, true, true, false, false, true, false, false] rfl rfl (by kernel_rfl) (fun _ _ _ h => h) (Or.inl ⟨by rfl, ?_⟩) ?_ ?_
        rotate_left
        · intro w'
          go_simp
          with_reducible rfl
        rotate_left
        · simp only [Act.put, List.setIfInBounds_toArray, List.set_cons_zero, List.set_cons_succ, i64_w, i32_w]
          rfl
        refine pure_ (i := 5) (N := some 10) (v := ?_) (a' := ?_) #[true, true, true, true, true, true, false, true, false, false] rfl rfl (by kernel_rfl) (fun _ _ _ h => h) (Or.inl ⟨by rfl, ?_⟩) ?_ ?_
        rotate_left
        · intro w'
          go_simp
          with_reducible rfl
        rotate_left
        · simp only [Act.put, List.setIfInBounds_toArray, List.set_cons_zero, List.set_cons_succ, i64_w, i32_w]
          rfl
        refine pure_ (i := 6) (N := some 11) (v := ?_) (a' := ?_) #[true, true, true, true, true, true, true, true, false, false] rfl rfl (by kernel_rfl) (fun _ _ _ h => h) (Or.inl ⟨by rfl, ?_⟩) ?_ ?_
        rotate_left
        · intro w'
          go_simp
          with_reducible rfl
        rotate_left
        · simp only [Act.put, List.setIfInBounds_toArray, List.set_cons_zero, List.set_cons_succ, i64_w, i32_w]
          rfl
        have h9 := hfin (w5.heap.size, g) _ ⟨Lib.hid (blk_new w5 _), Lib.hid (Nat.le_trans HBd.out.size hb.size), Lib.hid hHeld⟩
        refine norm_ ?_ h9
        show _ = putAll _ _
        simp only [putAll, Act.put, List.setIfInBounds_toArray, List.set_cons_zero, List.set_cons_succ]
    · refine value_ (w1 := ?_) (v := ?_) (by rfl) rfl ?_ ?_
      rotate_left 2
      · go_simp
        constructor
        · rfl
        · rfl
      refine hK.out _ _ (below_alloc HBd.out _) (fun hHeld => ?_)
      clear hK K
      refine norm_ (a' := ?_) ?_ ?_
      rotate_left
      · show Act.put _ (some 3) _ = _
        simp only [Act.put, List.setIfInBounds_toArray, List.set_cons_zero, List.set_cons_succ, i64_w, i32_w]
        rfl
      refine one_ (i := 0) (N := some 6) #[true, true, true, false, false, false, false, true, false, false] rfl rfl (by kernel_rfl) (by decide) (fun K hK => ?_)
      refine goes_ Try.func34 (by kernel_rfl) rfl #[] (by rfl) rfl rfl (by (try simp only [List.map_toArray, List.map_cons, List.map_nil]); first | done | rfl | (go_simp; done) | (go_simp; rfl)) ?_
      refine (kinds_calls _).mono ?_
      rintro e w5 ⟨g, rfl, hg, hm, hb⟩
      refine ⟨_, rfl, ?_⟩
      refine hK.out _ _ (below_then (below_alloc HBd.out _) (below_alloc HBd.out _).size hb) (fun hHeld => ?_)
      clear hK K
      refine norm_ (a' := ?_) ?_ ?_
      rotate_left
      · show Act.put _ (some 6) _ = _
        simp only [Act.put, List.setIfInBounds_toArray, List.set_cons_zero, List.set_cons_succ, i64_w, i32_w]
        rfl
      refine one_ (i := 3) (N := some 9) #[true, true, true, true, false, false, false, true, false, false] rfl rfl (by kernel_rfl) (by decide) (fun K hK => ?_)
      refine value_ (w1 := _) (v := .tuple #[.agg #[.func (.func 58) #[] #[], .func (.func 66) #[] #[]], .bool true]) (by rfl) rfl (Mlt.lookup_ev rfl (by rfl) (by rfl) (Mlt.lookup_yes (k := 5) true Try.underlying70 Try.underlying3 hm (i := 3) (by rfl))) ?_
      refine hK.out _ _ hHeld (fun hHeld => ?_)
      clear hK K
      refine norm_ (a' := ?_) ?_ ?_
      rotate_left
      · show Act.put _ (some 9) _ = _
        simp only [Act.put, List.setIfInBounds_toArray, List.set_cons_zero, List.set_cons_succ, i64_w, i32_w]
        rfl
      refine pure_ (i := 4) (N := some 5) (v := ?_) (a' := ?_) #[true, true, true, true, true, false, false, true, false, false] rfl rfl (by kernel_rfl) (fun _ _ _ h => h) (Or.inl ⟨by rfl, ?_⟩) ?_ ?_
      rotate_left
      · intro w'
        go_simp
        with_reducible rfl
      rotate_left
      · simp only [Act.put, List.setIfInBounds_toArray, List.set_cons_zero, List.set_cons_succ, i64_w, i32_w]
        rfl
      refine pure_ (i := 5) (N := some 10) (v := ?_) (a' := ?_) #[true, true, true, true, true, true, false, true, false, false] rfl rfl (by kernel_rfl) (fun _ _ _ h => h) (Or.inl ⟨by rfl, ?_⟩) ?_ ?_
      rotate_left
      · intro w'
        go_simp
        with_reducible rfl
      rotate_left
      · simp only [Act.put, List.setIfInBounds_toArray, List.set_cons_zero, List.set_cons_succ, i64_w, i32_w]
        rfl
      refine pure_ (i := 6) (N := some 11) (v := ?_) (a' := ?_) #[true, true, true, true, true, true, true, true, false, false] rfl rfl (by kernel_rfl) (fun _ _ _ h => h) (Or.inl ⟨by rfl, ?_⟩) ?_ ?_
      rotate_left
      · intro w'
        go_simp
        with_reducible rfl
      rotate_left
      · simp only [Act.put, List.setIfInBounds_toArray, List.set_cons_zero, List.set_cons_succ, i64_w, i32_w]
        rfl
      have h9 := hfin (wd.heap.size, g) _ ⟨Lib.hid (blk_below (blk_new wd _) hb), Lib.hid HBd.out.size, Lib.hid hHeld⟩
      refine norm_ ?_ h9
      show _ = putAll _ _
      simp only [putAll, Act.put, List.setIfInBounds_toArray, List.set_cons_zero, List.set_cons_succ]
  case rest =>
    obtain ⟨R, rfl, rfl, hz, hrg, hb⟩ := hcut
    have HB2 := Lib.hid (below_then HB0.out HB0.out.size hb)
    have HA2 := Lib.hid (blk_below HA.out hb)
    have HZ2 := Lib.hid hz
    clear hz hrg hb y0
    have r0 := blk_cell HZ2.out 0
    have y0 := blk_cell HA2.out 0
    have y1 := blk_cell HA2.out 1
    have y2 := blk_cell HA2.out 2
    have y3 := blk_cell HA2.out 3
    have y4 := blk_cell HA2.out 4
    have y5 := blk_cell HA2.out 5
    have y6 := blk_cell HA2.out 6
    have y7 := blk_cell HA2.out 7
    have y8 := blk_cell HA2.out 8
    have T := Lib.hid (fun W => bare_calls o W)
    rw [← HQ.out] at T
    go_wp2_with fail
    refine (T.out _).mono ?_
    rintro e w3 ⟨rfl, hb⟩
    have HB3 := Lib.hid (below_then HB2.out HB2.out.size hb)
    have c0 := blk_cell (blk_below HA2.out hb) 0
    clear hb T r0 y0 y1 y2 y3 y4 y5 y6 y7 y8
    cases q
    · go_wp2_with fail
      go_ret
      exact ⟨rfl, HB3.out⟩
    · go_wp2_with fail
      go_ret
      exact ⟨rfl, HB3.out⟩
set_option maxHeartbeats 8000000 in
set_option maxRecDepth 100000 in
theorem chk_6 (o : Od) (w : World) : Calls Try.prog 30 #[.agg (chA 6 o)] w fun e w' => e = .returned (.int .i64 (if (onlyB o ⟨0, false, false, o.f3, 0, 0, 0, 0⟩ && winB o.f3 16777216) = true then 0 else 1)) ∧ Below w.heap.size w w' := by
  have HB0 := Lib.hid (below_alloc (Below.refl w.heap.size w) (.cells #[.int .i64 6, .int .i64 o.f0, .bool o.f1, .bool o.f2, .int .i64 o.f3, .int .i64 o.f4, .int .i64 o.f5, .int .i64 o.f6, .int .i64 o.f7] 39))
  have HA : Hid ((w.alloc (.cells #[.int .i64 6, .int .i64 o.f0, .bool o.f1, .bool o.f2, .int .i64 o.f3, .int .i64 o.f4, .int .i64 o.f5, .int .i64 o.f6, .int .i64 o.f7] 39)).heap[w.heap.size]? = some (.cells #[.int .i64 6, .int .i64 o.f0, .bool o.f1, .bool o.f2, .int .i64 o.f3, .int .i64 o.f4, .int .i64 o.f5, .int .i64 o.f6, .int .i64 o.f7] 39 (0, 0))) := Lib.hid (blk_new _ _)
  obtain ⟨q, hq⟩ : ∃ q, q = (onlyB o ⟨0, false, false, o.f3, 0, 0, 0, 0⟩ && winB o.f3 16777216) := ⟨_, rfl⟩
  rw [← hq]
  have HQ := Lib.hid hq
  clear hq
  go_enter Try.func30, Try.ntmps30
  go_upto_region 1 with fail
  obtain ⟨w1, hw1⟩ : ∃ w1, w1 = w.alloc (.cells #[.int .i64 6, .int .i64 o.f0, .bool o.f1, .bool o.f2, .int .i64 o.f3, .int .i64 o.f4, .int .i64 o.f5, .int .i64 o.f6, .int .i64 o.f7] 39) := ⟨_, rfl⟩
  rw [← hw1] at HB0 HA ⊢
  clear hw1
  have y0 := blk_cell HA.out 0
  go_cut [3, 4] from 5 to 11 (fun s3 s4 wx => ∃ R : Nat, s3 = .pointer (some ⟨R, 0, none⟩) ∧ s4 = .bool true ∧ wx.heap[R]? = some (.cells #[.func (.func 67) #[] #[], .func (.func 68) #[] #[]] 69 (0, 0)) ∧ w1.heap.size ≤ R ∧ Below w1.heap.size w1 wx)
  case first =>
    refine start_ (n := 10) (S := fun w' => Below w1.heap.size w1 w') (ds := [8]) #[false, false, false, false, false, false, false, false, false, false] (by kernel_rfl) rfl rfl (below_drew (Below.refl _ _)) (fun hHeld => ?_)
    have HBd := Lib.hid (below_drew (Below.refl w1.heap.size w1))
    generalize w1.drew = wd at HBd hHeld ⊢
    refine pure_ (i := 1) (N := some 7) (v := ?_) (a' := ?_) #[false, true, false, false, false, false, false, false, false, false] rfl rfl (by kernel_rfl) (fun _ _ _ h => h) (Or.inl ⟨by rfl, ?_⟩) ?_ ?_
    rotate_left
    · intro w'
      go_simp
      with_reducible rfl
    rotate_left
    · simp only [Act.put, List.setIfInBounds_toArray, List.set_cons_zero, List.set_cons_succ, i64_w, i32_w]
      rfl
    refine take_ (i := 2) (N := some 8) (v := ?_) (a' := ?_) #[false, true, true, false, false, false, false, false, false, false] rfl rfl (by kernel_rfl) (fun _ _ _ h => h) (Or.inl ⟨by rfl, ?_⟩) hHeld ?_ ?_
    rotate_left
    · rintro w' hS
      have x0 := pw_cell_below hS y0
      go_simp
      with_reducible rfl
    rotate_left
    · simp only [Act.put, List.setIfInBounds_toArray, List.set_cons_zero, List.set_cons_succ, i64_w, i32_w]
      rfl
    refine join_ (σ := Nat × Nat) 2 #[true, true, true, true, true, true, true, true, false, false] (fun s => [(6, .map (some s.2)), (3, .pointer (some ⟨s.1, 0, none⟩)), (9, .tuple #[.agg #[.func (.func 67) #[] #[], .func (.func 68) #[] #[]], .bool true]), (5, .tuple #[.agg #[.func (.func 67) #[] #[], .func (.func 68) #[] #[]], .bool true]), (10, .agg #[.func (.func 67) #[] #[], .func (.func 68) #[] #[]]), (11, .bool true)]) (fun s w' => Hid (w'.heap[s.1]? = some (.cells #[.nilFunc, .nilFunc] 69 (0, 0))) ∧ Hid (w1.heap.size ≤ s.1) ∧ Hid (Below w1.heap.size w1 w')) ?_ (fun hfin => ?_)
    · rintro ⟨R, g⟩ w9 ⟨HZ, HRG, HB9⟩
      dsimp only at HZ HRG
      refine norm_ (a' := ?_) ?_ ?_
      rotate_left
      · show putAll _ _ = _
        simp only [putAll, Act.put, List.setIfInBounds_toArray, List.set_cons_zero, List.set_cons_succ]
        rfl
      refine last_ (i := 8) (N := none) #[true, true, true, true, true, true, true, true, true, false] rfl rfl (by kernel_rfl) (by decide) (fun K hK => ?_)
      refine Stb.store_step (by rfl) rfl 69 (.tmp 3) (.tmp 10) (by rfl) (cur' := #[.func (.func 67) #[] #[], .func (.func 68) #[] #[]]) [.func (.func 67) #[] #[], .func (.func 68) #[] #[]] HZ.out (by rfl) (by rfl) (by rfl) (by kernel_rfl) (Nat.le_refl 2) (by rfl) (by rfl) ?_
      intro w10 hz10 hg10 hs10
      have HZ2 := Lib.hid hz10
      have HB2_ := Lib.hid (Stb.below_grown1 HB9.out hg10 HRG.out HB9.out.size)
      clear hz10 hg10 hs10
      refine hK.out _ _ ?_
      clear hK K
      refine norm_ (a' := ?_) ?_ ?_
      rotate_left
      · show Act.put _ (none) _ = _
        simp only [Act.put, List.setIfInBounds_toArray, List.set_cons_zero, List.set_cons_succ, i64_w, i32_w]
        rfl
      refine pure_ (i := 9) (N := some 4) (v := ?_) (a' := ?_) #[true, true, true, true, true, true, true, true, true, true] rfl rfl (by kernel_rfl) (fun _ _ _ h => h) (Or.inl ⟨by rfl, ?_⟩) ?_ ?_
      rotate_left
      · intro w'
        go_simp
        with_reducible rfl
      rotate_left
      · simp only [Act.put, List.setIfInBounds_toArray, List.set_cons_zero, List.set_cons_succ, i64_w, i32_w]
        rfl
      refine done_ (by kernel_rfl) ?_
      go_wp2_with fail
      go_meet
      exact ⟨R, rfl, rfl, HZ2.out, HRG.out, HB2_.out⟩
    refine two_ (i := 0) (j := 7) (Ni := some 6) (Nj := some 3) #[true, true, true, false, false, false, false, false, false, false] #[false, true, true, false, false, false, false, true, false, false] rfl rfl rfl rfl (by kernel_rfl) (by decide) (by decide) (fun K hK => ?_) (fun K hK => ?_)
    · refine goes_ Try.func34 (by kernel_rfl) rfl #[] (by rfl) rfl rfl (by (try simp only [List.map_toArray, List.map_cons, List.map_nil]); first | done | rfl | (go_simp; done) | (go_simp; rfl)) ?_
      refine (kinds_calls _).mono ?_
      rintro e w5 ⟨g, rfl, hg, hm, hb⟩
      refine ⟨_, rfl, ?_⟩
      refine hK.out _ _ (below_then HBd.out HBd.out.size hb) (fun hHeld => ?_)
      clear hK K
      refine norm_ (a' := ?_) ?_ ?_
      rotate_left
      · show Act.put _ (some 6) _ = _
        simp only [Act.put, List.setIfInBounds_toArray, List.set_cons_zero, List.set_cons_succ, i64_w, i32_w]
        rfl
      refine two_ (i := 3) (j := 7) (Ni := some 9) (Nj := some 3) #[true, true, true, true, false, false, false, false, false, false] #[true, true, true, false, false, false, false, true, false, false] rfl rfl rfl rfl (by kernel_rfl) (by decide) (by decide) (fun K hK => ?_) (fun K hK => ?_)
      · refine value_ (w1 := _) (v := .tuple #[.agg #[.func (.func 67) #[] #[], .func (.func 68) #[] #[]], .bool true]) (by rfl) rfl (Mlt.lookup_ev rfl (by rfl) (by rfl) (Mlt.lookup_yes (k := 6) true Try.underlying70 Try.underlying3 hm (i := 4) (by rfl))) ?_
        refine hK.out _ _ hHeld (fun hHeld => ?_)
        clear hK K
        refine norm_ (a' := ?_) ?_ ?_
        rotate_left
        · show Act.put _ (some 9) _ = _
          simp only [Act.put, List.setIfInBounds_toArray, List.set_cons_zero, List.set_cons_succ, i64_w, i32_w]
          rfl
        refine pure_ (i := 4) (N := some 5) (v := ?_) (a' := ?_) #[true, true, true, true, true, false, false, false, false, false] rfl rfl (by kernel_rfl) (fun _ _ _ h => h) (Or.inl ⟨by rfl, ?_⟩) ?_ ?_
        rotate_left
        · intro w'
          go_simp
          with_reducible rfl
        rotate_left
        · simp only [Act.put, List.setIfInBounds_toArray, List.set_cons_zero, List.set_cons_succ, i64_w, i32_w]
          rfl
        refine pure_ (i := 5) (N := some 10) (v := ?_) (a' := ?_) #[true, true, true, true, true, true, false, false, false, false] rfl rfl (by kernel_rfl) (fun _ _ _ h => h) (Or.inl ⟨by rfl, ?_⟩) ?_ ?_
        rotate_left
        · intro w'
          go_simp
          with_reducible rfl
        rotate_left
        · simp only [Act.put, List.setIfInBounds_toArray, List.set_cons_zero, List.set_cons_succ, i64_w, i32_w]
          rfl
        refine pure_ (i := 6) (N := some 11) (v := ?_) (a' := ?_) #[true, true, true, true, true, true, true, false, false, false] rfl rfl (by kernel_rfl) (fun _ _ _ h => h) (Or.inl ⟨by rfl, ?_⟩) ?_ ?_
        rotate_left
        · intro w'
          go_simp
          with_reducible rfl
        rotate_left
        · simp only [Act.put, List.setIfInBounds_toArray, List.set_cons_zero, List.set_cons_succ, i64_w, i32_w]
          rfl
        refine one_ (i := 7) (N := some 3) #[true, true, true, true, true, true, true, true, false, false] rfl rfl (by kernel_rfl) (by decide) (fun K hK => ?_)
        refine value_ (w1 := ?_) (v := ?_) (by rfl) rfl ?_ ?_
        rotate_left 2
        · go_simp
          constructor
          · rfl
          · rfl
        refine hK.out _ _ (below_alloc hHeld _) (fun hHeld => ?_)
        clear hK K
        refine norm_ (a' := ?_) ?_ ?_
        rotate_left
        · show Act.put _ (some 3) _ = _
          simp only [Act.put, List.setIfInBounds_toArray, List.set_cons_zero, List.set_cons_succ, i64_w, i32_w]
          rfl
        have h9 := hfin (w5.heap.size, g) _ ⟨Lib.hid (blk_new w5 _), Lib.hid (Nat.le_trans HBd.out.size hb.size), Lib.hid hHeld⟩
        refine norm_ ?_ h9
        show _ = putAll _ _
        simp only [putAll, Act.put, List.setIfInBounds_toArray, List.set_cons_zero, List.set_cons_succ]
      · refine value_ (w1 := ?_) (v := ?_) (by rfl) rfl ?_ ?_
        rotate_left 2
        · go_simp
          constructor
          · rfl
          · rfl
        refine hK.out _ _ (below_alloc hHeld _) (fun hHeld => ?_)
        clear hK K
        refine norm_ (a' := ?_) ?_ ?_
        rotate_left
        · show Act.put _ (some 3) _ = _
          simp only [Act.put, List.setIfInBounds_toArray, List.set_cons_zero, List.set_cons_succ, i64_w, i32_w]
          rfl
        refine one_ (i := 3) (N := some 9) #[true, true, true, true, false, false, false, true, false, false] rfl rfl (by kernel_rfl) (by decide) (fun K hK => ?_)
        refine value_ (w1 := _) (v := .tuple #[.agg #[.func (.func 67) #[] #[], .func (.func 68) #[] #[]], .bool true]) (by rfl) rfl (Mlt.lookup_ev rfl (by rfl) (by rfl) (Mlt.lookup_yes (k := 6) true Try.underlying70 Try.underlying3 (blk_below hm (below_alloc (Below.refl _ _) _)) (i := 4) (by rfl))) ?_
        refine hK.out _ _ hHeld (fun hHeld => ?_)
        clear hK K
        refine norm_ (a' := ?_) ?_ ?_
        rotate_left
        · show Act.put _ (some 9) _ = _
          simp only [Act.put, List.setIfInBounds_toArray, List.set_cons_zero, List.set_cons_succ, i64_w, i32_w]
          rfl
        refine pure_ (i := 4) (N := some 5) (v := ?_) (a' := ?_) #[true, true, true, true, true, false, false, true, false, false] rfl rfl (by kernel_rfl) (fun _ _ _ h => h) (Or.inl ⟨by rfl, ?_⟩) ?_ ?_
        rotate_left
        · intro w'
          go_simp
          with_reducible rfl
        rotate_left
        · simp only [Act.put, List.setIfInBounds_toArray, List.set_cons_zero, List.set_cons_succ, i64_w, i32_w]
          rfl
        refine pure_ (i := 5) (N := some 10) (v := ?_) (a' := ?_) #[true, true, true, true, true, true, false, true, false, false] rfl rfl (by kernel_rfl) (fun _ _ _ h => h) (Or.inl ⟨by rfl, ?_⟩) ?_ ?_
        rotate_left
        · intro w'
          go_simp
          with_reducible rfl
        rotate_left
        · simp only [Act.put, List.setIfInBounds_toArray, List.set_cons_zero, List.set_cons_succ, i64_w, i32_w]
          rfl
        refine pure_ (i := 6) (N := some 11) (v := ?_) (a' := ?_) #[true, true, true, true, true, true, true, true, false, false] rfl rfl (by kernel_rfl) (fun _ _ _ h => h) (Or.inl ⟨by rfl, ?_⟩) ?_ ?_
        rotate_left
        · intro w'
          go_simp
          with_reducible rfl
        rotate_left
        · simp only [Act.put, List.setIfInBounds_toArray, List.set_cons_zero, List.set_cons_succ, i64_w, i32_w]
          rfl
        have h9 := hfin (w5.heap.size, g) _ ⟨Lib.hid (blk_new w5 _), Lib.hid (Nat.le_trans HBd.out.size hb.size), Lib.hid hHeld⟩
        refine norm_ ?_ h9
        show _ = putAll _ _
        simp only [putAll, Act.put, List.setIfInBounds_toArray, List.set_cons_zero, List.set_cons_succ]
    · refine value_ (w1 := ?_) (v := ?_) (by rfl) rfl ?_ ?_
      rotate_left 2
      · go_simp
        constructor
        · rfl
        · rfl
      refine hK.out _ _ (below_alloc HBd.out _) (fun hHeld => ?_)
      clear hK K
      refine norm_ (a' := ?_) ?_ ?_
      rotate_left
      · show Act.put _ (some 3) _ = _
        simp only [Act.put, List.setIfInBounds_toArray, List.set_cons_zero, List.set_cons_succ, i64_w, i32_w]
        rfl
      refine one_ (i := 0) (N := some 6) #[true, true, true, false, false, false, false, true, false, false] rfl rfl (by kernel_rfl) (by decide) (fun K hK => ?_)
      refine goes_ Try.func34 (by kernel_rfl) rfl #[] (by rfl) rfl rfl (by (try simp only [List.map_toArray, List.map_cons, List.map_nil]); first | done | rfl | (go_simp; done) | (go_simp; rfl)) ?_
      refine (kinds_calls _).mono ?_
      rintro e w5 ⟨g, rfl, hg, hm, hb⟩
      refine ⟨_, rfl, ?_⟩
      refine hK.out _ _ (below_then (below_alloc HBd.out _) (below_alloc HBd.out _).size hb) (fun hHeld => ?_)
      clear hK K
      refine norm_ (a' := ?_) ?_ ?_
      rotate_left
      · show Act.put _ (some 6) _ = _
        simp only [Act.put, List.setIfInBounds_toArray, List.set_cons_zero, List.set_cons_succ, i64_w, i32_w]
        rfl
      refine one_ (i := 3) (N := some 9) #[true, true, true, true, false, false, false, true, false, false] rfl rfl (by kernel_rfl) (by decide) (fun K hK => ?_)
      refine value_ (w1 := _) (v := .tuple #[.agg #[.func (.func 67) #[] #[], .func (.func 68) #[] #[]], .bool true]) (by rfl) rfl (Mlt.lookup_ev rfl (by rfl) (by rfl) (Mlt.lookup_yes (k := 6) true Try.underlying70 Try.underlying3 hm (i := 4) (by rfl))) ?_
      refine hK.out _ _ hHeld (fun hHeld => ?_)
      clear hK K
      refine norm_ (a' := ?_) ?_ ?_
      rotate_left
      · show Act.put _ (some 9) _ = _
        simp only [Act.put, List.setIfInBounds_toArray, List.set_cons_zero, List.set_cons_succ, i64_w, i32_w]
        rfl
      refine pure_ (i := 4) (N := some 5) (v := ?_) (a' := ?_) #[true, true, true, true, true, false, false, true, false, false] rfl rfl (by kernel_rfl) (fun _ _ _ h => h) (Or.inl ⟨by rfl, ?_⟩) ?_ ?_
      rotate_left
      · intro w'
        go_simp
        with_reducible rfl
      rotate_left
      · simp only [Act.put, List.setIfInBounds_toArray, List.set_cons_zero, List.set_cons_succ, i64_w, i32_w]
        rfl
      refine pure_ (i := 5) (N := some 10) (v := ?_) (a' := ?_) #[true, true, true, true, true, true, false, true, false, false] rfl rfl (by kernel_rfl) (fun _ _ _ h => h) (Or.inl ⟨by rfl, ?_⟩) ?_ ?_
      rotate_left
      · intro w'
        go_simp
        with_reducible rfl
      rotate_left
      · simp only [Act.put, List.setIfInBounds_toArray, List.set_cons_zero, List.set_cons_succ, i64_w, i32_w]
        rfl
      refine pure_ (i := 6) (N := some 11) (v := ?_) (a' := ?_) #[true, true, true, true, true, true, true, true, false, false] rfl rfl (by kernel_rfl) (fun _ _ _ h => h) (Or.inl ⟨by rfl, ?_⟩) ?_ ?_
      rotate_left
      · intro w'
        go_simp
        with_reducible rfl
      rotate_left
      · simp only [Act.put, List.setIfInBounds_toArray, List.set_cons_zero, List.set_cons_succ, i64_w, i32_w]
        rfl
      have h9 := hfin (wd.heap.size, g) _ ⟨Lib.hid (blk_below (blk_new wd _) hb), Lib.hid HBd.out.size, Lib.hid hHeld⟩
      refine norm_ ?_ h9
      show _ = putAll _ _
      simp only [putAll, Act.put, List.setIfInBounds_toArray, List.set_cons_zero, List.set_cons_succ]
  case rest =>
    obtain ⟨R, rfl, rfl, hz, hrg, hb⟩ := hcut
    have HB2 := Lib.hid (below_then HB0.out HB0.out.size hb)
    have HA2 := Lib.hid (blk_below HA.out hb)
    have HZ2 := Lib.hid hz
    clear hz hrg hb y0
    have r0 := blk_cell HZ2.out 0
    have y0 := blk_cell HA2.out 0
    have y1 := blk_cell HA2.out 1
    have y2 := blk_cell HA2.out 2
    have y3 := blk_cell HA2.out 3
    have y4 := blk_cell HA2.out 4
    have y5 := blk_cell HA2.out 5
    have y6 := blk_cell HA2.out 6
    have y7 := blk_cell HA2.out 7
    have y8 := blk_cell HA2.out 8
    have T := Lib.hid (fun W => weigh_calls o W)
    rw [← HQ.out] at T
    go_wp2_with fail
    refine (T.out _).mono ?_
    rintro e w3 ⟨rfl, hb⟩
    have HB3 := Lib.hid (below_then HB2.out HB2.out.size hb)
    have c0 := blk_cell (blk_below HA2.out hb) 0
    clear hb T r0 y0 y1 y2 y3 y4 y5 y6 y7 y8
    cases q
    · go_wp2_with fail
      go_ret
      exact ⟨rfl, HB3.out⟩
    · go_wp2_with fail
      go_ret
      exact ⟨rfl, HB3.out⟩
set_option maxHeartbeats 8000000 in
set_option maxRecDepth 100000 in
theorem chk_no (kd : Int) (o : Od) (w : World) (hno : knownB kd = false) : Calls Try.prog 30 #[.agg (chA kd o)] w fun e w' => e = .returned (.int .i64 (if (decide (kd = 1) && osdB o) = true then 0 else 1)) ∧ Below w.heap.size w w' := by
  have HB0 := Lib.hid (below_alloc (Below.refl w.heap.size w) (.cells #[.int .i64 kd, .int .i64 o.f0, .bool o.f1, .bool o.f2, .int .i64 o.f3, .int .i64 o.f4, .int .i64 o.f5, .int .i64 o.f6, .int .i64 o.f7] 39))
  have HA : Hid ((w.alloc (.cells #[.int .i64 kd, .int .i64 o.f0, .bool o.f1, .bool o.f2, .int .i64 o.f3, .int .i64 o.f4, .int .i64 o.f5, .int .i64 o.f6, .int .i64 o.f7] 39)).heap[w.heap.size]? = some (.cells #[.int .i64 kd, .int .i64 o.f0, .bool o.f1, .bool o.f2, .int .i64 o.f3, .int .i64 o.f4, .int .i64 o.f5, .int .i64 o.f6, .int .i64 o.f7] 39 (0, 0))) := Lib.hid (blk_new _ _)
  have HNO := Lib.hid (find_no hno)
  have HZV : Hid (∀ W, (zeroValue 69).run Try.prog W = .ok (.agg #[.nilFunc, .nilFunc]) W) := Lib.hid (zero_of_info (by kernel_rfl : (Try.prog.info? 69).map (fun i => (i.zero, i.size)) = some (some (.agg #[.nilFunc, .nilFunc]), 2))).1
  clear hno
  obtain ⟨q, hq⟩ : ∃ q, q = (decide (kd = 1) && osdB o) := ⟨_, rfl⟩
  rw [← hq]
  have HQ := Lib.hid hq
  clear hq
  go_enter Try.func30, Try.ntmps30
  go_upto_region 1 with fail
  obtain ⟨w1, hw1⟩ : ∃ w1, w1 = w.alloc (.cells #[.int .i64 kd, .int .i64 o.f0, .bool o.f1, .bool o.f2, .int .i64 o.f3, .int .i64 o.f4, .int .i64 o.f5, .int .i64 o.f6, .int .i64 o.f7] 39) := ⟨_, rfl⟩
  rw [← hw1] at HB0 HA ⊢
  clear hw1
  have y0 := blk_cell HA.out 0
  go_cut [3, 4] from 5 to 11 (fun s3 s4 wx => ∃ R : Nat, s3 = .pointer (some ⟨R, 0, none⟩) ∧ s4 = .bool false ∧ wx.heap[R]? = some (.cells #[.nilFunc, .nilFunc] 69 (0, 0)) ∧ w1.heap.size ≤ R ∧ Below w1.heap.size w1 wx)
  case first =>
    refine start_ (n := 10) (S := fun w' => Below w1.heap.size w1 w') (ds := [8]) #[false, false, false, false, false, false, false, false, false, false] (by kernel_rfl) rfl rfl (below_drew (Below.refl _ _)) (fun hHeld => ?_)
    have HBd := Lib.hid (below_drew (Below.refl w1.heap.size w1))
    generalize w1.drew = wd at HBd hHeld ⊢
    refine pure_ (i := 1) (N := some 7) (v := ?_) (a' := ?_) #[false, true, false, false, false, false, false, false, false, false] rfl rfl (by kernel_rfl) (fun _ _ _ h => h) (Or.inl ⟨by rfl, ?_⟩) ?_ ?_
    rotate_left
    · intro w'
      go_simp
      with_reducible rfl
    rotate_left
    · simp only [Act.put, List.setIfInBounds_toArray, List.set_cons_zero, List.set_cons_succ, i64_w, i32_w]
      rfl
    refine take_ (i := 2) (N := some 8) (v := ?_) (a' := ?_) #[false, true, true, false, false, false, false, false, false, false] rfl rfl (by kernel_rfl) (fun _ _ _ h => h) (Or.inl ⟨by rfl, ?_⟩) hHeld ?_ ?_
    rotate_left
    · rintro w' hS
      have x0 := pw_cell_below hS y0
      go_simp
      with_reducible rfl
    rotate_left
    · simp only [Act.put, List.setIfInBounds_toArray, List.set_cons_zero, List.set_cons_succ, i64_w, i32_w]
      rfl
    refine join_ (σ := Nat × Nat) 2 #[true, true, true, true, true, true, true, true, false, false] (fun s => [(6, .map (some s.2)), (3, .pointer (some ⟨s.1, 0, none⟩)), (9, .tuple #[.agg #[.nilFunc, .nilFunc], .bool false]), (5, .tuple #[.agg #[.nilFunc, .nilFunc], .bool false]), (10, .agg #[.nilFunc, .nilFunc]), (11, .bool false)]) (fun s w' => Hid (w'.heap[s.1]? = some (.cells #[.nilFunc, .nilFunc] 69 (0, 0))) ∧ Hid (w1.heap.size ≤ s.1) ∧ Hid (Below w1.heap.size w1 w')) ?_ (fun hfin => ?_)
    · rintro ⟨R, g⟩ w9 ⟨HZ, HRG, HB9⟩
      dsimp only at HZ HRG
      refine norm_ (a' := ?_) ?_ ?_
      rotate_left
      · show putAll _ _ = _
        simp only [putAll, Act.put, List.setIfInBounds_toArray, List.set_cons_zero, List.set_cons_succ]
        rfl
      refine last_ (i := 8) (N := none) #[true, true, true, true, true, true, true, true, true, false] rfl rfl (by kernel_rfl) (by decide) (fun K hK => ?_)
      refine Stb.store_step (by rfl) rfl 69 (.tmp 3) (.tmp 10) (by rfl) (cur' := #[.nilFunc, .nilFunc]) [.nilFunc, .nilFunc] HZ.out (by rfl) (by rfl) (by rfl) (by kernel_rfl) (Nat.le_refl 2) (by rfl) (by rfl) ?_
      intro w10 hz10 hg10 hs10
      have HZ2 := Lib.hid hz10
      have HB2_ := Lib.hid (Stb.below_grown1 HB9.out hg10 HRG.out HB9.out.size)
      clear hz10 hg10 hs10
      refine hK.out _ _ ?_
      clear hK K
      refine norm_ (a' := ?_) ?_ ?_
      rotate_left
      · show Act.put _ (none) _ = _
        simp only [Act.put, List.setIfInBounds_toArray, List.set_cons_zero, List.set_cons_succ, i64_w, i32_w]
        rfl
      refine pure_ (i := 9) (N := some 4) (v := ?_) (a' := ?_) #[true, true, true, true, true, true, true, true, true, true] rfl rfl (by kernel_rfl) (fun _ _ _ h => h) (Or.inl ⟨by rfl, ?_⟩) ?_ ?_
      rotate_left
      · intro w'
        go_simp
        with_reducible rfl
      rotate_left
      · simp only [Act.put, List.setIfInBounds_toArray, List.set_cons_zero, List.set_cons_succ, i64_w, i32_w]
        rfl
      refine done_ (by kernel_rfl) ?_
      go_wp2_with fail
      go_meet
      exact ⟨R, rfl, rfl, HZ2.out, HRG.out, HB2_.out⟩
    refine two_ (i := 0) (j := 7) (Ni := some 6) (Nj := some 3) #[true, true, true, false, false, false, false, false, false, false] #[false, true, true, false, false, false, false, true, false, false] rfl rfl rfl rfl (by kernel_rfl) (by decide) (by decide) (fun K hK => ?_) (fun K hK => ?_)
    · refine goes_ Try.func34 (by kernel_rfl) rfl #[] (by rfl) rfl rfl (by (try simp only [List.map_toArray, List.map_cons, List.map_nil]); first | done | rfl | (go_simp; done) | (go_simp; rfl)) ?_
      refine (kinds_calls _).mono ?_
      rintro e w5 ⟨g, rfl, hg, hm, hb⟩
      refine ⟨_, rfl, ?_⟩
      refine hK.out _ _ (below_then HBd.out HBd.out.size hb) (fun hHeld => ?_)
      clear hK K
      refine norm_ (a' := ?_) ?_ ?_
      rotate_left
      · show Act.put _ (some 6) _ = _
        simp only [Act.put, List.setIfInBounds_toArray, List.set_cons_zero, List.set_cons_succ, i64_w, i32_w]
        rfl
      refine two_ (i := 3) (j := 7) (Ni := some 9) (Nj := some 3) #[true, true, true, true, false, false, false, false, false, false] #[true, true, true, false, false, false, false, true, false, false] rfl rfl rfl rfl (by kernel_rfl) (by decide) (by decide) (fun K hK => ?_) (fun K hK => ?_)
      · refine value_ (w1 := _) (v := .tuple #[.agg #[.nilFunc, .nilFunc], .bool false]) (by rfl) rfl (Mlt.lookup_ev rfl (by rfl) (by rfl) (Mlt.lookup_no (k := kd) true Try.underlying70 Try.underlying3 (HZV.out _) hm HNO.out)) ?_
        refine hK.out _ _ hHeld (fun hHeld => ?_)
        clear hK K
        refine norm_ (a' := ?_) ?_ ?_
        rotate_left
        · show Act.put _ (some 9) _ = _
          simp only [Act.put, List.setIfInBounds_toArray, List.set_cons_zero, List.set_cons_succ, i64_w, i32_w]
          rfl
        refine pure_ (i := 4) (N := some 5) (v := ?_) (a' := ?_) #[true, true, true, true, true, false, false, false, false, false] rfl rfl (by kernel_rfl) (fun _ _ _ h => h) (Or.inl ⟨by rfl, ?_⟩) ?_ ?_
        rotate_left
        · intro w'
          go_simp
          with_reducible rfl
        rotate_left
        · simp only [Act.put, List.setIfInBounds_toArray, List.set_cons_zero, List.set_cons_succ, i64_w, i32_w]
          rfl
        refine pure_ (i := 5) (N := some 10) (v := ?_) (a' := ?_) #[true, true, true, true, true, true, false, false, false, false] rfl rfl (by kernel_rfl) (fun _ _ _ h => h) (Or.inl ⟨by rfl, ?_⟩) ?_ ?_
        rotate_left
        · intro w'
          go_simp
          with_reducible rfl
        rotate_left
        · simp only [Act.put, List.setIfInBounds_toArray, List.set_cons_zero, List.set_cons_succ, i64_w, i32_w]
          rfl
        refine pure_ (i := 6) (N := some 11) (v := ?_) (a' := ?_) #[true, true, true, true, true, true, true, false, false, false] rfl rfl (by kernel_rfl) (fun _ _ _ h => h) (Or.inl ⟨by rfl, ?_⟩) ?_ ?_
        rotate_left
        · intro w'
          go_simp
          with_reducible rfl
        rotate_left
        · simp only [Act.put, List.setIfInBounds_toArray, List.set_cons_zero, List.set_cons_succ, i64_w, i32_w]
          rfl
        refine one_ (i := 7) (N := some 3) #[true, true, true, true, true, true, true, true, false, false] rfl rfl (by kernel_rfl) (by decide) (fun K hK => ?_)
        refine value_ (w1 := ?_) (v := ?_) (by rfl) rfl ?_ ?_
        rotate_left 2
        · go_simp
          constructor
          · rfl
          · rfl
        refine hK.out _ _ (below_alloc hHeld _) (fun hHeld => ?_)
        clear hK K
        refine norm_ (a' := ?_) ?_ ?_
        rotate_left
        · show Act.put _ (some 3) _ = _
          simp only [Act.put, List.setIfInBounds_toArray, List.set_cons_zero, List.set_cons_succ, i64_w, i32_w]
          rfl
        have h9 := hfin (w5.heap.size, g) _ ⟨Lib.hid (blk_new w5 _), Lib.hid (Nat.le_trans HBd.out.size hb.size), Lib.hid hHeld⟩
        refine norm_ ?_ h9
        show _ = putAll _ _
        simp only [putAll, Act.put, List.setIfInBounds_toArray, List.set_cons_zero, List.set_cons_succ]
      · refine value_ (w1 := ?_) (v := ?_) (by rfl) rfl ?_ ?_
        rotate_left 2
        · go_simp
          constructor
          · rfl
          · rfl
        refine hK.out _ _ (below_alloc hHeld _) (fun hHeld => ?_)
        clear hK K
        refine norm_ (a' := ?_) ?_ ?_
        rotate_left
        · show Act.put _ (some 3) _ = _
          simp only [Act.put, List.setIfInBounds_toArray, List.set_cons_zero, List.set_cons_succ, i64_w, i32_w]
          rfl
        refine one_ (i := 3) (N := some 9) #[true, true, true, true, false, false, false, true, false, false] rfl rfl (by kernel_rfl) (by decide) (fun K hK => ?_)
        refine value_ (w1 := _) (v := .tuple #[.agg #[.nilFunc, .nilFunc], .bool false]) (by rfl) rfl (Mlt.lookup_ev rfl (by rfl) (by rfl) (Mlt.lookup_no (k := kd) true Try.underlying70 Try.underlying3 (HZV.out _) (blk_below hm (below_alloc (Below.refl _ _) _)) HNO.out)) ?_
        refine hK.out _ _ hHeld (fun hHeld => ?_)
        clear hK K
        refine norm_ (a' := ?_) ?_ ?_
        rotate_left
        · show Act.put _ (some 9) _ = _
          simp only [Act.put, List.setIfInBounds_toArray, List.set_cons_zero, List.set_cons_succ, i64_w, i32_w]
          rfl
        refine pure_ (i := 4) (N := some 5) (v := ?_) (a' := ?_) #[true, true, true, true, true, false, false, true, false, false] rfl rfl (by kernel_rfl) (fun _ _ _ h => h) (Or.inl ⟨by rfl, ?_⟩) ?_ ?_
        rotate_left
        · intro w'
          go_simp
          with_reducible rfl
        rotate_left
        · simp only [Act.put, List.setIfInBounds_toArray, List.set_cons_zero, List.set_cons_succ, i64_w, i32_w]
          rfl
        refine pure_ (i := 5) (N := some 10) (v := ?_) (a' := ?_) #[true, true, true, true, true, true, false, true, false, false] rfl rfl (by kernel_rfl) (fun _ _ _ h => h) (Or.inl ⟨by rfl, ?_⟩) ?_ ?_
        rotate_left
        · intro w'
          go_simp
          with_reducible rfl
        rotate_left
        · simp only [Act.put, List.setIfInBounds_toArray, List.set_cons_zero, List.set_cons_succ, i64_w, i32_w]
          rfl
        refine pure_ (i := 6) (N := some 11) (v := ?_) (a' := ?_) #[true, true, true, true, true, true, true, true, false, false] rfl rfl (by kernel_rfl) (fun _ _ _ h => h) (Or.inl ⟨by rfl, ?_⟩) ?_ ?_
        rotate_left
        · intro w'
          go_simp
          with_reducible rfl
        rotate_left
        · simp only [Act.put, List.setIfInBounds_toArray, List.set_cons_zero, List.set_cons_succ, i64_w, i32_w]
          rfl
        have h9 := hfin (w5.heap.size, g) _ ⟨Lib.hid (blk_new w5 _), Lib.hid (Nat.le_trans HBd.out.size hb.size), Lib.hid hHeld⟩
        refine norm_ ?_ h9
        show _ = putAll _ _
        simp only [putAll, Act.put, List.setIfInBounds_toArray, List.set_cons_zero, List.set_cons_succ]
    · refine value_ (w1 := ?_) (v := ?_) (by rfl) rfl ?_ ?_
      rotate_left 2
      · go_simp
        constructor
        · rfl
        · rfl
      refine hK.out _ _ (below_alloc HBd.out _) (fun hHeld => ?_)
      clear hK K
      refine norm_ (a' := ?_) ?_ ?_
      rotate_left
      · show Act.put _ (some 3) _ = _
        simp only [Act.put, List.setIfInBounds_toArray, List.set_cons_zero, List.set_cons_succ, i64_w, i32_w]
        rfl
      refine one_ (i := 0) (N := some 6) #[true, true, true, false, false, false, false, true, false, false] rfl rfl (by kernel_rfl) (by decide) (fun K hK => ?_)
      refine goes_ Try.func34 (by kernel_rfl) rfl #[] (by rfl) rfl rfl (by (try simp only [List.map_toArray, List.map_cons, List.map_nil]); first | done | rfl | (go_simp; done) | (go_simp; rfl)) ?_
      refine (kinds_calls _).mono ?_
      rintro e w5 ⟨g, rfl, hg, hm, hb⟩
      refine ⟨_, rfl, ?_⟩
      refine hK.out _ _ (below_then (below_alloc HBd.out _) (below_alloc HBd.out _).size hb) (fun hHeld => ?_)
      clear hK K
      refine norm_ (a' := ?_) ?_ ?_
      rotate_left
      · show Act.put _ (some 6) _ = _
        simp only [Act.put, List.setIfInBounds_toArray, List.set_cons_zero, List.set_cons_succ, i64_w, i32_w]
        rfl
      refine one_ (i := 3) (N := some 9) #[true, true, true, true, false, false, false, true, false, false] rfl rfl (by kernel_rfl) (by decide) (fun K hK => ?_)
      refine value_ (w1 := _) (v := .tuple #[.agg #[.nilFunc, .nilFunc], .bool false]) (by rfl) rfl (Mlt.lookup_ev rfl (by rfl) (by rfl) (Mlt.lookup_no (k := kd) true Try.underlying70 Try.underlying3 (HZV.out _) hm HNO.out)) ?_
      refine hK.out _ _ hHeld (fun hHeld => ?_)
      clear hK K
      refine norm_ (a' := ?_) ?_ ?_
      rotate_left
      · show Act.put _ (some 9) _ = _
        simp only [Act.put, List.setIfInBounds_toArray, List.set_cons_zero, List.set_cons_succ, i64_w, i32_w]
        rfl
      refine pure_ (i := 4) (N := some 5) (v := ?_) (a' := ?_) #[true, true, true, true, true, false, false, true, false, false] rfl rfl (by kernel_rfl) (fun _ _ _ h => h) (Or.inl ⟨by rfl, ?_⟩) ?_ ?_
      rotate_left
      · intro w'
        go_simp
        with_reducible rfl
      rotate_left
      · simp only [Act.put, List.setIfInBounds_toArray, List.set_cons_zero, List.set_cons_succ, i64_w, i32_w]
        rfl
      refine pure_ (i := 5) (N := some 10) (v := ?_) (a' := ?_) #[true, true, true, true, true, true, false, true, false, false] rfl rfl (by kernel_rfl) (fun _ _ _ h => h) (Or.inl ⟨by rfl, ?_⟩) ?_ ?_
      rotate_left
      · intro w'
        go_simp
        with_reducible rfl
      rotate_left
      · simp only [Act.put, List.setIfInBounds_toArray, List.set_cons_zero, List.set_cons_succ, i64_w, i32_w]
        rfl
      refine pure_ (i := 6) (N := some 11) (v := ?_) (a' := ?_) #[true, true, true, true, true, true, true, true, false, false] rfl rfl (by kernel_rfl) (fun _ _ _ h => h) (Or.inl ⟨by rfl, ?_⟩) ?_ ?_
      rotate_left
      · intro w'
        go_simp
        with_reducible rfl
      rotate_left
      · simp only [Act.put, List.setIfInBounds_toArray, List.set_cons_zero, List.set_cons_succ, i64_w, i32_w]
        rfl
      have h9 := hfin (wd.heap.size, g) _ ⟨Lib.hid (blk_below (blk_new wd _) hb), Lib.hid HBd.out.size, Lib.hid hHeld⟩
      refine norm_ ?_ h9
      show _ = putAll _ _
      simp only [putAll, Act.put, List.setIfInBounds_toArray, List.set_cons_zero, List.set_cons_succ]
  case rest =>
    obtain ⟨R, rfl, rfl, hz, hrg, hb⟩ := hcut
    have HB2 := Lib.hid (below_then HB0.out HB0.out.size hb)
    have HA2 := Lib.hid (blk_below HA.out hb)
    have HZ2 := Lib.hid hz
    clear hz hrg hb y0
    have r0 := blk_cell HZ2.out 0
    have y0 := blk_cell HA2.out 0
    have y1 := blk_cell HA2.out 1
    have y2 := blk_cell HA2.out 2
    have y3 := blk_cell HA2.out 3
    have y4 := blk_cell HA2.out 4
    have y5 := blk_cell HA2.out 5
    have y6 := blk_cell HA2.out 6
    have y7 := blk_cell HA2.out 7
    have y8 := blk_cell HA2.out 8
    by_cases h1 : kd = 1
    · have q1 : (kd == 1) = true := by rw [h1]; rfl
      have q2 : decide (kd = 1) = true := decide_eq_true h1
      have HQ2 : Hid (q = osdB o) := Lib.hid (by rw [HQ.out, q2, Bool.true_and])
      have T := Lib.hid (fun W => osd_calls o W)
      rw [← HQ2.out] at T
      clear h1
      go_wp2_with fail
      refine (T.out _).mono ?_
      rintro e w3 ⟨rfl, hb⟩
      have HB3 := Lib.hid (below_then HB2.out HB2.out.size hb)
      clear hb T r0 y0 y1 y2 y3 y4 y5 y6 y7 y8
      cases q
      · go_wp2_with fail
        go_ret
        exact ⟨rfl, HB3.out⟩
      · go_wp2_with fail
        go_ret
        exact ⟨rfl, HB3.out⟩
    · have q1 : (kd == 1) = false := by simpa using h1
      have q2 : decide (kd = 1) = false := decide_eq_false h1
      have HQ2 : Hid (q = false) := Lib.hid (by rw [HQ.out, q2, Bool.false_and])
      obtain rfl := HQ2.out
      clear h1
      go_wp2_with fail
      go_ret
      exact ⟨rfl, HB2.out⟩
end Go.Proofs.Ytfikaekocgofoaa.AtX
/- What a change does. -/
set_option linter.unusedSimpArgs false
namespace Go.Proofs.Ytfikaekocgofoaa.AtD
open Go Go.RowKit Go.Proofs.YtfikaekocgofoaaW.PrintWords Go.Proofs.YtfikaekocgofoaaW.PrintLast Go.Proofs.YtfikaekocgofoaaW.PrintMore Mem PAll KW AtA AtB Dsc MayP ApP Fnd PlF Roo Awk McW ApY ApZ ApW AtK AtV AtX
open CrP hiding Od
theorem mayC_up (o : Od) : mayC 2 o = (onlyB o ⟨0, false, false, 0, o.f4, o.f5, 0, 0⟩ && (decide (1 ≤ min o.f4 o.f5) && decide (max o.f4 o.f5 ≤ 2147483647))) := by
  show (eqO o ⟨o.f0, false, false, 0, o.f4, o.f5, 0, 0⟩ && (winB o.f0 999 && (McW.within1 o.f4 2147483647 && McW.within1 o.f5 2147483647))) = ((eqO o ⟨o.f0, false, false, 0, o.f4, o.f5, 0, 0⟩ && winB o.f0 999) && _)
  rw [Bool.and_assoc]
  congr 2
  unfold McW.within1
  rw [Bool.eq_iff_iff]
  simp only [Bool.and_eq_true, decide_eq_true_eq]
  omega
theorem mayC_weigh (o : Od) : mayC 6 o = (onlyB o ⟨0, false, false, o.f3, 0, 0, 0, 0⟩ && winB o.f3 16777216) := by
  show (eqO o ⟨o.f0, false, false, o.f3, 0, 0, 0, 0⟩ && (winB o.f0 999 && winB o.f3 16777216)) = ((eqO o ⟨o.f0, false, false, o.f3, 0, 0, 0, 0⟩ && winB o.f0 999) && _)
  rw [Bool.and_assoc]
theorem mayC_no {kd : Int} (o : Od) (h : knownB kd = false) : mayC kd o = (decide (kd = 1) && osdB o) := by
  unfold knownB at h
  simp only [Bool.and_eq_false_iff, decide_eq_false_iff_not] at h
  unfold mayC
  by_cases h1 : kd = 1
  · rw [if_pos h1, decide_eq_true h1, Bool.true_and]
  · rw [if_neg h1, if_neg (by omega), if_neg (by omega), if_neg (by omega), decide_eq_false h1, Bool.false_and]
/-- CheckChange: just what the document says. -/
theorem checkc_calls (kd : Int) (o : Od) (w : World) : Calls Try.prog 30 #[.agg (chA kd o)] w fun e w' => e = .returned (.int .i64 (if mayC kd o = true then 0 else 1)) ∧ Below w.heap.size w w' := by
  cases hk : knownB kd with
  | false => rw [mayC_no o hk]; exact chk_no kd o w hk
  | true =>
    unfold knownB at hk
    simp only [Bool.and_eq_true, decide_eq_true_eq] at hk
    have : kd = 2 ∨ kd = 3 ∨ kd = 4 ∨ kd = 5 ∨ kd = 6 := by omega
    rcases this with rfl | rfl | rfl | rfl | rfl
    · rw [mayC_up]; exact chk_2 o w
    · exact chk_3 o w
    · exact chk_4 o w
    · exact chk_5 o w
    · rw [mayC_weigh]; exact chk_6 o w
theorem turned_up (o c : Od) : (!(eqO (chg 2 o c) o)) = ((o.f1 != true) || ((o.f4 != c.f4) || (o.f5 != c.f5))) := by
  show (!(o.f0 == o.f0 && (true == o.f1 && (o.f2 == o.f2 && (o.f3 == o.f3 && (c.f4 == o.f4 && (c.f5 == o.f5 && (o.f6 == o.f6 && o.f7 == o.f7)))))))) = _
  rw [BEq.comm (a := true), BEq.comm (a := c.f4), BEq.comm (a := c.f5)]
  simp only [beq_self_eq_true, Bool.true_and, Bool.and_true, Bool.not_and]
  rfl
theorem turned_weigh (o c : Od) : (!(eqO (chg 6 o c) o)) = (o.f3 != c.f3) := by
  show (!(o.f0 == o.f0 && (o.f1 == o.f1 && (o.f2 == o.f2 && (c.f3 == o.f3 && (o.f4 == o.f4 && (o.f5 == o.f5 && (o.f6 == o.f6 && o.f7 == o.f7)))))))) = _
  rw [BEq.comm (a := c.f3)]
  simp only [beq_self_eq_true, Bool.true_and, Bool.and_true]
  rfl
/-- A row of OSDs of one's own, at element i. -/
theorem below_any (B : Nat) (w : World) : Below B w w := Below.refl _ _
structure Row (w : World) (base : Nat) (ok : Nat → Prop) (g cap : Nat) (l : List Od) (i : Nat) (o : Od) : Prop where
  own : kO.R 37 w base ok (.slice (some ⟨g, 0, none⟩) l.length cap) l
  at_ : l[i]? = some o
theorem Row.lt {w : World} {base : Nat} {ok : Nat → Prop} {g cap : Nat} {l : List Od} {i : Nat} {o : Od} (h : Row w base ok g cap l i o) : i < l.length := (List.getElem?_eq_some_iff.1 h.at_).1
theorem Row.cells {w : World} {base : Nat} {ok : Nat → Prop} {g cap : Nat} {l : List Od} {i : Nat} {o : Od} (h : Row w base ok g cap l i o) : ∀ j u, (aggO o).toList[j]? = some u → w.cell? ⟨g, i * 8 + j, none⟩ = some u := by
  have hl := h.lt
  obtain ⟨c, hcl, hM, hcc, _⟩ := Kd.R_elem h.own z37 (i : Int) (by omega) (by omega)
  have hg : l.getD (i : Int).toNat z37 = o := by rw [Int.toNat_natCast, List.getD_eq_getElem?_getD, h.at_]; rfl
  rw [hg] at hM
  obtain rfl := k37_openM hM
  intro j u hu
  have := hcc j u hu
  rwa [Int.toNat_natCast] at this
theorem Row.next {w : World} {base : Nat} {ok : Nat → Prop} {g cap : Nat} {l : List Od} {i : Nat} {o' : Od} (h : i < l.length) (hr : kO.R 37 w base ok (.slice (some ⟨g, 0, none⟩) l.length cap) (l.set i o')) : Row w base ok g cap (l.set i o') i o' :=
  ⟨by rw [List.length_set]; exact hr, by rw [List.getElem?_set]; simp [h]⟩
set_option maxHeartbeats 4000000 in
theorem set1_calls {base : Nat} {ok : Nat → Prop} {g cap : Nat} {l : List Od} {i : Nat} {o : Od} (v : Bool) (w : World) (h : Row w base ok g cap l i o) (hb : base ≤ w.heap.size) :
    Calls Try.prog 62 #[.pointer (some ⟨g, i * 8 + 1, none⟩), .bool v] w fun e w' => e = .returned (.bool (o.f1 != v)) ∧ Row w' base ok g cap (l.set i { o with f1 := v }) i { o with f1 := v } ∧ w.grownBy w' (some g) := by
  have c0 := h.cells 1 _ rfl
  have HR := Lib.hid h
  have HBb := Lib.hid hb
  have hl := h.lt
  have hlI : (i : Int) < l.length := by omega
  have HL := Lib.hid hl
  have HCC := Lib.hid h.cells
  have HGB : Hid (base ≤ g) := Lib.hid (Kd.R_base h.own g (by simp [Value.ownBlock]))
  clear h hb hl
  go_enter Try.func62, Try.ntmps62
  go_wp2_with (first | (refine gate_ (.store 4 (.tmp 11) (.tmp 10)) rfl ?_; go_must (refine Kd.R_store kO (w0 := w) base rfl rfl 4 (.tmp 11) (.tmp 10) rfl 37 (i : Int) 1 l ({ o with f1 := v } : Od) (.bool v) [.bool v] (aggO o).toList ok (fun _ => False) (g := g) (n := l.length) (cap := cap) (o' := i * 8 + 1) (by rfl) (by rfl) (by rfl) (by rfl) (by kernel_rfl) (fun q hq => by simp only [List.mem_singleton] at hq; subst hq; rfl) (by exact HR.out.own) (by exact Int.natCast_nonneg i) (by exact hlI) rfl (by exact HCC.out) (Nat.le_of_ble_eq_true rfl) (by exact k37_mkM _ _ _ ({ o with f1 := v } : Od)) (fun _ hk => hk.elim) (by exact below_any _ _) ?_; intro w3 ho hb3 hg3; have HO3 := Lib.hid ho; have HG3 := Lib.hid hg3; clear ho hb3 hg3)))
  all_goals (go_ret; (first | exact ⟨rfl, Row.next HL.out (by have h5 := HO3.out; rwa [Int.toNat_natCast] at h5), HG3.out⟩ | (refine ⟨?_, Row.next HL.out (by have h5 := HO3.out; rwa [Int.toNat_natCast] at h5), HG3.out⟩; simp_all)))
set_option maxHeartbeats 4000000 in
theorem set2_calls {base : Nat} {ok : Nat → Prop} {g cap : Nat} {l : List Od} {i : Nat} {o : Od} (v : Bool) (w : World) (h : Row w base ok g cap l i o) (hb : base ≤ w.heap.size) :
    Calls Try.prog 62 #[.pointer (some ⟨g, i * 8 + 2, none⟩), .bool v] w fun e w' => e = .returned (.bool (o.f2 != v)) ∧ Row w' base ok g cap (l.set i { o with f2 := v }) i { o with f2 := v } ∧ w.grownBy w' (some g) := by
  have c0 := h.cells 2 _ rfl
  have HR := Lib.hid h
  have HBb := Lib.hid hb
  have hl := h.lt
  have hlI : (i : Int) < l.length := by omega
  have HL := Lib.hid hl
  have HCC := Lib.hid h.cells
  have HGB : Hid (base ≤ g) := Lib.hid (Kd.R_base h.own g (by simp [Value.ownBlock]))
  clear h hb hl
  go_enter Try.func62, Try.ntmps62
  go_wp2_with (first | (refine gate_ (.store 4 (.tmp 11) (.tmp 10)) rfl ?_; go_must (refine Kd.R_store kO (w0 := w) base rfl rfl 4 (.tmp 11) (.tmp 10) rfl 37 (i : Int) 2 l ({ o with f2 := v } : Od) (.bool v) [.bool v] (aggO o).toList ok (fun _ => False) (g := g) (n := l.length) (cap := cap) (o' := i * 8 + 2) (by rfl) (by rfl) (by rfl) (by rfl) (by kernel_rfl) (fun q hq => by simp only [List.mem_singleton] at hq; subst hq; rfl) (by exact HR.out.own) (by exact Int.natCast_nonneg i) (by exact hlI) rfl (by exact HCC.out) (Nat.le_of_ble_eq_true rfl) (by exact k37_mkM _ _ _ ({ o with f2 := v } : Od)) (fun _ hk => hk.elim) (by exact below_any _ _) ?_; intro w3 ho hb3 hg3; have HO3 := Lib.hid ho; have HG3 := Lib.hid hg3; clear ho hb3 hg3)))
  all_goals (go_ret; (first | exact ⟨rfl, Row.next HL.out (by have h5 := HO3.out; rwa [Int.toNat_natCast] at h5), HG3.out⟩ | (refine ⟨?_, Row.next HL.out (by have h5 := HO3.out; rwa [Int.toNat_natCast] at h5), HG3.out⟩; simp_all)))
set_option maxHeartbeats 4000000 in
theorem set3_calls {base : Nat} {ok : Nat → Prop} {g cap : Nat} {l : List Od} {i : Nat} {o : Od} (v : Int) (w : World) (h : Row w base ok g cap l i o) (hb : base ≤ w.heap.size) :
    Calls Try.prog 63 #[.pointer (some ⟨g, i * 8 + 3, none⟩), .int .i64 v] w fun e w' => e = .returned (.bool (o.f3 != v)) ∧ Row w' base ok g cap (l.set i { o with f3 := v }) i { o with f3 := v } ∧ w.grownBy w' (some g) := by
  have c0 := h.cells 3 _ rfl
  have HR := Lib.hid h
  have HBb := Lib.hid hb
  have hl := h.lt
  have hlI : (i : Int) < l.length := by omega
  have HL := Lib.hid hl
  have HCC := Lib.hid h.cells
  have HGB : Hid (base ≤ g) := Lib.hid (Kd.R_base h.own g (by simp [Value.ownBlock]))
  clear h hb hl
  go_enter Try.func63, Try.ntmps63
  go_wp2_with (first | (refine gate_ (.store 3 (.tmp 11) (.tmp 10)) rfl ?_; go_must (refine Kd.R_store kO (w0 := w) base rfl rfl 3 (.tmp 11) (.tmp 10) rfl 37 (i : Int) 3 l ({ o with f3 := v } : Od) (.int .i64 v) [.int .i64 v] (aggO o).toList ok (fun _ => False) (g := g) (n := l.length) (cap := cap) (o' := i * 8 + 3) (by rfl) (by rfl) (by rfl) (by rfl) (by kernel_rfl) (fun q hq => by simp only [List.mem_singleton] at hq; subst hq; rfl) (by exact HR.out.own) (by exact Int.natCast_nonneg i) (by exact hlI) rfl (by exact HCC.out) (Nat.le_of_ble_eq_true rfl) (by exact k37_mkM _ _ _ ({ o with f3 := v } : Od)) (fun _ hk => hk.elim) (by exact below_any _ _) ?_; intro w3 ho hb3 hg3; have HO3 := Lib.hid ho; have HG3 := Lib.hid hg3; clear ho hb3 hg3)))
  all_goals (go_ret; (first | exact ⟨rfl, Row.next HL.out (by have h5 := HO3.out; rwa [Int.toNat_natCast] at h5), HG3.out⟩ | (refine ⟨?_, Row.next HL.out (by have h5 := HO3.out; rwa [Int.toNat_natCast] at h5), HG3.out⟩; simp_all)))
set_option maxHeartbeats 4000000 in
theorem set4_calls {base : Nat} {ok : Nat → Prop} {g cap : Nat} {l : List Od} {i : Nat} {o : Od} (v : Int) (w : World) (h : Row w base ok g cap l i o) (hb : base ≤ w.heap.size) :
    Calls Try.prog 63 #[.pointer (some ⟨g, i * 8 + 4, none⟩), .int .i64 v] w fun e w' => e = .returned (.bool (o.f4 != v)) ∧ Row w' base ok g cap (l.set i { o with f4 := v }) i { o with f4 := v } ∧ w.grownBy w' (some g) := by
  have c0 := h.cells 4 _ rfl
  have HR := Lib.hid h
  have HBb := Lib.hid hb
  have hl := h.lt
  have hlI : (i : Int) < l.length := by omega
  have HL := Lib.hid hl
  have HCC := Lib.hid h.cells
  have HGB : Hid (base ≤ g) := Lib.hid (Kd.R_base h.own g (by simp [Value.ownBlock]))
  clear h hb hl
  go_enter Try.func63, Try.ntmps63
  go_wp2_with (first | (refine gate_ (.store 3 (.tmp 11) (.tmp 10)) rfl ?_; go_must (refine Kd.R_store kO (w0 := w) base rfl rfl 3 (.tmp 11) (.tmp 10) rfl 37 (i : Int) 4 l ({ o with f4 := v } : Od) (.int .i64 v) [.int .i64 v] (aggO o).toList ok (fun _ => False) (g := g) (n := l.length) (cap := cap) (o' := i * 8 + 4) (by rfl) (by rfl) (by rfl) (by rfl) (by kernel_rfl) (fun q hq => by simp only [List.mem_singleton] at hq; subst hq; rfl) (by exact HR.out.own) (by exact Int.natCast_nonneg i) (by exact hlI) rfl (by exact HCC.out) (Nat.le_of_ble_eq_true rfl) (by exact k37_mkM _ _ _ ({ o with f4 := v } : Od)) (fun _ hk => hk.elim) (by exact below_any _ _) ?_; intro w3 ho hb3 hg3; have HO3 := Lib.hid ho; have HG3 := Lib.hid hg3; clear ho hb3 hg3)))
  all_goals (go_ret; (first | exact ⟨rfl, Row.next HL.out (by have h5 := HO3.out; rwa [Int.toNat_natCast] at h5), HG3.out⟩ | (refine ⟨?_, Row.next HL.out (by have h5 := HO3.out; rwa [Int.toNat_natCast] at h5), HG3.out⟩; simp_all)))
set_option maxHeartbeats 4000000 in
theorem set5_calls {base : Nat} {ok : Nat → Prop} {g cap : Nat} {l : List Od} {i : Nat} {o : Od} (v : Int) (w : World) (h : Row w base ok g cap l i o) (hb : base ≤ w.heap.size) :
    Calls Try.prog 63 #[.pointer (some ⟨g, i * 8 + 5, none⟩), .int .i64 v] w fun e w' => e = .returned (.bool (o.f5 != v)) ∧ Row w' base ok g cap (l.set i { o with f5 := v }) i { o with f5 := v } ∧ w.grownBy w' (some g) := by
  have c0 := h.cells 5 _ rfl
  have HR := Lib.hid h
  have HBb := Lib.hid hb
  have hl := h.lt
  have hlI : (i : Int) < l.length := by omega
  have HL := Lib.hid hl
  have HCC := Lib.hid h.cells
  have HGB : Hid (base ≤ g) := Lib.hid (Kd.R_base h.own g (by simp [Value.ownBlock]))
  clear h hb hl
  go_enter Try.func63, Try.ntmps63
  go_wp2_with (first | (refine gate_ (.store 3 (.tmp 11) (.tmp 10)) rfl ?_; go_must (refine Kd.R_store kO (w0 := w) base rfl rfl 3 (.tmp 11) (.tmp 10) rfl 37 (i : Int) 5 l ({ o with f5 := v } : Od) (.int .i64 v) [.int .i64 v] (aggO o).toList ok (fun _ => False) (g := g) (n := l.length) (cap := cap) (o' := i * 8 + 5) (by rfl) (by rfl) (by rfl) (by rfl) (by kernel_rfl) (fun q hq => by simp only [List.mem_singleton] at hq; subst hq; rfl) (by exact HR.out.own) (by exact Int.natCast_nonneg i) (by exact hlI) rfl (by exact HCC.out) (Nat.le_of_ble_eq_true rfl) (by exact k37_mkM _ _ _ ({ o with f5 := v } : Od)) (fun _ hk => hk.elim) (by exact below_any _ _) ?_; intro w3 ho hb3 hg3; have HO3 := Lib.hid ho; have HG3 := Lib.hid hg3; clear ho hb3 hg3)))
  all_goals (go_ret; (first | exact ⟨rfl, Row.next HL.out (by have h5 := HO3.out; rwa [Int.toNat_natCast] at h5), HG3.out⟩ | (refine ⟨?_, Row.next HL.out (by have h5 := HO3.out; rwa [Int.toNat_natCast] at h5), HG3.out⟩; simp_all)))
set_option maxHeartbeats 8000000 in
set_option maxRecDepth 100000 in
theorem do4_calls {base : Nat} {ok : Nat → Prop} {g cap : Nat} {l : List Od} {i : Nat} {o : Od} (c : Od) (w : World) (h : Row w base ok g cap l i o) (hb : base ≤ w.heap.size) :
    Calls Try.prog 64 #[.pointer (some ⟨g, i * 8, none⟩), .agg (aggO c)] w fun e w' => e = .returned (.bool (!(eqO (chg 3 o c) o))) ∧ Row w' base ok g cap (l.set i (chg 3 o c)) i (chg 3 o c) ∧ w.grownBy w' (some g) := by
  have HC : Hid ((w.alloc (.cells (aggO c) 37)).heap[w.heap.size]? = some (.cells (aggO c) 37 (0, 0))) := Lib.hid (blk_new _ _)
  have HR : Hid (Row (w.alloc (.cells (aggO c) 37)) base ok g cap l i o) := Lib.hid ⟨Kd.R_alloc h.own _, h.at_⟩
  have HGL : Hid (g < w.heap.size) := Lib.hid (by obtain ⟨g', _, e, _, h2, _⟩ := Kd.R_form h.own (Nat.lt_of_le_of_lt (Nat.zero_le _) h.lt); injection e with e; injection e with e; injection e with e; subst e; exact h2)
  have HG0 : Hid (w.grownBy (w.alloc (.cells (aggO c) 37)) (some g)) := Lib.hid (World.grownBy_alloc w _ _)
  have HBb : Hid (base ≤ (w.alloc (.cells (aggO c) 37)).heap.size) := Lib.hid (Nat.le_trans hb (by simp only [World.alloc, Array.size_push]; omega))
  clear h hb
  have T := Lib.hid (set1_calls false _ HR.out HBb.out)
  go_enter Try.func64, Try.ntmps64
  go_wp2_with fail
  refine T.out.mono ?_
  rintro e w2 ⟨rfl, hr, hg⟩
  have HR2 := Lib.hid hr
  have HG2 := Lib.hid (HG0.out.trans hg)
  clear hr hg T
  go_wp2_with fail
  go_ret
  refine ⟨?_, HR2.out, HG2.out⟩
  cases o
  simp [chg, eqO]
set_option maxHeartbeats 8000000 in
set_option maxRecDepth 100000 in
theorem do5_calls {base : Nat} {ok : Nat → Prop} {g cap : Nat} {l : List Od} {i : Nat} {o : Od} (c : Od) (w : World) (h : Row w base ok g cap l i o) (hb : base ≤ w.heap.size) :
    Calls Try.prog 65 #[.pointer (some ⟨g, i * 8, none⟩), .agg (aggO c)] w fun e w' => e = .returned (.bool (!(eqO (chg 4 o c) o))) ∧ Row w' base ok g cap (l.set i (chg 4 o c)) i (chg 4 o c) ∧ w.grownBy w' (some g) := by
  have HC : Hid ((w.alloc (.cells (aggO c) 37)).heap[w.heap.size]? = some (.cells (aggO c) 37 (0, 0))) := Lib.hid (blk_new _ _)
  have HR : Hid (Row (w.alloc (.cells (aggO c) 37)) base ok g cap l i o) := Lib.hid ⟨Kd.R_alloc h.own _, h.at_⟩
  have HGL : Hid (g < w.heap.size) := Lib.hid (by obtain ⟨g', _, e, _, h2, _⟩ := Kd.R_form h.own (Nat.lt_of_le_of_lt (Nat.zero_le _) h.lt); injection e with e; injection e with e; injection e with e; subst e; exact h2)
  have HG0 : Hid (w.grownBy (w.alloc (.cells (aggO c) 37)) (some g)) := Lib.hid (World.grownBy_alloc w _ _)
  have HBb : Hid (base ≤ (w.alloc (.cells (aggO c) 37)).heap.size) := Lib.hid (Nat.le_trans hb (by simp only [World.alloc, Array.size_push]; omega))
  clear h hb
  have T := Lib.hid (set2_calls true _ HR.out HBb.out)
  go_enter Try.func65, Try.ntmps65
  go_wp2_with fail
  refine T.out.mono ?_
  rintro e w2 ⟨rfl, hr, hg⟩
  have HR2 := Lib.hid hr
  have HG2 := Lib.hid (HG0.out.trans hg)
  clear hr hg T
  go_wp2_with fail
  go_ret
  refine ⟨?_, HR2.out, HG2.out⟩
  cases o
  simp [chg, eqO]
set_option maxHeartbeats 8000000 in
set_option maxRecDepth 100000 in
theorem do6_calls {base : Nat} {ok : Nat → Prop} {g cap : Nat} {l : List Od} {i : Nat} {o : Od} (c : Od) (w : World) (h : Row w base ok g cap l i o) (hb : base ≤ w.heap.size) :
    Calls Try.prog 66 #[.pointer (some ⟨g, i * 8, none⟩), .agg (aggO c)] w fun e w' => e = .returned (.bool (!(eqO (chg 5 o c) o))) ∧ Row w' base ok g cap (l.set i (chg 5 o c)) i (chg 5 o c) ∧ w.grownBy w' (some g) := by
  have HC : Hid ((w.alloc (.cells (aggO c) 37)).heap[w.heap.size]? = some (.cells (aggO c) 37 (0, 0))) := Lib.hid (blk_new _ _)
  have HR : Hid (Row (w.alloc (.cells (aggO c) 37)) base ok g cap l i o) := Lib.hid ⟨Kd.R_alloc h.own _, h.at_⟩
  have HGL : Hid (g < w.heap.size) := Lib.hid (by obtain ⟨g', _, e, _, h2, _⟩ := Kd.R_form h.own (Nat.lt_of_le_of_lt (Nat.zero_le _) h.lt); injection e with e; injection e with e; injection e with e; subst e; exact h2)
  have HG0 : Hid (w.grownBy (w.alloc (.cells (aggO c) 37)) (some g)) := Lib.hid (World.grownBy_alloc w _ _)
  have HBb : Hid (base ≤ (w.alloc (.cells (aggO c) 37)).heap.size) := Lib.hid (Nat.le_trans hb (by simp only [World.alloc, Array.size_push]; omega))
  clear h hb
  have T := Lib.hid (set2_calls false _ HR.out HBb.out)
  go_enter Try.func66, Try.ntmps66
  go_wp2_with fail
  refine T.out.mono ?_
  rintro e w2 ⟨rfl, hr, hg⟩
  have HR2 := Lib.hid hr
  have HG2 := Lib.hid (HG0.out.trans hg)
  clear hr hg T
  go_wp2_with fail
  go_ret
  refine ⟨?_, HR2.out, HG2.out⟩
  cases o
  simp [chg, eqO]
set_option maxHeartbeats 8000000 in
set_option maxRecDepth 100000 in
theorem do8_calls {base : Nat} {ok : Nat → Prop} {g cap : Nat} {l : List Od} {i : Nat} {o : Od} (c : Od) (w : World) (h : Row w base ok g cap l i o) (hb : base ≤ w.heap.size) :
    Calls Try.prog 68 #[.pointer (some ⟨g, i * 8, none⟩), .agg (aggO c)] w fun e w' => e = .returned (.bool (!(eqO (chg 6 o c) o))) ∧ Row w' base ok g cap (l.set i (chg 6 o c)) i (chg 6 o c) ∧ w.grownBy w' (some g) := by
  have HC : Hid ((w.alloc (.cells (aggO c) 37)).heap[w.heap.size]? = some (.cells (aggO c) 37 (0, 0))) := Lib.hid (blk_new _ _)
  have HR : Hid (Row (w.alloc (.cells (aggO c) 37)) base ok g cap l i o) := Lib.hid ⟨Kd.R_alloc h.own _, h.at_⟩
  have HGL : Hid (g < w.heap.size) := Lib.hid (by obtain ⟨g', _, e, _, h2, _⟩ := Kd.R_form h.own (Nat.lt_of_le_of_lt (Nat.zero_le _) h.lt); injection e with e; injection e with e; injection e with e; subst e; exact h2)
  have HG0 : Hid (w.grownBy (w.alloc (.cells (aggO c) 37)) (some g)) := Lib.hid (World.grownBy_alloc w _ _)
  have HBb : Hid (base ≤ (w.alloc (.cells (aggO c) 37)).heap.size) := Lib.hid (Nat.le_trans hb (by simp only [World.alloc, Array.size_push]; omega))
  clear h hb
  go_enter Try.func68, Try.ntmps68
  go_upto_region 1 with fail
  obtain ⟨w1, hw1⟩ : ∃ w1, w1 = w.alloc (.cells (aggO c) 37) := ⟨_, rfl⟩
  obtain ⟨gb, hgb⟩ : ∃ gb, gb = w.heap.size := ⟨_, rfl⟩
  rw [← hw1] at HC HR HG0 HBb ⊢
  have HGN : Hid (some gb ≠ some g) := Lib.hid (fun e => by injection e with e; have := HGL.out; omega)
  rw [← hgb] at HC ⊢
  clear hw1 hgb
  have HQ0 := HC.out
  refine start_ (n := 7) (S := fun w' => w'.heap[gb]? = some (.cells (aggO c) 37 (0, 0))) (ds := []) #[false, false, false, false, false, false, false] (by kernel_rfl) rfl rfl (blk_drew HC.out) (fun hHeld => ?_)
  have HRd : Hid (Row w1.drew base ok g cap l i o) := Lib.hid ⟨Kd.R_drew HR.out.own, HR.out.at_⟩
  have HGd : Hid (w.grownBy w1.drew (some g)) := Lib.hid (HG0.out.trans (grown_of_below (below_drew (Below.refl _ _)) _))
  have HBd : Hid (base ≤ w1.drew.heap.size) := Lib.hid HBb.out
  generalize w1.drew = wd at HRd HGd HBd hHeld ⊢
  refine pure_ (i := 0) (N := some 5) (v := ?_) (a' := ?_) #[true, false, false, false, false, false, false] rfl rfl (by kernel_rfl) (fun _ _ _ h => h) (Or.inl ⟨by rfl, ?_⟩) ?_ ?_
  rotate_left
  · intro w'
    go_simp
    with_reducible rfl
  rotate_left
  · simp only [Act.put, List.setIfInBounds_toArray, List.set_cons_zero, List.set_cons_succ, i64_w, i32_w]
    rfl
  refine pure_ (i := 1) (N := some 6) (v := ?_) (a' := ?_) #[true, true, false, false, false, false, false] rfl rfl (by kernel_rfl) (fun _ _ _ h => h) (Or.inl ⟨by rfl, ?_⟩) ?_ ?_
  rotate_left
  · intro w'
    go_simp
    with_reducible rfl
  rotate_left
  · simp only [Act.put, List.setIfInBounds_toArray, List.set_cons_zero, List.set_cons_succ, i64_w, i32_w]
    rfl
  refine pure_ (i := 2) (N := some 7) (v := ?_) (a' := ?_) #[true, true, true, false, false, false, false] rfl rfl (by kernel_rfl) (fun _ _ _ h => h) (Or.inl ⟨by rfl, ?_⟩) ?_ ?_
  rotate_left
  · intro w'
    go_simp
    with_reducible rfl
  rotate_left
  · simp only [Act.put, List.setIfInBounds_toArray, List.set_cons_zero, List.set_cons_succ, i64_w, i32_w]
    rfl
  refine pure_ (i := 3) (N := some 8) (v := ?_) (a' := ?_) #[true, true, true, true, false, false, false] rfl rfl (by kernel_rfl) (fun _ _ _ h => h) (Or.inl ⟨by rfl, ?_⟩) ?_ ?_
  rotate_left
  · intro w'
    go_simp
    with_reducible rfl
  rotate_left
  · simp only [Act.put, List.setIfInBounds_toArray, List.set_cons_zero, List.set_cons_succ, i64_w, i32_w]
    rfl
  refine take_ (i := 4) (N := some 9) (v := ?_) (a' := ?_) #[true, true, true, true, true, false, false] rfl rfl (by kernel_rfl) (fun _ _ _ h => h) (Or.inl ⟨by rfl, ?_⟩) hHeld ?_ ?_
  rotate_left
  · rintro w' hS
    have x3 := blk_cell hS 3
    go_simp
    with_reducible rfl
  rotate_left
  · simp only [Act.put, List.setIfInBounds_toArray, List.set_cons_zero, List.set_cons_succ, i64_w, i32_w]
    rfl
  refine one_ (i := 5) (N := some 10) #[true, true, true, true, true, true, false] rfl rfl (by kernel_rfl) (by decide) (fun K hK => ?_)
  refine goes_ Try.func63 (by kernel_rfl) rfl #[.pointer (some ⟨g, i * 8 + 3, none⟩), .int .i64 c.f3] (by rfl) rfl rfl (by (try simp only [List.map_toArray, List.map_cons, List.map_nil]); first | done | rfl | (go_simp; done) | (go_simp; rfl)) ?_
  refine (set3_calls c.f3 _ HRd.out HBd.out).mono ?_
  rintro e w2 ⟨rfl, hrw2, hgw2⟩
  refine ⟨_, rfl, ?_⟩
  refine hK.out _ _ (blk_grown hHeld hgw2 HGN.out) (fun hHeld => ?_)
  clear hK K
  refine norm_ (a' := ?_) ?_ ?_
  rotate_left
  · show Act.put _ (some 10) _ = _
    simp only [Act.put, List.setIfInBounds_toArray, List.set_cons_zero, List.set_cons_succ, i64_w, i32_w]
    rfl
  refine pure_ (i := 6) (N := some 4) (v := ?_) (a' := ?_) #[true, true, true, true, true, true, true] rfl rfl (by kernel_rfl) (fun _ _ _ h => h) (Or.inl ⟨by rfl, ?_⟩) ?_ ?_
  rotate_left
  · intro w'
    go_simp
    with_reducible rfl
  rotate_left
  · simp only [Act.put, List.setIfInBounds_toArray, List.set_cons_zero, List.set_cons_succ, i64_w, i32_w]
    rfl
  refine done_ (by kernel_rfl) ?_
  go_wp2_with fail
  go_ret
  refine ⟨?_, hrw2, HGd.out.trans hgw2⟩
  rw [turned_weigh]
  rfl
set_option maxHeartbeats 8000000 in
set_option maxRecDepth 100000 in
theorem do3_calls {base : Nat} {ok : Nat → Prop} {g cap : Nat} {l : List Od} {i : Nat} {o : Od} (c : Od) (w : World) (h : Row w base ok g cap l i o) (hb : base ≤ w.heap.size) :
    Calls Try.prog 61 #[.pointer (some ⟨g, i * 8, none⟩), .agg (aggO c)] w fun e w' => e = .returned (.bool (!(eqO (chg 2 o c) o))) ∧ Row w' base ok g cap (l.set i (chg 2 o c)) i (chg 2 o c) ∧ w.grownBy w' (some g) := by
  have HC : Hid ((w.alloc (.cells (aggO c) 37)).heap[w.heap.size]? = some (.cells (aggO c) 37 (0, 0))) := Lib.hid (blk_new _ _)
  have HR : Hid (Row (w.alloc (.cells (aggO c) 37)) base ok g cap l i o) := Lib.hid ⟨Kd.R_alloc h.own _, h.at_⟩
  have HGL : Hid (g < w.heap.size) := Lib.hid (by obtain ⟨g', _, e, _, h2, _⟩ := Kd.R_form h.own (Nat.lt_of_le_of_lt (Nat.zero_le _) h.lt); injection e with e; injection e with e; injection e with e; subst e; exact h2)
  have HG0 : Hid (w.grownBy (w.alloc (.cells (aggO c) 37)) (some g)) := Lib.hid (World.grownBy_alloc w _ _)
  have HBb : Hid (base ≤ (w.alloc (.cells (aggO c) 37)).heap.size) := Lib.hid (Nat.le_trans hb (by simp only [World.alloc, Array.size_push]; omega))
  clear h hb
  go_enter Try.func61, Try.ntmps61
  go_upto_region 1 with fail
  obtain ⟨w1, hw1⟩ : ∃ w1, w1 = w.alloc (.cells (aggO c) 37) := ⟨_, rfl⟩
  obtain ⟨gb, hgb⟩ : ∃ gb, gb = w.heap.size := ⟨_, rfl⟩
  rw [← hw1] at HC HR HG0 HBb ⊢
  have HGN : Hid (some gb ≠ some g) := Lib.hid (fun e => by injection e with e; have := HGL.out; omega)
  rw [← hgb] at HC ⊢
  clear hw1 hgb
  have HQ0 := HC.out
  refine start_ (n := 19) (S := fun w' => w'.heap[gb]? = some (.cells (aggO c) 37 (0, 0))) (ds := []) #[false, false, false, false, false, false, false, false, false, false, false, false, false, false, false, false, false, false, false] (by kernel_rfl) rfl rfl (blk_drew HC.out) (fun hHeld => ?_)
  have HRd : Hid (Row w1.drew base ok g cap l i o) := Lib.hid ⟨Kd.R_drew HR.out.own, HR.out.at_⟩
  have HGd : Hid (w.grownBy w1.drew (some g)) := Lib.hid (HG0.out.trans (grown_of_below (below_drew (Below.refl _ _)) _))
  have HBd : Hid (base ≤ w1.drew.heap.size) := Lib.hid HBb.out
  generalize w1.drew = wd at HRd HGd HBd hHeld ⊢
  refine pure_ (i := 0) (N := some 8) (v := ?_) (a' := ?_) #[true, false, false, false, false, false, false, false, false, false, false, false, false, false, false, false, false, false, false] rfl rfl (by kernel_rfl) (fun _ _ _ h => h) (Or.inl ⟨by rfl, ?_⟩) ?_ ?_
  rotate_left
  · intro w'
    go_simp
    with_reducible rfl
  rotate_left
  · simp only [Act.put, List.setIfInBounds_toArray, List.set_cons_zero, List.set_cons_succ, i64_w, i32_w]
    rfl
  refine pure_ (i := 1) (N := some 9) (v := ?_) (a' := ?_) #[true, true, false, false, false, false, false, false, false, false, false, false, false, false, false, false, false, false, false] rfl rfl (by kernel_rfl) (fun _ _ _ h => h) (Or.inl ⟨by rfl, ?_⟩) ?_ ?_
  rotate_left
  · intro w'
    go_simp
    with_reducible rfl
  rotate_left
  · simp only [Act.put, List.setIfInBounds_toArray, List.set_cons_zero, List.set_cons_succ, i64_w, i32_w]
    rfl
  refine pure_ (i := 2) (N := some 10) (v := ?_) (a' := ?_) #[true, true, true, false, false, false, false, false, false, false, false, false, false, false, false, false, false, false, false] rfl rfl (by kernel_rfl) (fun _ _ _ h => h) (Or.inl ⟨by rfl, ?_⟩) ?_ ?_
  rotate_left
  · intro w'
    go_simp
    with_reducible rfl
  rotate_left
  · simp only [Act.put, List.setIfInBounds_toArray, List.set_cons_zero, List.set_cons_succ, i64_w, i32_w]
    rfl
  refine pure_ (i := 4) (N := some 12) (v := ?_) (a' := ?_) #[true, true, true, false, true, false, false, false, false, false, false, false, false, false, false, false, false, false, false] rfl rfl (by kernel_rfl) (fun _ _ _ h => h) (Or.inl ⟨by rfl, ?_⟩) ?_ ?_
  rotate_left
  · intro w'
    go_simp
    with_reducible rfl
  rotate_left
  · simp only [Act.put, List.setIfInBounds_toArray, List.set_cons_zero, List.set_cons_succ, i64_w, i32_w]
    rfl
  refine pure_ (i := 5) (N := some 13) (v := ?_) (a' := ?_) #[true, true, true, false, true, true, false, false, false, false, false, false, false, false, false, false, false, false, false] rfl rfl (by kernel_rfl) (fun _ _ _ h => h) (Or.inl ⟨by rfl, ?_⟩) ?_ ?_
  rotate_left
  · intro w'
    go_simp
    with_reducible rfl
  rotate_left
  · simp only [Act.put, List.setIfInBounds_toArray, List.set_cons_zero, List.set_cons_succ, i64_w, i32_w]
    rfl
  refine pure_ (i := 6) (N := some 14) (v := ?_) (a' := ?_) #[true, true, true, false, true, true, true, false, false, false, false, false, false, false, false, false, false, false, false] rfl rfl (by kernel_rfl) (fun _ _ _ h => h) (Or.inl ⟨by rfl, ?_⟩) ?_ ?_
  rotate_left
  · intro w'
    go_simp
    with_reducible rfl
  rotate_left
  · simp only [Act.put, List.setIfInBounds_toArray, List.set_cons_zero, List.set_cons_succ, i64_w, i32_w]
    rfl
  refine pure_ (i := 7) (N := some 15) (v := ?_) (a' := ?_) #[true, true, true, false, true, true, true, true, false, false, false, false, false, false, false, false, false, false, false] rfl rfl (by kernel_rfl) (fun _ _ _ h => h) (Or.inl ⟨by rfl, ?_⟩) ?_ ?_
  rotate_left
  · intro w'
    go_simp
    with_reducible rfl
  rotate_left
  · simp only [Act.put, List.setIfInBounds_toArray, List.set_cons_zero, List.set_cons_succ, i64_w, i32_w]
    rfl
  refine take_ (i := 8) (N := some 16) (v := ?_) (a' := ?_) #[true, true, true, false, true, true, true, true, true, false, false, false, false, false, false, false, false, false, false] rfl rfl (by kernel_rfl) (fun _ _ _ h => h) (Or.inl ⟨by rfl, ?_⟩) hHeld ?_ ?_
  rotate_left
  · rintro w' hS
    have x4 := blk_cell hS 4
    go_simp
    with_reducible rfl
  rotate_left
  · simp only [Act.put, List.setIfInBounds_toArray, List.set_cons_zero, List.set_cons_succ, i64_w, i32_w]
    rfl
  refine pure_ (i := 10) (N := some 18) (v := ?_) (a' := ?_) #[true, true, true, false, true, true, true, true, true, false, true, false, false, false, false, false, false, false, false] rfl rfl (by kernel_rfl) (fun _ _ _ h => h) (Or.inl ⟨by rfl, ?_⟩) ?_ ?_
  rotate_left
  · intro w'
    go_simp
    with_reducible rfl
  rotate_left
  · simp only [Act.put, List.setIfInBounds_toArray, List.set_cons_zero, List.set_cons_succ, i64_w, i32_w]
    rfl
  refine pure_ (i := 11) (N := some 19) (v := ?_) (a' := ?_) #[true, true, true, false, true, true, true, true, true, false, true, true, false, false, false, false, false, false, false] rfl rfl (by kernel_rfl) (fun _ _ _ h => h) (Or.inl ⟨by rfl, ?_⟩) ?_ ?_
  rotate_left
  · intro w'
    go_simp
    with_reducible rfl
  rotate_left
  · simp only [Act.put, List.setIfInBounds_toArray, List.set_cons_zero, List.set_cons_succ, i64_w, i32_w]
    rfl
  refine pure_ (i := 12) (N := some 20) (v := ?_) (a' := ?_) #[true, true, true, false, true, true, true, true, true, false, true, true, true, false, false, false, false, false, false] rfl rfl (by kernel_rfl) (fun _ _ _ h => h) (Or.inl ⟨by rfl, ?_⟩) ?_ ?_
  rotate_left
  · intro w'
    go_simp
    with_reducible rfl
  rotate_left
  · simp only [Act.put, List.setIfInBounds_toArray, List.set_cons_zero, List.set_cons_succ, i64_w, i32_w]
    rfl
  refine pure_ (i := 13) (N := some 21) (v := ?_) (a' := ?_) #[true, true, true, false, true, true, true, true, true, false, true, true, true, true, false, false, false, false, false] rfl rfl (by kernel_rfl) (fun _ _ _ h => h) (Or.inl ⟨by rfl, ?_⟩) ?_ ?_
  rotate_left
  · intro w'
    go_simp
    with_reducible rfl
  rotate_left
  · simp only [Act.put, List.setIfInBounds_toArray, List.set_cons_zero, List.set_cons_succ, i64_w, i32_w]
    rfl
  refine take_ (i := 14) (N := some 22) (v := ?_) (a' := ?_) #[true, true, true, false, true, true, true, true, true, false, true, true, true, true, true, false, false, false, false] rfl rfl (by kernel_rfl) (fun _ _ _ h => h) (Or.inl ⟨by rfl, ?_⟩) hHeld ?_ ?_
  rotate_left
  · rintro w' hS
    have x5 := blk_cell hS 5
    go_simp
    with_reducible rfl
  rotate_left
  · simp only [Act.put, List.setIfInBounds_toArray, List.set_cons_zero, List.set_cons_succ, i64_w, i32_w]
    rfl
  refine one_ (i := 3) (N := some 11) #[true, true, true, true, true, true, true, true, true, false, true, true, true, true, true, false, false, false, false] rfl rfl (by kernel_rfl) (by decide) (fun K hK => ?_)
  refine goes_ Try.func62 (by kernel_rfl) rfl #[.pointer (some ⟨g, i * 8 + 1, none⟩), .bool true] (by rfl) rfl rfl (by (try simp only [List.map_toArray, List.map_cons, List.map_nil]); first | done | rfl | (go_simp; done) | (go_simp; rfl)) ?_
  refine (set1_calls true _ HRd.out HBd.out).mono ?_
  rintro e w2 ⟨rfl, hrw2, hgw2⟩
  refine ⟨_, rfl, ?_⟩
  refine hK.out _ _ (blk_grown hHeld hgw2 HGN.out) (fun hHeld => ?_)
  clear hK K
  refine norm_ (a' := ?_) ?_ ?_
  rotate_left
  · show Act.put _ (some 11) _ = _
    simp only [Act.put, List.setIfInBounds_toArray, List.set_cons_zero, List.set_cons_succ, i64_w, i32_w]
    rfl
  refine one_ (i := 9) (N := some 17) #[true, true, true, true, true, true, true, true, true, true, true, true, true, true, true, false, false, false, false] rfl rfl (by kernel_rfl) (by decide) (fun K hK => ?_)
  refine goes_ Try.func63 (by kernel_rfl) rfl #[.pointer (some ⟨g, i * 8 + 4, none⟩), .int .i64 c.f4] (by rfl) rfl rfl (by (try simp only [List.map_toArray, List.map_cons, List.map_nil]); first | done | rfl | (go_simp; done) | (go_simp; rfl)) ?_
  refine (set4_calls c.f4 _ hrw2 (Nat.le_trans HBd.out hgw2.size)).mono ?_
  rintro e w3 ⟨rfl, hrw3, hgw3⟩
  refine ⟨_, rfl, ?_⟩
  refine hK.out _ _ (blk_grown hHeld hgw3 HGN.out) (fun hHeld => ?_)
  clear hK K
  refine norm_ (a' := ?_) ?_ ?_
  rotate_left
  · show Act.put _ (some 17) _ = _
    simp only [Act.put, List.setIfInBounds_toArray, List.set_cons_zero, List.set_cons_succ, i64_w, i32_w]
    rfl
  refine one_ (i := 15) (N := some 23) #[true, true, true, true, true, true, true, true, true, true, true, true, true, true, true, true, false, false, false] rfl rfl (by kernel_rfl) (by decide) (fun K hK => ?_)
  refine goes_ Try.func63 (by kernel_rfl) rfl #[.pointer (some ⟨g, i * 8 + 5, none⟩), .int .i64 c.f5] (by rfl) rfl rfl (by (try simp only [List.map_toArray, List.map_cons, List.map_nil]); first | done | rfl | (go_simp; done) | (go_simp; rfl)) ?_
  refine (set5_calls c.f5 _ hrw3 (Nat.le_trans HBd.out (Nat.le_trans hgw2.size hgw3.size))).mono ?_
  rintro e w4 ⟨rfl, hrw4, hgw4⟩
  refine ⟨_, rfl, ?_⟩
  refine hK.out _ _ (blk_grown hHeld hgw4 HGN.out) (fun hHeld => ?_)
  clear hK K
  refine norm_ (a' := ?_) ?_ ?_
  rotate_left
  · show Act.put _ (some 23) _ = _
    simp only [Act.put, List.setIfInBounds_toArray, List.set_cons_zero, List.set_cons_succ, i64_w, i32_w]
    rfl
  refine pure_ (i := 16) (N := some 5) (v := ?_) (a' := ?_) #[true, true, true, true, true, true, true, true, true, true, true, true, true, true, true, true, true, false, false] rfl rfl (by kernel_rfl) (fun _ _ _ h => h) (Or.inl ⟨by rfl, ?_⟩) ?_ ?_
  rotate_left
  · intro w'
    go_simp
    with_reducible rfl
  rotate_left
  · simp only [Act.put, List.setIfInBounds_toArray, List.set_cons_zero, List.set_cons_succ, i64_w, i32_w]
    rfl
  refine pure_ (i := 17) (N := some 6) (v := ?_) (a' := ?_) #[true, true, true, true, true, true, true, true, true, true, true, true, true, true, true, true, true, true, false] rfl rfl (by kernel_rfl) (fun _ _ _ h => h) (Or.inl ⟨by rfl, ?_⟩) ?_ ?_
  rotate_left
  · intro w'
    go_simp
    with_reducible rfl
  rotate_left
  · simp only [Act.put, List.setIfInBounds_toArray, List.set_cons_zero, List.set_cons_succ, i64_w, i32_w]
    rfl
  refine pure_ (i := 18) (N := some 7) (v := ?_) (a' := ?_) #[true, true, true, true, true, true, true, true, true, true, true, true, true, true, true, true, true, true, true] rfl rfl (by kernel_rfl) (fun _ _ _ h => h) (Or.inl ⟨by rfl, ?_⟩) ?_ ?_
  rotate_left
  · intro w'
    go_simp
    with_reducible rfl
  rotate_left
  · simp only [Act.put, List.setIfInBounds_toArray, List.set_cons_zero, List.set_cons_succ, i64_w, i32_w]
    rfl
  refine done_ (by kernel_rfl) ?_
  simp only [List.set_set] at hrw4
  have HRF := Lib.hid hrw4
  have HGF := Lib.hid (((HGd.out.trans hgw2).trans hgw3).trans hgw4)
  clear hrw2 hrw3 hrw4 hgw2 hgw3 hgw4
  obtain ⟨q1, hq1⟩ : ∃ q1, q1 = (o.f1 != true) := ⟨_, rfl⟩
  obtain ⟨q2, hq2⟩ : ∃ q2, q2 = (o.f4 != c.f4) := ⟨_, rfl⟩
  obtain ⟨q3, hq3⟩ : ∃ q3, q3 = (o.f5 != c.f5) := ⟨_, rfl⟩
  have HQ : Hid ((!(eqO (chg 2 o c) o)) = (q1 || (q2 || q3))) := Lib.hid (by rw [hq1, hq2, hq3]; exact turned_up o c)
  have hq1b : (!o.f1) = q1 := by rw [hq1]; cases o.f1 <;> rfl
  simp only [← hq1, ← hq2, ← hq3, hq1b]
  clear hq1 hq2 hq3 hq1b
  cases q1 <;> cases q2 <;> cases q3
  all_goals (go_wp2_with fail; go_ret; refine ⟨?_, HRF.out, HGF.out⟩; rw [HQ.out]; rfl)
end Go.Proofs.Ytfikaekocgofoaa.AtD
/- A copy of a row of OSDs; where an OSD stands, or would. -/
set_option linter.unusedSimpArgs false
namespace Go.Proofs.Ytfikaekocgofoaa.AtC
open Go Go.RowKit Go.Proofs.YtfikaekocgofoaaW.PrintWords Go.Proofs.YtfikaekocgofoaaW.PrintLast Go.Proofs.YtfikaekocgofoaaW.PrintMore Mem PAll KW AtA AtB Sl Dsc MayP ApP Fnd PlF Roo Awk McW ApY ApZ ApW AtK AtV AtX AtD
open CrP hiding Od
set_option maxRecDepth 100000 in
theorem clone_calls (A : Option Addr) (c : Nat) (l : List Od) (w : World) (hx : kO.C w A l.length l) (hl : l.length ≤ 64) :
    Calls Try.prog 33 #[.slice A l.length c] w fun e w' => ∃ v, e = .returned v ∧ kO.R 37 w' w.heap.size (fun _ => True) v l ∧ Below w.heap.size w w' := by
  have HC := Lib.hid hx
  have HL := Lib.hid hl
  have HB0 := Lib.hid (Below.refl w.heap.size w)
  cases A with
  | none =>
    have h0 : l = [] := by
      rcases Nat.eq_zero_or_pos l.length with h | h
      · exact List.eq_nil_of_length_eq_zero h
      · obtain ⟨ad, e, _⟩ := hx.2.2 h; cases e
    subst h0
    clear hx hl HC
    have hq := fun w => Lib.run_eql_slice_nil (P := Try.prog) w 26 37 none 0 c 0 0 Try.underlying26
    go_enter Try.func33, Try.ntmps33
    go_wp2_with fail
    go_ret
    exact ⟨_, rfl, Kd.R_nil _ _ _ _ _, HB0.out⟩
  | some ad =>
    clear hx hl
    have hq := fun w => Lib.run_eql_slice_nil (P := Try.prog) w 26 37 (some ad) l.length c 0 0 Try.underlying26
    have HB1 := Lib.hid (below_alloc HB0.out (.cells #[] 37))
    have HO1 : Hid (kO.R 37 (w.alloc (.cells #[] 37)) w.heap.size (fun _ => True) (.slice (some ⟨w.heap.size, 0, none⟩) 0 0) []) := Lib.hid ⟨fun _ _ => trivial, OwnRow.lit w w.heap.size (ps := []) (inner := []) (Reps.none _ _) (Nat.le_refl _) (Nat.zero_le _)⟩
    go_enter Try.func33, Try.ntmps33
    go_wp2_with (first | (at_builtin; go_must (refine Kd.R_append_rows kO (w0 := w) w.heap.size rfl _ _ 26 37 (.agg #[.int .i64 0, .bool false, .bool false, .int .i64 0, .int .i64 0, .int .i64 0, .int .i64 0, .int .i64 0]) 56 rfl Try.underlying26 infoO rfl (by decide) (by decide) _ [] l (some ad) l.length c (fun _ => True) (fun _ => False) rfl rfl HO1.out (Kd.C_alloc HC.out _) (fun y cs hk => by rw [k37_open hk]; exact k37_mkM _ _ _ y) (fun _ hk => hk.elim) (fun _ _ => trivial) HB1.out HB1.out.size ?hl ?_; (case hl => have := HL.out; simp only [List.length_nil]; omega); intro v3 w3 ho hb hg hg2; rw [List.nil_append] at ho; have HO3 := Lib.hid ho; have HB3 := Lib.hid hb; clear ho hb hg hg2 HO1 HB1)))
    go_ret
    exact ⟨_, rfl, HO3.out, HB3.out⟩
theorem at_O {w : World} {A : Option Addr} {n : Nat} {xs : List Od} (h : kO.C w A n xs) (i : Nat) (h1 : i < n) :
    ∃ ad x, xs[i]? = some x ∧ A = some ad ∧ w.cell? (ad.add (i * 8)) = some (.int .i64 x.f0) ∧ w.cell? ⟨(ad.add (i * 8)).block, (ad.add (i * 8)).off + 1, none⟩ = some (.bool x.f1) ∧ w.cell? ⟨(ad.add (i * 8)).block, (ad.add (i * 8)).off + 2, none⟩ = some (.bool x.f2) ∧ w.cell? ⟨(ad.add (i * 8)).block, (ad.add (i * 8)).off + 3, none⟩ = some (.int .i64 x.f3) ∧ w.cell? ⟨(ad.add (i * 8)).block, (ad.add (i * 8)).off + 4, none⟩ = some (.int .i64 x.f4) ∧ w.cell? ⟨(ad.add (i * 8)).block, (ad.add (i * 8)).off + 5, none⟩ = some (.int .i64 x.f5) ∧ w.cell? ⟨(ad.add (i * 8)).block, (ad.add (i * 8)).off + 6, none⟩ = some (.int .i64 x.f6) ∧ w.cell? ⟨(ad.add (i * 8)).block, (ad.add (i * 8)).off + 7, none⟩ = some (.int .i64 x.f7) := by
  have hi : i < xs.length := by have := h.1; omega
  obtain ⟨ad, e, _, b0, b1, b2, b3, b4, b5, b6, b7⟩ : ∃ ad, A = some ad ∧ True ∧ w.cell? (ad.add (i * 8)) = some (.int .i64 (xs[i]).f0) ∧ w.cell? ⟨(ad.add (i * 8)).block, (ad.add (i * 8)).off + 1, none⟩ = some (.bool (xs[i]).f1) ∧ w.cell? ⟨(ad.add (i * 8)).block, (ad.add (i * 8)).off + 2, none⟩ = some (.bool (xs[i]).f2) ∧ w.cell? ⟨(ad.add (i * 8)).block, (ad.add (i * 8)).off + 3, none⟩ = some (.int .i64 (xs[i]).f3) ∧ w.cell? ⟨(ad.add (i * 8)).block, (ad.add (i * 8)).off + 4, none⟩ = some (.int .i64 (xs[i]).f4) ∧ w.cell? ⟨(ad.add (i * 8)).block, (ad.add (i * 8)).off + 5, none⟩ = some (.int .i64 (xs[i]).f5) ∧ w.cell? ⟨(ad.add (i * 8)).block, (ad.add (i * 8)).off + 6, none⟩ = some (.int .i64 (xs[i]).f6) ∧ w.cell? ⟨(ad.add (i * 8)).block, (ad.add (i * 8)).off + 7, none⟩ = some (.int .i64 (xs[i]).f7) := by
    obtain ⟨ad, c, e, _, hK, hc0⟩ := Kd.C_get h z37 (i : Int) (by omega) (by omega)
    have hg : xs.getD (i : Int).toNat z37 = xs[i] := by
      rw [Int.toNat_natCast, List.getD_eq_getElem?_getD, List.getElem?_eq_getElem hi]
      rfl
    rw [hg] at hK
    have hc : ∀ j u, c[j]? = some u → w.cell? (ad.add (i * 8 + j)) = some u := hc0
    obtain rfl := k37_open hK
    exact ⟨ad, e, trivial, hc 0 _ rfl, by rw [← add_field _ _ 1 (by omega)]; exact hc 1 _ rfl, by rw [← add_field _ _ 2 (by omega)]; exact hc 2 _ rfl, by rw [← add_field _ _ 3 (by omega)]; exact hc 3 _ rfl, by rw [← add_field _ _ 4 (by omega)]; exact hc 4 _ rfl, by rw [← add_field _ _ 5 (by omega)]; exact hc 5 _ rfl, by rw [← add_field _ _ 6 (by omega)]; exact hc 6 _ rfl, by rw [← add_field _ _ 7 (by omega)]; exact hc 7 _ rfl⟩
  exact ⟨ad, xs[i], List.getElem?_eq_getElem hi, e, b0, b1, b2, b3, b4, b5, b6, b7⟩
/-- Where the number stands, or would: what is ahead is lower, what is behind is not. -/
structure Pos (l : List Od) (id : Int) (j : Nat) : Prop where
  le : j ≤ l.length
  lo : ∀ (i : Nat) (o : Od), i < j → l[i]? = some o → o.f0 < id
  hi : ∀ (i : Nat) (o : Od), j ≤ i → l[i]? = some o → id ≤ o.f0
set_option maxHeartbeats 4000000 in
theorem tell_calls (o : Od) (id : Int) (w : World) : Calls Try.prog 56 #[.agg (aggO o), .int .i64 id] w fun e w' => e = .returned (.int .i64 (Lib.compareInt o.f0 id)) ∧ Below w.heap.size w w' := by
  have HB0 := Lib.hid (below_alloc (Below.refl w.heap.size w) (.cells (aggO o) 37))
  have HA : Hid ((w.alloc (.cells (aggO o) 37)).heap[w.heap.size]? = some (.cells (aggO o) 37 (0, 0))) := Lib.hid (blk_new _ _)
  have y0 := blk_cell HA.out 0
  have hcon := fun W' => Try.cmp_Compare_int o.f0 id W'
  generalize Lib.compareInt o.f0 id = r at hcon ⊢
  go_enter Try.func56, Try.ntmps56
  go_wp2_with (go_at_call 57; refine (hcon _).mono ?_; rintro e w' ⟨rfl, rfl⟩)
  go_ret
  exact ⟨rfl, HB0.out⟩
theorem cmp_lt (x y : Int) : decide (Lib.compareInt x y < 0) = decide (x < y) := by
  unfold Lib.compareInt
  rw [decide_eq_decide]
  split <;> (try split) <;> omega
theorem cmp_eq (x y : Int) : (Lib.compareInt x y == 0) = decide (x = y) := by
  unfold Lib.compareInt
  rw [Bool.eq_iff_iff]
  simp only [beq_iff_eq, decide_eq_true_eq]
  split <;> (try split) <;> omega
def Asc2 (l : List Od) : Prop := ∀ (i j : Nat) (o q : Od), i < j → l[i]? = some o → l[j]? = some q → o.f0 < q.f0
theorem asc2_may {ep k m p d : Int} {l : List Od} (h : mayB ep k m p d l = true) : Asc2 l := by
  intro i j o q hij hi hj
  have hjl := (List.getElem?_eq_some_iff.1 hj).1
  exact ((goodB_iff.1 (may_good h).2 j q hjl hj).2 i o hij hi).1
set_option maxHeartbeats 8000000 in
set_option maxRecDepth 100000 in
theorem bs_calls (A : Option Addr) (c : Nat) (l : List Od) (id : Int) (w : World) (hx : kO.C w A l.length l) (hl : l.length ≤ 64) (ha : Asc2 l) :
    Calls Try.prog 55 #[.slice A l.length c, .int .i64 id, .func (.func 56) #[] #[]] w fun e w' => ∃ j : Nat, Pos l id j ∧ e = .returned (.tuple #[.int .i64 j, .bool (decide (∃ o, l[j]? = some o ∧ o.f0 = id))]) ∧ Below w.heap.size w w' := by
  have HC := Lib.hid hx
  have HL := Lib.hid hl
  have HA := Lib.hid ha
  have HB0 := Lib.hid (Below.refl w.heap.size w)
  have hl64 : l.length ≤ 64 := hl
  clear hx hl ha
  go_enter Try.func55, Try.ntmps55
  go_wp2_with fail
  go_loopw [9, 10] (fun i' j' wr => ∃ i j : Nat, i' = .int .i64 i ∧ j' = .int .i64 j ∧ Hid (i ≤ j) ∧ Hid (j ≤ l.length) ∧ Hid (∀ (k : Nat) (o : Od), k < i → l[k]? = some o → o.f0 < id) ∧ Hid (∀ (k : Nat) (o : Od), j ≤ k → l[k]? = some o → id ≤ o.f0) ∧ Hid (Below w.heap.size w wr)) (fun i' j' _ => (intOf j' - intOf i').toNat)
  case atStart => exact ⟨0, l.length, rfl, rfl, Lib.hid (Nat.zero_le _), Lib.hid (Nat.le_refl _), Lib.hid (fun k o hk => absurd hk (Nat.not_lt_zero _)), Lib.hid (fun k o hk ho => by have := (List.getElem?_eq_some_iff.1 ho).1; omega), HB0⟩
  case round =>
    obtain ⟨i, j, rfl, rfl, HIJ, HJL, HLO, HHI, HB⟩ := hrel
    clear HB0
    have hij := HIJ.out
    have hjl := HJL.out
    by_cases h : i < j
    · have hlt : decide ((i : Int) < (j : Int)) = true := decide_eq_true (by omega)
      have hlt2 : decide (i < j) = true := decide_eq_true h
      have HIL := Lib.hid h
      obtain ⟨q, hq⟩ : ∃ q, q = (i + j) / 2 := ⟨_, rfl⟩
      have HQ := Lib.hid hq
      have hq1 : i ≤ q := by omega
      have hq2 : q < j := by omega
      clear hq
      have hQI : ((i : Int) + (j : Int)) / 2 = (q : Int) := by have := HQ.out; omega
      have i0 : (0 : Int) ≤ q := by omega
      have i1 : (q : Int) < l.length := by omega
      have i2 : q < l.length := by omega
      have HQJ := Lib.hid hq2
      have HQI := Lib.hid hq1
      obtain ⟨ad, o, ho, hA, b0, b1, b2, b3, b4, b5, b6, b7⟩ := at_O (Kd.C_below HC.out HB.out) q i2
      subst hA
      have HO := Lib.hid ho
      have T := Lib.hid (fun W => tell_calls o id W)
      obtain ⟨r, hr⟩ : ∃ r, r = Lib.compareInt o.f0 id := ⟨_, rfl⟩
      have HR : Hid (decide (r < 0) = decide (o.f0 < id)) := Lib.hid (by rw [hr]; exact cmp_lt _ _)
      rw [← hr] at T
      clear hr ho hq1 hq2 h hij hjl
      go_wp2_with fail
      refine (T.out _).mono ?_
      rintro e w3 ⟨rfl, hb⟩
      have HB3 := Lib.hid (below_then HB.out HB.out.size hb)
      clear hb b0 b1 b2 b3 b4 b5 b6 b7 T
      by_cases hc : o.f0 < id
      · have hr0 : decide (r < 0) = true := by rw [HR.out]; exact decide_eq_true hc
        have HC2 := Lib.hid hc
        clear hc
        go_wp2_with fail
        go_roundw
        case rel =>
          refine ⟨q + 1, j, by go_num, rfl, Lib.hid (by have := HQJ.out; omega), HJL, Lib.hid (fun k p hk hp => ?_), HHI, HB3⟩
          rcases Nat.lt_or_ge k q with h1 | h1
          · exact Int.lt_trans (HA.out k q p o h1 hp HO.out) HC2.out
          · have e : k = q := by omega
            subst e
            have e2 := HO.out
            rw [hp] at e2
            obtain rfl := Option.some.inj e2
            exact HC2.out
        case measure => have := HQJ.out; have := HQI.out; simp only [intOf]; omega
      · have hr0 : decide (r < 0) = false := by rw [HR.out]; exact decide_eq_false hc
        have HC2 := Lib.hid hc
        clear hc
        go_wp2_with fail
        go_roundw
        case rel =>
          refine ⟨i, q, rfl, rfl, HQI, Lib.hid (by have := HQJ.out; have := HJL.out; omega), HLO, Lib.hid (fun k p hk hp => ?_), HB3⟩
          rcases Nat.lt_or_ge q k with h1 | h1
          · have := HA.out q k o p h1 HO.out hp
            have := HC2.out
            omega
          · have e : k = q := by omega
            subst e
            have e2 := HO.out
            rw [hp] at e2
            obtain rfl := Option.some.inj e2
            have := HC2.out
            omega
        case measure => have := HQJ.out; have := HQI.out; simp only [intOf]; omega
    · obtain rfl : i = j := by omega
      have hlt : decide ((i : Int) < (i : Int)) = false := decide_eq_false (by omega)
      have hlt2 : decide (i < i) = false := decide_eq_false (Nat.lt_irrefl _)
      have HP : Hid (Pos l id i) := Lib.hid ⟨HJL.out, HLO.out, HHI.out⟩
      clear h hij
      by_cases hn : i < l.length
      · have hn1 : decide (i < l.length) = true := decide_eq_true hn
        have hn2 : decide ((i : Int) < (l.length : Int)) = true := decide_eq_true (by omega)
        have i0 : (0 : Int) ≤ i := by omega
        have i1 : (i : Int) < l.length := by omega
        obtain ⟨ad, o, ho, hA, b0, b1, b2, b3, b4, b5, b6, b7⟩ := at_O (Kd.C_below HC.out HB.out) i hn
        subst hA
        have T := Lib.hid (fun W => tell_calls o id W)
        obtain ⟨r, hr⟩ : ∃ r, r = Lib.compareInt o.f0 id := ⟨_, rfl⟩
        obtain ⟨f, hf⟩ : ∃ f, f = decide (o.f0 = id) := ⟨_, rfl⟩
        have hrf : (r == 0) = f := by rw [hr, hf]; exact cmp_eq _ _
        have HF : Hid (decide (∃ o, l[i]? = some o ∧ o.f0 = id) = f) := Lib.hid (by
          rw [hf, decide_eq_decide]
          exact ⟨fun ⟨p, hp, he⟩ => by rw [ho] at hp; obtain rfl := Option.some.inj hp; exact he, fun he => ⟨o, ho, he⟩⟩)
        rw [← hr] at T
        clear hr hf ho hn hjl
        go_wp2_with fail
        refine (T.out _).mono ?_
        rintro e w3 ⟨rfl, hb⟩
        have HB3 := Lib.hid (below_then HB.out HB.out.size hb)
        clear hb b0 b1 b2 b3 b4 b5 b6 b7 T
        cases f
        · go_wp2_with fail
          go_ret2
          exact ⟨i, HP.out, by rw [HF.out]; rfl, HB3.out⟩
        · go_wp2_with fail
          go_ret2
          exact ⟨i, HP.out, by rw [HF.out]; rfl, HB3.out⟩
      · have hn1 : decide (i < l.length) = false := decide_eq_false hn
        have hn2 : decide ((i : Int) < (l.length : Int)) = false := decide_eq_false (by omega)
        have HF : Hid (decide (∃ o, l[i]? = some o ∧ o.f0 = id) = false) := Lib.hid (decide_eq_false (fun ⟨p, hp, _⟩ => hn (List.getElem?_eq_some_iff.1 hp).1))
        clear hn hjl
        go_wp2_with fail
        go_ret2
        exact ⟨i, HP.out, by rw [HF.out]; rfl, HB.out⟩
set_option maxHeartbeats 4000000 in
theorem aplace_calls (ep k m p d : Int) (A : Option Addr) (c : Nat) (l : List Od) (id : Int) (w : World) (hx : kO.C w A l.length l) (hl : l.length ≤ 64) (ha : Asc2 l) :
    Calls Try.prog 32 #[.agg (boxM ep k m p d A c l), .int .i64 id] w fun e w' => ∃ j : Nat, Pos l id j ∧ e = .returned (.tuple #[.int .i64 j, .bool (decide (∃ o, l[j]? = some o ∧ o.f0 = id))]) ∧ Below w.heap.size w w' := by
  have HB0 := Lib.hid (below_alloc (Below.refl w.heap.size w) (.cells (boxM ep k m p d A c l) 28))
  have HM : Hid ((w.alloc (.cells (boxM ep k m p d A c l) 28)).heap[w.heap.size]? = some (.cells (boxM ep k m p d A c l) 28 (0, 0))) := Lib.hid (blk_new _ _)
  have T := Lib.hid (bs_calls A c l id _ (Kd.C_alloc hx (.cells (boxM ep k m p d A c l) 28)) hl ha)
  clear hx hl ha
  unfold boxM at *
  have y5 := blk_cell HM.out 5
  go_enter Try.func32, Try.ntmps32
  go_wp2_with fail
  refine T.out.mono ?_
  rintro e w1 ⟨j, hp, rfl, hb⟩
  have HB1 := Lib.hid (below_then HB0.out HB0.out.size hb)
  have HP := Lib.hid hp
  obtain ⟨f, hf⟩ : ∃ f, f = decide (∃ o, l[j]? = some o ∧ o.f0 = id) := ⟨_, rfl⟩
  have HF := Lib.hid hf
  rw [← hf]
  clear hp hb hf y5
  go_wp2_with fail
  go_ret2
  exact ⟨j, HP.out, by rw [← HF.out]; rfl, HB1.out⟩
end Go.Proofs.Ytfikaekocgofoaa.AtC
/- The map behind a change: refusals, and what turns an OSD. -/
set_option linter.unusedSimpArgs false
namespace Go.Proofs.Ytfikaekocgofoaa.AtP
open Go Go.RowKit Go.Proofs.YtfikaekocgofoaaW.PrintWords Go.Proofs.YtfikaekocgofoaaW.PrintLast Go.Proofs.YtfikaekocgofoaaW.PrintMore Mem PAll KW AtA AtB Sl Dsc MayP ApP Fnd PlF Roo Awk McW ApY ApZ ApW AtK AtV AtX AtD AtC
open CrP hiding Od
set_option maxHeartbeats 8000000 in
set_option maxRecDepth 100000 in
theorem aapply_bad (ep k m p d : Int) (A : Option Addr) (c : Nat) (l : List Od) (kd : Int) (o : Od) (w : World) (hx : kO.C w A l.length l) (hwf : WfL l) (hn : (mayB ep k m p d l && (mayC kd o && !(ep == 1048576))) = false) :
    Calls Try.prog 13 #[.agg (boxM ep k m p d A c l), .agg (chA kd o)] w fun e w' => e = .returned (.tuple #[.agg zM, .int .i64 1]) ∧ Below w.heap.size w w' := by
  have hs1 : (w.alloc (.cells (boxM ep k m p d A c l) 28)).heap.size = w.heap.size + 1 := by simp only [World.alloc, Array.size_push]
  have hs2 : ((w.alloc (.cells (boxM ep k m p d A c l) 28)).alloc (.cells (chA kd o) 39)).heap.size = w.heap.size + 2 := by simp only [World.alloc, Array.size_push]
  have hs3 : (((w.alloc (.cells (boxM ep k m p d A c l) 28)).alloc (.cells (chA kd o) 39)).alloc (.cells zM 28)).heap.size = w.heap.size + 3 := by simp only [World.alloc, Array.size_push]
  have HM1 : Hid ((((w.alloc (.cells (boxM ep k m p d A c l) 28)).alloc (.cells (chA kd o) 39)).alloc (.cells zM 28)).heap[w.heap.size]? = some (.cells (boxM ep k m p d A c l) 28 (0, 0))) := Lib.hid (blk_below (blk_new _ _) (below_alloc (below_alloc (Below.refl _ _) _) _))
  have HG1 : Hid ((((w.alloc (.cells (boxM ep k m p d A c l) 28)).alloc (.cells (chA kd o) 39)).alloc (.cells zM 28)).heap[w.heap.size + 1]? = some (.cells (chA kd o) 39 (0, 0))) := Lib.hid (by
    have h := blk_new (w.alloc (.cells (boxM ep k m p d A c l) 28)) (.cells (chA kd o) 39)
    rw [hs1] at h
    exact blk_below h (below_alloc (Below.refl _ _) _))
  have HR1 : Hid ((((w.alloc (.cells (boxM ep k m p d A c l) 28)).alloc (.cells (chA kd o) 39)).alloc (.cells zM 28)).heap[w.heap.size + 2]? = some (.cells zM 28 (0, 0))) := Lib.hid (by
    have h := blk_new ((w.alloc (.cells (boxM ep k m p d A c l) 28)).alloc (.cells (chA kd o) 39)) (.cells zM 28)
    rw [hs2] at h
    exact h)
  have HB1 := Lib.hid (below_alloc (below_alloc (below_alloc (Below.refl w.heap.size w) (.cells (boxM ep k m p d A c l) 28)) (.cells (chA kd o) 39)) (.cells zM 28))
  have HC1 := Lib.hid (Kd.C_below hx HB1.out)
  obtain ⟨w1, hw1⟩ : ∃ w1, w1 = (((w.alloc (.cells (boxM ep k m p d A c l) 28)).alloc (.cells (chA kd o) 39)).alloc (.cells zM 28)) := ⟨_, rfl⟩
  have HWN := Lib.hid hw1
  rw [← hw1] at HM1 HG1 HR1 HB1 HC1 hs3
  have HSZ := Lib.hid hs3
  have TM := Lib.hid (check_calls ep k m p d A c l w1 HC1.out hwf)
  obtain ⟨mb, hmb⟩ : ∃ mb, mb = mayB ep k m p d l := ⟨_, rfl⟩
  obtain ⟨cb, hcb⟩ : ∃ cb, cb = mayC kd o := ⟨_, rfl⟩
  rw [← hmb] at TM hn
  rw [← hcb] at hn
  have TC := Lib.hid (fun w1 => checkc_calls kd o w1)
  rw [← hcb] at TC
  have HN := Lib.hid hn
  clear hx hwf hn hmb hcb hw1 hs1 hs2 hs3
  unfold boxM chA at *
  cases mb with
  | false =>
    go_enter Try.func13, Try.ntmps13
    go_wp2_with fail
    rw [← HWN.out]
    refine TM.out.mono ?_
    rintro e w2 ⟨rfl, hb⟩
    have HS1 : Hid (w.heap.size + 3 ≤ w1.heap.size) := Lib.hid (by have := HSZ.out; omega)
    have HB2 := Lib.hid (below_then HB1.out HB1.out.size hb)
    have HM2 := Lib.hid (blk_below HM1.out hb)
    have HG2 := Lib.hid (blk_below HG1.out hb)
    have HR2 := Lib.hid (blk_below HR1.out hb)
    have HC2 := Lib.hid (Kd.C_below HC1.out hb)
    have HS2 : Hid (w.heap.size + 3 ≤ w2.heap.size) := Lib.hid (Nat.le_trans HS1.out hb.size)
    clear hb HB1 HM1 HG1 HR1 HC1 HS1
    clear TM HWN HSZ
    simp only [if_true, if_false, Bool.false_eq_true]
    go_wp2_with (first | (refine gate_ (.store 28 (.tmp 4) (.tmp 21)) rfl ?_; go_must (refine Stb.store_list rfl rfl 28 (.tmp 4) (.tmp 21) rfl (cur' := zM) [.int .i64 0, .int .i64 0, .int .i64 0, .int .i64 0, .int .i64 0, .slice none 0 0] (by exact HR2.out) (by rfl) (by rfl) (by rfl) (by kernel_rfl) (Nat.le_of_ble_eq_true rfl) (by rfl) (by rfl) ?_; intro wf hz_ hg_ hs_; have HF := Lib.hid hz_; have HBF := Lib.hid (Stb.below_grown1 HB2.out hg_ (Nat.le_add_right _ 2) HB2.out.size); clear hz_ hg_ hs_)))
    refine bodyPost_ret (results_ct rfl _ _ (w.heap.size + 2) 28 zM (0, 0) _ rfl HF.out Try.underlying28 rfl (by kernel_rfl)) rfl ?_
    exact ⟨rfl, HBF.out⟩
  | true =>
    cases cb with
    | false =>
      go_enter Try.func13, Try.ntmps13
      go_wp2_with fail
      rw [← HWN.out]
      refine TM.out.mono ?_
      rintro e w2 ⟨rfl, hb⟩
      have HS1 : Hid (w.heap.size + 3 ≤ w1.heap.size) := Lib.hid (by have := HSZ.out; omega)
      have HB2 := Lib.hid (below_then HB1.out HB1.out.size hb)
      have HM2 := Lib.hid (blk_below HM1.out hb)
      have HG2 := Lib.hid (blk_below HG1.out hb)
      have HR2 := Lib.hid (blk_below HR1.out hb)
      have HC2 := Lib.hid (Kd.C_below HC1.out hb)
      have HS2 : Hid (w.heap.size + 3 ≤ w2.heap.size) := Lib.hid (Nat.le_trans HS1.out hb.size)
      clear hb HB1 HM1 HG1 HR1 HC1 HS1
      clear TM HWN HSZ
      simp only [if_true, if_false, Bool.false_eq_true]
      have c0 := blk_cell HG2.out 0
      have c1 := blk_cell HG2.out 1
      have c2 := blk_cell HG2.out 2
      have c3 := blk_cell HG2.out 3
      have c4 := blk_cell HG2.out 4
      have c5 := blk_cell HG2.out 5
      have c6 := blk_cell HG2.out 6
      have c7 := blk_cell HG2.out 7
      have c8 := blk_cell HG2.out 8
      go_wp2_with fail
      refine (TC.out _).mono ?_
      rintro e w3 ⟨rfl, hb⟩
      have HB3 := Lib.hid (below_then HB2.out HB2.out.size hb)
      have HM3 := Lib.hid (blk_below HM2.out hb)
      have HG3 := Lib.hid (blk_below HG2.out hb)
      have HR3 := Lib.hid (blk_below HR2.out hb)
      have HC3 := Lib.hid (Kd.C_below HC2.out hb)
      have HS3 : Hid (w.heap.size + 3 ≤ w3.heap.size) := Lib.hid (Nat.le_trans HS2.out hb.size)
      clear hb HB2 HM2 HG2 HR2 HC2 HS2
      clear TC c0 c1 c2 c3 c4 c5 c6 c7 c8
      simp only [if_true, if_false, Bool.false_eq_true]
      go_wp2_with (first | (refine gate_ (.store 28 (.tmp 4) (.tmp 21)) rfl ?_; go_must (refine Stb.store_list rfl rfl 28 (.tmp 4) (.tmp 21) rfl (cur' := zM) [.int .i64 0, .int .i64 0, .int .i64 0, .int .i64 0, .int .i64 0, .slice none 0 0] (by exact HR3.out) (by rfl) (by rfl) (by rfl) (by kernel_rfl) (Nat.le_of_ble_eq_true rfl) (by rfl) (by rfl) ?_; intro wf hz_ hg_ hs_; have HF := Lib.hid hz_; have HBF := Lib.hid (Stb.below_grown1 HB3.out hg_ (Nat.le_add_right _ 2) HB3.out.size); clear hz_ hg_ hs_)))
      refine bodyPost_ret (results_ct rfl _ _ (w.heap.size + 2) 28 zM (0, 0) _ rfl HF.out Try.underlying28 rfl (by kernel_rfl)) rfl ?_
      exact ⟨rfl, HBF.out⟩
    | true =>
      have he : (ep == 1048576) = true := by have := HN.out; cases h : (ep == 1048576); rw [h] at this; exact absurd this (by decide); rfl
      have he2 : decide (ep = 1048576) = true := by simpa using he
      go_enter Try.func13, Try.ntmps13
      go_wp2_with fail
      rw [← HWN.out]
      refine TM.out.mono ?_
      rintro e w2 ⟨rfl, hb⟩
      have HS1 : Hid (w.heap.size + 3 ≤ w1.heap.size) := Lib.hid (by have := HSZ.out; omega)
      have HB2 := Lib.hid (below_then HB1.out HB1.out.size hb)
      have HM2 := Lib.hid (blk_below HM1.out hb)
      have HG2 := Lib.hid (blk_below HG1.out hb)
      have HR2 := Lib.hid (blk_below HR1.out hb)
      have HC2 := Lib.hid (Kd.C_below HC1.out hb)
      have HS2 : Hid (w.heap.size + 3 ≤ w2.heap.size) := Lib.hid (Nat.le_trans HS1.out hb.size)
      clear hb HB1 HM1 HG1 HR1 HC1 HS1
      clear TM HWN HSZ
      simp only [if_true, if_false, Bool.false_eq_true]
      have c0 := blk_cell HG2.out 0
      have c1 := blk_cell HG2.out 1
      have c2 := blk_cell HG2.out 2
      have c3 := blk_cell HG2.out 3
      have c4 := blk_cell HG2.out 4
      have c5 := blk_cell HG2.out 5
      have c6 := blk_cell HG2.out 6
      have c7 := blk_cell HG2.out 7
      have c8 := blk_cell HG2.out 8
      go_wp2_with fail
      refine (TC.out _).mono ?_
      rintro e w3 ⟨rfl, hb⟩
      have HB3 := Lib.hid (below_then HB2.out HB2.out.size hb)
      have HM3 := Lib.hid (blk_below HM2.out hb)
      have HG3 := Lib.hid (blk_below HG2.out hb)
      have HR3 := Lib.hid (blk_below HR2.out hb)
      have HC3 := Lib.hid (Kd.C_below HC2.out hb)
      have HS3 : Hid (w.heap.size + 3 ≤ w3.heap.size) := Lib.hid (Nat.le_trans HS2.out hb.size)
      clear hb HB2 HM2 HG2 HR2 HC2 HS2
      clear TC c0 c1 c2 c3 c4 c5 c6 c7 c8
      simp only [if_true, if_false, Bool.false_eq_true]
      have c0 := blk_cell HM3.out 0
      go_wp2_with (first | (refine gate_ (.store 28 (.tmp 4) (.tmp 21)) rfl ?_; go_must (refine Stb.store_list rfl rfl 28 (.tmp 4) (.tmp 21) rfl (cur' := zM) [.int .i64 0, .int .i64 0, .int .i64 0, .int .i64 0, .int .i64 0, .slice none 0 0] (by exact HR3.out) (by rfl) (by rfl) (by rfl) (by kernel_rfl) (Nat.le_of_ble_eq_true rfl) (by rfl) (by rfl) ?_; intro wf hz_ hg_ hs_; have HF := Lib.hid hz_; have HBF := Lib.hid (Stb.below_grown1 HB3.out hg_ (Nat.le_add_right _ 2) HB3.out.size); clear hz_ hg_ hs_)))
      refine bodyPost_ret (results_ct rfl _ _ (w.heap.size + 2) 28 zM (0, 0) _ rfl HF.out Try.underlying28 rfl (by kernel_rfl)) rfl ?_
      exact ⟨rfl, HBF.out⟩
theorem field_kind (f1 f2 : Fn) (w : World) : (Instr.field 69 (.agg #[.func f1 #[] #[], .func f2 #[] #[]]) 1).run Try.prog w = .ok (.func f2 #[] #[]) w := by kernel_rfl
theorem known_cases {kd : Int} (h : knownB kd = true) : kd = 2 ∨ kd = 3 ∨ kd = 4 ∨ kd = 5 ∨ kd = 6 := by
  unfold knownB at h
  simp only [Bool.and_eq_true, decide_eq_true_eq] at h
  omega
theorem enters_do {kd : Int} (h : knownB kd = true) (args : Array Value) (w : World) : (callFunc (doF kd) args).run Try.prog w = .ok (.enter (doF kd) args) w := by
  rcases known_cases h with rfl | rfl | rfl | rfl | rfl
  · exact enters_ Try.func61 (by kernel_rfl) rfl args w
  · exact enters_ Try.func64 (by kernel_rfl) rfl args w
  · exact enters_ Try.func65 (by kernel_rfl) rfl args w
  · exact enters_ Try.func66 (by kernel_rfl) rfl args w
  · exact enters_ Try.func68 (by kernel_rfl) rfl args w
theorem do_calls {kd : Int} (hk : knownB kd = true) {base : Nat} {ok : Nat → Prop} {g cap : Nat} {l : List Od} {i : Nat} {o : Od} (c : Od) (w : World) (h : Row w base ok g cap l i o) (hb : base ≤ w.heap.size) :
    Calls Try.prog (doF kd) #[.pointer (some ⟨g, i * 8, none⟩), .agg (aggO c)] w fun e w' => e = .returned (.bool (!(eqO (chg kd o c) o))) ∧ Row w' base ok g cap (l.set i (chg kd o c)) i (chg kd o c) ∧ w.grownBy w' (some g) := by
  rcases known_cases hk with rfl | rfl | rfl | rfl | rfl
  · exact do3_calls c w h hb
  · exact do4_calls c w h hb
  · exact do5_calls c w h hb
  · exact do6_calls c w h hb
  · exact do8_calls c w h hb
theorem pos_find {l : List Od} {id : Int} {j : Nat} (ha : Asc2 l) (hp : Pos l id j) : (findO l id = none ∧ decide (∃ o, l[j]? = some o ∧ o.f0 = id) = false) ∨ ∃ q, l[j]? = some q ∧ findO l id = some q ∧ decide (∃ o, l[j]? = some o ∧ o.f0 = id) = true := by
  by_cases h : ∃ o, l[j]? = some o ∧ o.f0 = id
  · right
    obtain ⟨q, hq, hid⟩ := h
    refine ⟨q, hq, ?_, decide_eq_true ⟨q, hq, hid⟩⟩
    have hj := (List.getElem?_eq_some_iff.1 hq).1
    unfold findO
    rw [List.find?_eq_some_iff_getElem]
    refine ⟨by simpa using hid, j, hj, by rw [List.getElem?_eq_getElem hj] at hq; exact Option.some.inj hq, fun i hi => ?_⟩
    have h1 := hp.lo i l[i] hi (List.getElem?_eq_getElem (by omega))
    simp
    omega
  · left
    refine ⟨?_, decide_eq_false h⟩
    unfold findO
    rw [List.find?_eq_none]
    intro x hx
    obtain ⟨i, hi, e⟩ := List.mem_iff_getElem.1 hx
    have hix : l[i]? = some x := by rw [List.getElem?_eq_getElem hi, e]
    simp only [beq_iff_eq]
    intro he
    rcases Nat.lt_trichotomy i j with h1 | h1 | h1
    · have := hp.lo i x h1 hix; omega
    · subst h1; exact h ⟨x, hix, he⟩
    · have hjl : j < l.length := by omega
      have h2 := hp.hi j l[j] (Nat.le_refl _) (List.getElem?_eq_getElem hjl)
      have h3 := ha j i l[j] x h1 (List.getElem?_eq_getElem hjl) hix
      omega
theorem kO_any_ {w w1 : World} {base base1 : Nat} {ok ok1 : Nat → Prop} {x : Od} {cs : List Value} (h : kO.M w base ok x cs) : kO.M w1 base1 ok1 x cs := by
  obtain rfl := k37_openM h
  exact k37_mkM _ _ _ x
set_option maxHeartbeats 8000000 in
set_option maxRecDepth 100000 in
theorem aapply_set (ep k m p d : Int) (A : Option Addr) (c : Nat) (l : List Od) (kd : Int) (o : Od) (w : World) (hx : kO.C w A l.length l) (hwf : WfL l) (hk : knownB kd = true) (hmay : mayB ep k m p d l = true) (hmc : mayC kd o = true) (hep : (ep == 1048576) = false) (he0 : 0 ≤ ep) (he1 : ep ≤ 1048576) :
    Calls Try.prog 13 #[.agg (boxM ep k m p d A c l), .agg (chA kd o)] w fun e w' => ∃ (er : Int) (l' : List Od), ((findO l o.f0 = none ∧ er = 4) ∨ ∃ (j : Nat) (q : Od), l[j]? = some q ∧ findO l o.f0 = some q ∧ ((eqO (chg kd q o) q = true ∧ er = 6) ∨ (eqO (chg kd q o) q = false ∧ er = 0 ∧ l' = l.set j (chg kd q o)))) ∧ Below w.heap.size w w' ∧ ((er ≠ 0 ∧ e = .returned (.tuple #[.agg zM, .int .i64 er])) ∨ (er = 0 ∧ ∃ (A' : Option Addr) (c' : Nat), e = .returned (.tuple #[.agg (boxM (ep + 1) k m p d A' c' l'), .int .i64 0]) ∧ kO.R 37 w' w.heap.size (fun _ => True) (.slice A' l'.length c') l')) := by
  have hn := hmc
  have hl64 := (may_good hmay).1
  have HASC := Lib.hid (asc2_may hmay)
  have HX0 := Lib.hid hx
  have hs1 : (w.alloc (.cells (boxM ep k m p d A c l) 28)).heap.size = w.heap.size + 1 := by simp only [World.alloc, Array.size_push]
  have hs2 : ((w.alloc (.cells (boxM ep k m p d A c l) 28)).alloc (.cells (chA kd o) 39)).heap.size = w.heap.size + 2 := by simp only [World.alloc, Array.size_push]
  have hs3 : (((w.alloc (.cells (boxM ep k m p d A c l) 28)).alloc (.cells (chA kd o) 39)).alloc (.cells zM 28)).heap.size = w.heap.size + 3 := by simp only [World.alloc, Array.size_push]
  have HM1 : Hid ((((w.alloc (.cells (boxM ep k m p d A c l) 28)).alloc (.cells (chA kd o) 39)).alloc (.cells zM 28)).heap[w.heap.size]? = some (.cells (boxM ep k m p d A c l) 28 (0, 0))) := Lib.hid (blk_below (blk_new _ _) (below_alloc (below_alloc (Below.refl _ _) _) _))
  have HG1 : Hid ((((w.alloc (.cells (boxM ep k m p d A c l) 28)).alloc (.cells (chA kd o) 39)).alloc (.cells zM 28)).heap[w.heap.size + 1]? = some (.cells (chA kd o) 39 (0, 0))) := Lib.hid (by
    have h := blk_new (w.alloc (.cells (boxM ep k m p d A c l) 28)) (.cells (chA kd o) 39)
    rw [hs1] at h
    exact blk_below h (below_alloc (Below.refl _ _) _))
  have HR1 : Hid ((((w.alloc (.cells (boxM ep k m p d A c l) 28)).alloc (.cells (chA kd o) 39)).alloc (.cells zM 28)).heap[w.heap.size + 2]? = some (.cells zM 28 (0, 0))) := Lib.hid (by
    have h := blk_new ((w.alloc (.cells (boxM ep k m p d A c l) 28)).alloc (.cells (chA kd o) 39)) (.cells zM 28)
    rw [hs2] at h
    exact h)
  have HB1 := Lib.hid (below_alloc (below_alloc (below_alloc (Below.refl w.heap.size w) (.cells (boxM ep k m p d A c l) 28)) (.cells (chA kd o) 39)) (.cells zM 28))
  have HC1 := Lib.hid (Kd.C_below hx HB1.out)
  obtain ⟨w1, hw1⟩ : ∃ w1, w1 = (((w.alloc (.cells (boxM ep k m p d A c l) 28)).alloc (.cells (chA kd o) 39)).alloc (.cells zM 28)) := ⟨_, rfl⟩
  have HWN := Lib.hid hw1
  rw [← hw1] at HM1 HG1 HR1 HB1 HC1 hs3
  have HSZ := Lib.hid hs3
  have TM := Lib.hid (check_calls ep k m p d A c l w1 HC1.out hwf)
  obtain ⟨mb, hmb⟩ : ∃ mb, mb = mayB ep k m p d l := ⟨_, rfl⟩
  obtain ⟨cb, hcb⟩ : ∃ cb, cb = mayC kd o := ⟨_, rfl⟩
  rw [← hmb] at TM
  have TC := Lib.hid (fun w1 => checkc_calls kd o w1)
  rw [← hcb] at TC
  have HN := Lib.hid hn
  obtain rfl : mb = true := by rw [hmb]; exact hmay
  obtain rfl : cb = true := by rw [hcb]; exact hmc
  have HK := Lib.hid hk
  have HFY0 := find_yes hk
  obtain ⟨fi, hfi⟩ := HFY0
  have HFY := Lib.hid hfi
  have HL64 := Lib.hid hl64
  have h1 : (kd == 1) = false := by have := known_cases hk; simp; omega
  have h2 : decide (kd = 1) = false := by have := known_cases hk; exact decide_eq_false (by omega)
  have he : (ep == 1048576) = false := hep
  have he2 : decide (ep = 1048576) = false := by simpa using hep
  have HE0 := Lib.hid he0
  have HE1 : Hid (ep < 1048576) := Lib.hid (by have : ep ≠ 1048576 := by simpa using hep
                                               omega)
  clear hx hwf hn hmb hcb hw1 hs1 hs2 hs3 hmay hmc hk hfi hep he0 he1 hl64
  have TPL := Lib.hid (fun W hW => aplace_calls ep k m p d A c l o.f0 W hW HL64.out HASC.out)
  unfold boxM chA at *
  go_enter Try.func13, Try.ntmps13
  go_wp2_with fail
  rw [← HWN.out]
  refine TM.out.mono ?_
  rintro e w2 ⟨rfl, hb⟩
  have HS1 : Hid (w.heap.size + 3 ≤ w1.heap.size) := Lib.hid (by have := HSZ.out; omega)
  have HB2 := Lib.hid (below_then HB1.out HB1.out.size hb)
  have HM2 := Lib.hid (blk_below HM1.out hb)
  have HG2 := Lib.hid (blk_below HG1.out hb)
  have HR2 := Lib.hid (blk_below HR1.out hb)
  have HC2 := Lib.hid (Kd.C_below HC1.out hb)
  have HS2 : Hid (w.heap.size + 3 ≤ w2.heap.size) := Lib.hid (Nat.le_trans HS1.out hb.size)
  clear hb HB1 HM1 HG1 HR1 HC1 HS1
  clear TM HWN HSZ
  simp only [if_true, if_false, Bool.false_eq_true]
  have c0 := blk_cell HG2.out 0
  have c1 := blk_cell HG2.out 1
  have c2 := blk_cell HG2.out 2
  have c3 := blk_cell HG2.out 3
  have c4 := blk_cell HG2.out 4
  have c5 := blk_cell HG2.out 5
  have c6 := blk_cell HG2.out 6
  have c7 := blk_cell HG2.out 7
  have c8 := blk_cell HG2.out 8
  go_wp2_with fail
  refine (TC.out _).mono ?_
  rintro e w3 ⟨rfl, hb⟩
  have HB3 := Lib.hid (below_then HB2.out HB2.out.size hb)
  have HM3 := Lib.hid (blk_below HM2.out hb)
  have HG3 := Lib.hid (blk_below HG2.out hb)
  have HR3 := Lib.hid (blk_below HR2.out hb)
  have HC3 := Lib.hid (Kd.C_below HC2.out hb)
  have HS3 : Hid (w.heap.size + 3 ≤ w3.heap.size) := Lib.hid (Nat.le_trans HS2.out hb.size)
  clear hb HB2 HM2 HG2 HR2 HC2 HS2
  clear TC c0 c1 c2 c3 c4 c5 c6 c7 c8
  simp only [if_true, if_false, Bool.false_eq_true]
  have m0 := blk_cell HM3.out 0
  have m1 := blk_cell HM3.out 1
  have m2 := blk_cell HM3.out 2
  have m3 := blk_cell HM3.out 3
  have m4 := blk_cell HM3.out 4
  have m5 := blk_cell HM3.out 5
  have c0 := blk_cell HG3.out 0
  have c1 := blk_cell HG3.out 1
  have c2 := blk_cell HG3.out 2
  have c3 := blk_cell HG3.out 3
  have c4 := blk_cell HG3.out 4
  have c5 := blk_cell HG3.out 5
  have c6 := blk_cell HG3.out 6
  have c7 := blk_cell HG3.out 7
  have c8 := blk_cell HG3.out 8
  go_wp2_with fail
  refine (TPL.out _ HC3.out).mono ?_
  rintro e w4 ⟨j, hp, rfl, hb⟩
  have HP := Lib.hid hp
  have HB4 := Lib.hid (below_then HB3.out HB3.out.size hb)
  have HM4 := Lib.hid (blk_below HM3.out hb)
  have HG4 := Lib.hid (blk_below HG3.out hb)
  have HR4 := Lib.hid (blk_below HR3.out hb)
  have HC4 := Lib.hid (Kd.C_below HC3.out hb)
  have HS4 : Hid (w.heap.size + 3 ≤ w4.heap.size) := Lib.hid (Nat.le_trans HS3.out hb.size)
  clear hb HB3 HM3 HG3 HR3 HC3 HS3
  clear hp TPL m0 m1 m2 m3 m4 m5 c0 c1 c2 c3 c4 c5 c6 c7 c8
  rcases pos_find HASC.out HP.out with ⟨hf, hd⟩ | ⟨q, hq, hf, hd⟩
  · rw [hd]
    have HF0 := Lib.hid hf
    clear hf hd
    go_wp2_with (first | (refine gate_ (.store 28 (.tmp 4) (.tmp 41)) rfl ?_; go_must (refine Stb.store_list rfl rfl 28 (.tmp 4) (.tmp 41) rfl (cur' := zM) [.int .i64 0, .int .i64 0, .int .i64 0, .int .i64 0, .int .i64 0, .slice none 0 0] (by exact HR4.out) (by rfl) (by rfl) (by rfl) (by kernel_rfl) (Nat.le_of_ble_eq_true rfl) (by rfl) (by rfl) ?_; intro wf hz_ hg_ hs_; have HF := Lib.hid hz_; have HBF := Lib.hid (Stb.below_grown1 HB4.out hg_ (Nat.le_add_right _ 2) HB4.out.size); clear hz_ hg_ hs_)))
    refine bodyPost_ret (results_ct rfl _ _ (w.heap.size + 2) 28 zM (0, 0) _ rfl HF.out Try.underlying28 rfl (by kernel_rfl)) rfl ?_
    exact ⟨4, [], .inl ⟨HF0.out, rfl⟩, HBF.out, .inl ⟨by decide, rfl⟩⟩
  rw [hd]
  have HQ := Lib.hid hq
  have HF0 := Lib.hid hf
  have HJL : Hid (j < l.length) := Lib.hid (List.getElem?_eq_some_iff.1 hq).1
  clear hq hf hd
  have m5 := blk_cell HM4.out 5
  go_wp2_with fail
  refine (clone_calls A c l _ HC4.out HL64.out).mono ?_
  rintro e w5 ⟨v, rfl, hr, hb⟩
  obtain ⟨g, cap, rfl, hgb, _⟩ := Kd.R_form hr (Nat.lt_of_le_of_lt (Nat.zero_le _) HJL.out)
  have HRW := Lib.hid (Kd.R_lower hr HB4.out.size)
  have HGB : Hid (w.heap.size + 3 ≤ g) := Lib.hid (Nat.le_trans HS4.out hgb)
  have HB5 := Lib.hid (below_then HB4.out HB4.out.size hb)
  have HM5 := Lib.hid (blk_below HM4.out hb)
  have HG5 := Lib.hid (blk_below HG4.out hb)
  have HR5 := Lib.hid (blk_below HR4.out hb)
  have HC5 := Lib.hid (Kd.C_below HC4.out hb)
  have HS5 : Hid (w.heap.size + 3 ≤ w5.heap.size) := Lib.hid (Nat.le_trans HS4.out hb.size)
  clear hb HB4 HM4 HG4 HR4 HC4 HS4
  clear hr hgb m5
  have HRO : Hid (kO.R 37 w5 w.heap.size (fun k => k ≠ w.heap.size ∧ k ≠ w.heap.size + 2) (.slice (some ⟨g, 0, none⟩) l.length cap) l) := Lib.hid ⟨fun k hk => by have := HGB.out; injection hk with hk; have hk2 : g = k := hk; exact ⟨by omega, by omega⟩, HRW.out.2.imp_ (fun _ _ hp => kO_any_ hp)⟩
  clear HRW
  go_upto_region 9 with (first | (refine gate_ (.store 26 (.tmp 45) (.tmp 44)) rfl ?_; go_must (refine Stb.store_list rfl rfl 26 (.tmp 45) (.tmp 44) rfl (cur' := #[.int .i64 ep, .int .i64 k, .int .i64 m, .int .i64 p, .int .i64 d, .slice (some ⟨g, 0, none⟩) l.length cap]) [.slice (some ⟨g, 0, none⟩) l.length cap] (by exact HM5.out) (by rfl) (by rfl) (by rfl) (by kernel_rfl) (Nat.le_of_ble_eq_true rfl) (by rfl) (by rfl) ?_; intro w6 hz_ hg_ hs_; have HM6 := Lib.hid hz_; have HG6 := Lib.hid (blk_grown HG5.out hg_ (fun e => by injection e with e; omega)); have HR6 := Lib.hid (blk_grown HR5.out hg_ (fun e => by injection e with e; omega)); have HB6 := Lib.hid (Stb.below_grown1 HB5.out hg_ (Nat.le_refl _) HB5.out.size); have HRW6 := Lib.hid (Kd.R_grown HRO.out hg_ (fun k hk e => hk.1 (Option.some.inj e))); have HS6 : Hid (w.heap.size + 3 ≤ w6.heap.size) := Lib.hid (by rw [hs_]; exact HS5.out); clear hz_ hg_ hs_)))
  have HW6 : Hid (Row w6 w.heap.size (fun k => k ≠ w.heap.size ∧ k ≠ w.heap.size + 2) g cap l j q) := Lib.hid ⟨HRW6.out, HQ.out⟩
  have HBS := Lib.hid HB6.out.size
  have m5 := blk_cell HM6.out 5
  have c0 := blk_cell HG6.out 0
  have c1 := blk_cell HG6.out 1
  have c2 := blk_cell HG6.out 2
  have c3 := blk_cell HG6.out 3
  have c4 := blk_cell HG6.out 4
  have c5 := blk_cell HG6.out 5
  have c6 := blk_cell HG6.out 6
  have c7 := blk_cell HG6.out 7
  have c8 := blk_cell HG6.out 8
  have hjI : (j : Int) < l.length := by have := HJL.out; omega
  have hj0 : (0 : Int) ≤ j := by omega
  have hjN : decide (j < l.length) = true := decide_eq_true HJL.out
  refine start_ (n := 13) (S := fun w' => Below w6.heap.size w6 w') (ds := [11]) #[false, false, false, false, false, false, false, false, false, false, false, false, false] (by kernel_rfl) rfl rfl (below_drew (Below.refl _ _)) (fun hHeld => ?_)
  have HBd := Lib.hid (below_drew (Below.refl w6.heap.size w6))
  generalize w6.drew = wd at HBd hHeld ⊢
  refine pure_ (i := 1) (N := some 47) (v := ?_) (a' := ?_) #[false, true, false, false, false, false, false, false, false, false, false, false, false] rfl rfl (by kernel_rfl) (fun _ _ _ h => h) (Or.inl ⟨by rfl, ?_⟩) ?_ ?_
  rotate_left
  · intro w'
    go_simp
    with_reducible rfl
  rotate_left
  · simp only [Act.put, List.setIfInBounds_toArray, List.set_cons_zero, List.set_cons_succ, i64_w, i32_w]
    rfl
  refine take_ (i := 2) (N := some 48) (v := ?_) (a' := ?_) #[false, true, true, false, false, false, false, false, false, false, false, false, false] rfl rfl (by kernel_rfl) (fun _ _ _ h => h) (Or.inl ⟨by rfl, ?_⟩) hHeld ?_ ?_
  rotate_left
  · rintro w' hS
    have x0 := pw_cell_below hS c0
    go_simp
    with_reducible rfl
  rotate_left
  · simp only [Act.put, List.setIfInBounds_toArray, List.set_cons_zero, List.set_cons_succ, i64_w, i32_w]
    rfl
  refine pure_ (i := 5) (N := some 51) (v := ?_) (a' := ?_) #[false, true, true, false, false, true, false, false, false, false, false, false, false] rfl rfl (by kernel_rfl) (fun _ _ _ h => h) (Or.inl ⟨by rfl, ?_⟩) ?_ ?_
  rotate_left
  · intro w'
    go_simp
    with_reducible rfl
  rotate_left
  · simp only [Act.put, List.setIfInBounds_toArray, List.set_cons_zero, List.set_cons_succ, i64_w, i32_w]
    rfl
  refine take_ (i := 6) (N := some 52) (v := ?_) (a' := ?_) #[false, true, true, false, false, true, true, false, false, false, false, false, false] rfl rfl (by kernel_rfl) (fun _ _ _ h => h) (Or.inl ⟨by rfl, ?_⟩) hHeld ?_ ?_
  rotate_left
  · rintro w' hS
    have x5 := pw_cell_below hS m5
    go_simp
    with_reducible rfl
  rotate_left
  · simp only [Act.put, List.setIfInBounds_toArray, List.set_cons_zero, List.set_cons_succ, i64_w, i32_w]
    rfl
  refine pure_ (i := 7) (N := some 53) (v := ?_) (a' := ?_) #[false, true, true, false, false, true, true, true, false, false, false, false, false] rfl rfl (by kernel_rfl) (fun _ _ _ h => h) (Or.inl ⟨by rfl, ?_⟩) ?_ ?_
  rotate_left
  · intro w'
    go_simp
    with_reducible rfl
  rotate_left
  · simp only [Act.put, List.setIfInBounds_toArray, List.set_cons_zero, List.set_cons_succ, i64_w, i32_w]
    rfl
  refine pure_ (i := 8) (N := some 54) (v := ?_) (a' := ?_) #[false, true, true, false, false, true, true, true, true, false, false, false, false] rfl rfl (by kernel_rfl) (fun _ _ _ h => h) (Or.inl ⟨by rfl, ?_⟩) ?_ ?_
  rotate_left
  · intro w'
    go_simp
    with_reducible rfl
  rotate_left
  · simp only [Act.put, List.setIfInBounds_toArray, List.set_cons_zero, List.set_cons_succ, i64_w, i32_w]
    rfl
  refine pure_ (i := 9) (N := some 55) (v := ?_) (a' := ?_) #[false, true, true, false, false, true, true, true, true, true, false, false, false] rfl rfl (by kernel_rfl) (fun _ _ _ h => h) (Or.inl ⟨by rfl, ?_⟩) ?_ ?_
  rotate_left
  · intro w'
    go_simp
    with_reducible rfl
  rotate_left
  · simp only [Act.put, List.setIfInBounds_toArray, List.set_cons_zero, List.set_cons_succ, i64_w, i32_w]
    rfl
  refine take_ (i := 10) (N := some 56) (v := ?_) (a' := ?_) #[false, true, true, false, false, true, true, true, true, true, true, false, false] rfl rfl (by kernel_rfl) (fun _ _ _ h => h) (Or.inl ⟨by rfl, ?_⟩) hHeld ?_ ?_
  rotate_left
  · rintro w' hS
    have x1 := pw_cell_below hS c1
    have x2 := pw_cell_below hS c2
    have x3 := pw_cell_below hS c3
    have x4 := pw_cell_below hS c4
    have x5 := pw_cell_below hS c5
    have x6 := pw_cell_below hS c6
    have x7 := pw_cell_below hS c7
    have x8 := pw_cell_below hS c8
    go_simp
    with_reducible rfl
  rotate_left
  · simp only [Act.put, List.setIfInBounds_toArray, List.set_cons_zero, List.set_cons_succ, i64_w, i32_w]
    rfl
  refine one_ (i := 0) (N := some 46) #[true, true, true, false, false, true, true, true, true, true, true, false, false] rfl rfl (by kernel_rfl) (by decide) (fun K hK => ?_)
  refine goes_ Try.func34 (by kernel_rfl) rfl #[] (by rfl) rfl rfl (by (try simp only [List.map_toArray, List.map_cons, List.map_nil]); first | done | rfl | (go_simp; done) | (go_simp; rfl)) ?_
  refine (kinds_calls _).mono ?_
  rintro e w7 ⟨gk, rfl, hgk, hmk, hbk⟩
  refine ⟨_, rfl, ?_⟩
  refine hK.out _ _ (below_then HBd.out HBd.out.size hbk) (fun hHeld => ?_)
  clear hK K
  refine norm_ (a' := ?_) ?_ ?_
  rotate_left
  · show Act.put _ (some 46) _ = _
    simp only [Act.put, List.setIfInBounds_toArray, List.set_cons_zero, List.set_cons_succ, i64_w, i32_w]
    rfl
  have HB7 := Lib.hid hHeld
  have HMK := Lib.hid hmk
  refine one_ (i := 3) (N := some 49) #[true, true, true, true, false, true, true, true, true, true, true, false, false] rfl rfl (by kernel_rfl) (by decide) (fun K hK => ?_)
  refine value_ (w1 := _) (v := kindV kd) (by rfl) rfl (Mlt.lookup_ev rfl (by rfl) (by rfl) (Mlt.lookup_yes (k := kd) false Try.underlying70 Try.underlying3 HMK.out HFY.out)) ?_
  refine hK.out _ _ hHeld (fun hHeld => ?_)
  clear hK K
  refine norm_ (a' := ?_) ?_ ?_
  rotate_left
  · show Act.put _ (some 49) _ = _
    simp only [Act.put, List.setIfInBounds_toArray, List.set_cons_zero, List.set_cons_succ, i64_w, i32_w]
    rfl
  unfold kindV
  have hfk := field_kind (.func (mayF kd)) (.func (doF kd))
  refine pure_ (i := 4) (N := some 50) (v := ?_) (a' := ?_) #[true, true, true, true, true, true, true, true, true, true, true, false, false] rfl rfl (by kernel_rfl) (fun _ _ _ h => h) (Or.inl ⟨by rfl, ?_⟩) ?_ ?_
  rotate_left
  · intro w'
    go_simp
    with_reducible rfl
  rotate_left
  · simp only [Act.put, List.setIfInBounds_toArray, List.set_cons_zero, List.set_cons_succ, i64_w, i32_w]
    rfl
  refine last_ (i := 11) (N := some 57) #[true, true, true, true, true, true, true, true, true, true, true, true, false] rfl rfl (by kernel_rfl) (by decide) (fun K hK => ?_)
  refine call_ (doF kd) #[.pointer (some ⟨g, j * 8, none⟩), .agg (aggO o)] (by rfl) rfl ?_ ?_
  · have hef := enters_do HK.out
    first | (go_simp; done) | (go_simp; rfl)
  refine (do_calls HK.out o w7 ⟨Kd.R_below HW6.out.own HB7.out, HW6.out.at_⟩ (Nat.le_trans HBS.out HB7.out.size)).mono ?_
  rintro e w8 ⟨rfl, hr, hg⟩
  refine ⟨_, rfl, ?_⟩
  have HW8 := Lib.hid hr
  have HG8_ := Lib.hid hg
  clear hr hg
  refine hK.out _ _ ?_
  clear hK K
  refine norm_ (a' := ?_) ?_ ?_
  rotate_left
  · show Act.put _ (some 57) _ = _
    simp only [Act.put, List.setIfInBounds_toArray, List.set_cons_zero, List.set_cons_succ, i64_w, i32_w]
    rfl
  refine pure_ (i := 12) (N := some 58) (v := ?_) (a' := ?_) #[true, true, true, true, true, true, true, true, true, true, true, true, true] rfl rfl (by kernel_rfl) (fun _ _ _ h => h) (Or.inl ⟨by rfl, ?_⟩) ?_ ?_
  rotate_left
  · intro w'
    go_simp
    with_reducible rfl
  rotate_left
  · simp only [Act.put, List.setIfInBounds_toArray, List.set_cons_zero, List.set_cons_succ, i64_w, i32_w]
    rfl
  refine done_ (by kernel_rfl) ?_
  clear m5 c0 c1 c2 c3 c4 c5 c6 c7 c8 hjI hj0 hjN hfk
  have HB8 : Hid (Below w.heap.size w w8) := Lib.hid (Stb.below_grown1 (below_then HB6.out HB6.out.size HB7.out) HG8_.out (by have := HGB.out; omega) (Nat.le_trans HB6.out.size HB7.out.size))
  have HM8 := Lib.hid (blk_grown (blk_below HM6.out HB7.out) HG8_.out (fun e => by injection e with e; have := HGB.out; omega))
  have HR8 := Lib.hid (blk_grown (blk_below HR6.out HB7.out) HG8_.out (fun e => by injection e with e; have := HGB.out; omega))
  obtain ⟨b, hbb⟩ : ∃ b, b = eqO (chg kd q o) q := ⟨_, rfl⟩
  have HBB := Lib.hid hbb
  simp only [← hbb]
  clear hbb
  cases b with
  | true =>
    go_wp2_with (first | (refine gate_ (.store 28 (.tmp 4) (.tmp 59)) rfl ?_; go_must (refine Stb.store_list rfl rfl 28 (.tmp 4) (.tmp 59) rfl (cur' := zM) [.int .i64 0, .int .i64 0, .int .i64 0, .int .i64 0, .int .i64 0, .slice none 0 0] (by exact HR8.out) (by rfl) (by rfl) (by rfl) (by kernel_rfl) (Nat.le_of_ble_eq_true rfl) (by rfl) (by rfl) ?_; intro wf hz_ hg_ hs_; have HF := Lib.hid hz_; have HBF := Lib.hid (Stb.below_grown1 HB8.out hg_ (Nat.le_add_right _ 2) HB8.out.size); clear hz_ hg_ hs_)))
    refine bodyPost_ret (results_ct rfl _ _ (w.heap.size + 2) 28 zM (0, 0) _ rfl HF.out Try.underlying28 rfl (by kernel_rfl)) rfl ?_
    exact ⟨6, [], .inr ⟨j, q, HQ.out, HF0.out, .inl ⟨HBB.out.symm, rfl⟩⟩, HBF.out, .inl ⟨by decide, rfl⟩⟩
  | false =>
    have he3 : 0 ≤ ep := HE0.out
    have he4 : ep < 1048576 := HE1.out
    have m0 := blk_cell HM8.out 0
    go_wp2_with (first | (refine gate_ (.store 3 (.tmp 63) (.tmp 62)) rfl ?_; go_must (refine Stb.store_list rfl rfl 3 (.tmp 63) (.tmp 62) rfl (cur' := #[.int .i64 (ep + 1), .int .i64 k, .int .i64 m, .int .i64 p, .int .i64 d, .slice (some ⟨g, 0, none⟩) l.length cap]) [.int .i64 (ep + 1)] (by exact HM8.out) (by rfl) (by rfl) (by rfl) (by kernel_rfl) (Nat.le_of_ble_eq_true rfl) (by rfl) (by rfl) ?_; intro w9 hz_ hg_ hs_; have HM9 := Lib.hid hz_; have HR9 := Lib.hid (blk_grown HR8.out hg_ (fun e => by injection e with e; omega)); have HB9 := Lib.hid (Stb.below_grown1 HB8.out hg_ (Nat.le_refl _) HB8.out.size); have HW9 := Lib.hid (Kd.R_grown HW8.out.own hg_ (fun k hk e => hk.1 (Option.some.inj e))); have m0 := blk_cell HM9.out 0; have m1 := blk_cell HM9.out 1; have m2 := blk_cell HM9.out 2; have m3 := blk_cell HM9.out 3; have m4 := blk_cell HM9.out 4; have m5 := blk_cell HM9.out 5; clear hz_ hg_ hs_)) | (refine gate_ (.store 28 (.tmp 4) (.tmp 64)) rfl ?_; go_must (refine Stb.store_list rfl rfl 28 (.tmp 4) (.tmp 64) rfl (cur' := #[.int .i64 (ep + 1), .int .i64 k, .int .i64 m, .int .i64 p, .int .i64 d, .slice (some ⟨g, 0, none⟩) l.length cap]) [.int .i64 (ep + 1), .int .i64 k, .int .i64 m, .int .i64 p, .int .i64 d, .slice (some ⟨g, 0, none⟩) l.length cap] (by exact HR9.out) (by rfl) (by rfl) (by rfl) (by kernel_rfl) (Nat.le_of_ble_eq_true rfl) (by rfl) (by rfl) ?_; intro wf hz_ hg_ hs_; have HF := Lib.hid hz_; have HBF := Lib.hid (Stb.below_grown1 HB9.out hg_ (Nat.le_add_right _ 2) HB9.out.size); have HWF := Lib.hid (Kd.R_grown HW9.out hg_ (fun k hk e => hk.2 (Option.some.inj e))); clear hz_ hg_ hs_)))
    refine bodyPost_ret (results_ct rfl _ _ (w.heap.size + 2) 28 #[.int .i64 (ep + 1), .int .i64 k, .int .i64 m, .int .i64 p, .int .i64 d, .slice (some ⟨g, 0, none⟩) l.length cap] (0, 0) _ rfl HF.out Try.underlying28 rfl (by kernel_rfl)) rfl ?_
    exact ⟨0, l.set j (chg kd q o), .inr ⟨j, q, HQ.out, HF0.out, .inr ⟨HBB.out.symm, rfl, rfl⟩⟩, HBF.out, .inr ⟨rfl, some ⟨g, 0, none⟩, cap, by rw [List.length_set]; rfl, Kd.R_mono HWF.out (fun _ _ => trivial)⟩⟩
end Go.Proofs.Ytfikaekocgofoaa.AtP
/- One OSD more in its place: slices.Insert. -/
set_option linter.unusedSimpArgs false
namespace Go.Proofs.Ytfikaekocgofoaa.Ins
open Go Go.RowKit Go.Proofs.YtfikaekocgofoaaW.PrintWords Go.Proofs.YtfikaekocgofoaaW.PrintLast Go.Proofs.YtfikaekocgofoaaW.PrintMore Mem PAll KW AtA AtB Sl Dsc MayP ApP Fnd PlF Roo Awk McW ApY ApZ ApW AtK AtV AtX AtD AtC AtP
open CrP hiding Od
theorem run_copy_k {P : Program} (w : World) (dT sT ty elem : TypeId) (b o dLen dCap : Nat) (a : Addr) (sLen sCap : Nat) (cs : List Value) (k n : Nat)
    (hu : P.underlying dT = some (.slice elem)) (hs : (P.info? elem).map (·.size) = some k) (hn : n = Nat.min sLen dLen) (hcl : cs.length = n * k)
    (hsrc : ∀ j v, cs[j]? = some v → w.cell? (a.add j) = some v) (hc : ∀ j, j < cs.length → (w.cell? ⟨b, o + j, none⟩).isSome = true) (hf : ∀ j, j < cs.length → w.frozen? ⟨b, o + j, none⟩ = false) (h1 : ∀ v ∈ cs, v.oneCell' = true) :
    (Builtin.copy_ #[dT, sT] ty #[.slice (some ⟨b, o, none⟩) dLen dCap, .slice (some a) sLen sCap]).run P w = .ok (goInt n) (w.setCells b o cs) := by
  have hl := run_loadCells_list (P := P) w a cs hsrc
  have hst := run_storeCells_cells (P := P) b o cs 0 w (by simpa using hc) (by simpa using hf) h1
  cases hq : P.info? elem with
  | none => simp [hq] at hs
  | some i =>
    have hi : i.size = k := by simpa [hq] using hs
    rw [hcl] at hl
    simp [Builtin.copy_, run_underlying hu, Builtin.lenOf, Builtin.firstCells, sizeOf, typeInfo, hq, hi, ← hn, hl, hst]
def flatO (l : List Od) : List Value := l.flatMap fun o => (aggO o).toList
theorem flatO_len : ∀ l : List Od, (flatO l).length = l.length * 8
  | [] => rfl
  | a :: r => by
    have := flatO_len r
    show ((aggO a).toList ++ flatO r).length = _
    rw [List.length_append, this]
    show 8 + r.length * 8 = (r.length + 1) * 8
    omega
theorem flatO_append (a b : List Od) : flatO (a ++ b) = flatO a ++ flatO b := List.flatMap_append
theorem flatO_cons (a : Od) (r : List Od) : flatO (a :: r) = (aggO a).toList ++ flatO r := rfl
theorem flatO_drop : ∀ (l : List Od) (j : Nat), (flatO l).drop (j * 8) = flatO (l.drop j)
  | [], j => by simp [flatO]
  | a :: r, 0 => by simp
  | a :: r, j + 1 => by
    rw [List.drop_succ_cons, ← flatO_drop r j, flatO_cons, show (j + 1) * 8 = (aggO a).toList.length + j * 8 by show _ = 8 + _; omega, List.drop_append]
    simp
theorem flatO_take : ∀ (l : List Od) (j : Nat), (flatO l).take (j * 8) = flatO (l.take j)
  | [], j => by simp [flatO]
  | a :: r, 0 => by simp [flatO]
  | a :: r, j + 1 => by
    rw [List.take_succ_cons, flatO_cons, flatO_cons, ← flatO_take r j, show (j + 1) * 8 = (aggO a).toList.length + j * 8 by show _ = 8 + _; omega, List.take_append, List.take_of_length_le (Nat.le_add_right _ _), Nat.add_sub_cancel_left]
theorem flatO_one (l : List Od) : ∀ v ∈ flatO l, v.oneCell' = true := by
  intro v hv
  obtain ⟨o, _, ho⟩ := List.mem_flatMap.1 hv
  simp only [List.mem_cons, List.not_mem_nil, or_false] at ho
  rcases ho with rfl | rfl | rfl | rfl | rfl | rfl | rfl | rfl <;> rfl
theorem reps_flat {w : World} {base : Nat} {ok : Nat → Prop} (l : List Od) : Reps (kO.M w base ok) kO.sz l (flatO l) := by
  refine ⟨flatO_len l, fun j o hj => ?_⟩
  have hjl := (List.getElem?_eq_some_iff.1 hj).1
  have e : ((flatO l).drop (j * 8)).take 8 = (aggO o).toList := by
    rw [flatO_drop, List.drop_eq_getElem_cons hjl, flatO_cons]
    have h2 : l[j] = o := by rw [List.getElem?_eq_getElem hjl] at hj; exact Option.some.inj hj
    rw [h2]
    rfl
  show kO.M w base ok o (((flatO l).drop (j * 8)).take 8)
  rw [e]
  exact k37_mkM _ _ _ o
theorem flat_of {w : World} {base : Nat} {ok : Nat → Prop} {l : List Od} {inner : List Value} (h : Reps (kO.M w base ok) kO.sz l inner) : inner = flatO l := by
  have key : ∀ (l : List Od) (inner : List Value), Reps (kO.M w base ok) kO.sz l inner → inner = flatO l := by
    intro l
    induction l with
    | nil => intro inner h; have := h.1; exact List.eq_nil_of_length_eq_zero (by simpa using this)
    | cons a r ih =>
      intro inner h
      have hl : inner.length = (r.length + 1) * 8 := h.1
      have h0 := h.2 0 a rfl
      have e0 : inner.take 8 = (aggO a).toList := by
        have h1 : kO.M w base ok a ((inner.drop (0 * 8)).take 8) := h0
        rw [Nat.zero_mul, List.drop_zero] at h1
        exact k37_openM h1
      have hr := ih (inner.drop 8) ⟨by rw [List.length_drop, hl]; show _ = r.length * 8; omega, fun j p hj => by
        have h2 : kO.M w base ok p ((inner.drop ((j + 1) * 8)).take 8) := h.2 (j + 1) p hj
        show kO.M w base ok p (((inner.drop 8).drop (j * 8)).take 8)
        rw [List.drop_drop, show 8 + j * 8 = (j + 1) * 8 by omega]
        exact h2⟩
      rw [flatO_cons, ← e0, ← hr, List.take_append_drop]
  exact key l inner h
/-- A row known by its cells. -/
theorem R_flat {w : World} {base : Nat} {ok : Nat → Prop} {g n cap : Nat} {cur : Array Value} {l : List Od} (hh : w.heap[g]? = some (.cells cur 37 (0, 0))) (hb : base ≤ g) (hn : n = l.length) (hnc : n ≤ cap) (hm : cap ≤ 9223372036854775807) (hcs : cur.size = cap * 8) (ht : cur.toList.take (n * 8) = flatO l) (hok : ok g) : kO.R 37 w base ok (.slice (some ⟨g, 0, none⟩) n cap) l := by
  subst hn
  exact ⟨fun k hk => by injection hk with hk; subst hk; exact hok, flatO l, ⟨flatO_len l, .inr ⟨g, cap, cur, rfl, hb, hh, hnc, hm, hcs, ht⟩⟩, reps_flat l⟩
theorem flat_R {w : World} {base : Nat} {ok : Nat → Prop} {g n cap : Nat} {l : List Od} (h : kO.R 37 w base ok (.slice (some ⟨g, 0, none⟩) n cap) l) : ∃ cur : Array Value, w.heap[g]? = some (.cells cur 37 (0, 0)) ∧ base ≤ g ∧ n ≤ cap ∧ cap ≤ 9223372036854775807 ∧ cur.size = cap * 8 ∧ cur.toList.take (n * 8) = flatO l := by
  have hnl := (Kd.R_reads' h).1
  obtain ⟨_, inner, ⟨hl, h1 | ⟨g', cap', cur, hv, hb, hh, hnc, hcm, hcs, ht⟩⟩, hr⟩ := h
  · cases h1.1
  · injection hv with ha _ hc
    injection ha with ha
    injection ha with ha
    subst ha hc hnl
    refine ⟨cur, hh, hb, hnc, by unfold maxLen at hcm; exact hcm, hcs, ?_⟩
    rw [← flat_of hr]
    exact ht
theorem one_C {w : World} {g : Nat} {o : Od} (h : w.heap[g]? = some (.cells (aggO o) 37 (0, 0))) : kO.C w (some ⟨g, 0, none⟩) [o].length [o] := by
  refine ⟨rfl, by show 1 ≤ 9223372036854775807; decide, fun _ => ⟨_, rfl, fun j p hj => ?_⟩⟩
  match j, hj with
  | 0, hj =>
    obtain rfl := Option.some.inj hj
    refine ⟨_, rfl, k37_mkM w 0 (fun _ => True) _, fun i u hu => ?_⟩
    rw [add_plain, blk_cell h]
    match i, hu with
    | 0, hu => exact hu
    | 1, hu => exact hu
    | 2, hu => exact hu
    | 3, hu => exact hu
    | 4, hu => exact hu
    | 5, hu => exact hu
    | 6, hu => exact hu
    | 7, hu => exact hu
    | i + 8, hu => cases hu
  | j + 1, hj => cases hj
set_option maxHeartbeats 4000000 in
set_option maxRecDepth 100000 in
theorem ins_end {base : Nat} {l : List Od} (A : Option Addr) (c : Nat) (o : Od) (vb : Nat) (w : World) (HO : kO.R 37 w base (fun _ => True) (.slice A l.length c) l) (hv : w.heap[vb]? = some (.cells (aggO o) 37 (0, 0))) (hbase : base ≤ w.heap.size) (hl : l.length ≤ 63) :
    Calls Try.prog 54 #[.slice A l.length c, .int .i64 l.length, .slice (some ⟨vb, 0, none⟩) 1 1] w fun e w' => ∃ v, e = .returned v ∧ kO.R 37 w' base (fun _ => True) v (l ++ [o]) ∧ Below base w w' := by
  have HR := Lib.hid HO
  have HV := Lib.hid hv
  have HBS := Lib.hid hbase
  have HL := Lib.hid hl
  have hlc : l.length ≤ c := by have := (Kd.R_reads' HO).2.1; exact this
  have hl2 : l.length ≤ 63 := hl
  clear HO hv hbase hl
  go_enter Try.func54, Try.ntmps54
  go_wp2_with (first | (at_builtin; go_must (refine Kd.R_append_rows kO (w0 := w) base rfl _ _ 26 37 (.agg #[.int .i64 0, .bool false, .bool false, .int .i64 0, .int .i64 0, .int .i64 0, .int .i64 0, .int .i64 0]) 56 rfl Try.underlying26 infoO rfl (by decide) (by decide) _ l [o] (some ⟨vb, 0, none⟩) 1 1 (fun _ => True) (fun _ => False) rfl rfl HR.out (one_C HV.out) (fun y cs hk => by rw [k37_open hk]; exact k37_mkM _ _ _ y) (fun _ hk => hk.elim) (fun _ _ => trivial) (Below.refl _ _) HBS.out ?hl ?_; (case hl => have := HL.out; omega); intro v3 w3 ho hb hg hg2; have HO3 := Lib.hid ho; have HB3 := Lib.hid hb; clear ho hb hg hg2)))
  all_goals (go_ret; exact ⟨v3, rfl, HO3.out, HB3.out⟩)
theorem copy_ev {P : Program} {o : Oper} {a : Act} {w w' : World} {d x : Operand} {dT sT : TypeId} {v u r : Value} (ho : o.op = .call { callee := .builtin .copy, args := #[d, x], argTypes := #[dT, sT] }) (hd : a.eval d = v) (hx : a.eval x = u) (hr : (Builtin.copy_ #[dT, sT] o.type #[v, u]).run P w = .ok r w') : (execOp a.eval o).run P w = .ok (.value r) w' := by
  simp only [execOp, ho, resolve, invoke, builtin, Sem.run_bind, Sem.run_pure, Result.andThen_ok, List.map_toArray, List.map_cons, List.map_nil, hd, hx, hr]
theorem wpList_copy_k {P : Program} (w : World) {ops : Array Oper} {rest : List Oper} {o : Oper} {a : Act} {Q : Exit → Act → World → Prop} (hgd : o.guard = none) (d x : Operand) (dT sT : TypeId) (ho : o.op = .call { callee := .builtin .copy, args := #[d, x], argTypes := #[dT, sT] }) {v u r : Value} {w' : World} (hd : a.eval d = v) (hx : a.eval x = u)
    (hr : (Builtin.copy_ #[dT, sT] o.type #[v, u]).run P w = .ok r w') (h : wpList P ops Q rest (a.put o.dst r) w') : wpList P ops Q (o :: rest) a w := by
  refine wpList_plain hgd fun K hK => ?_
  unfold Oper.wp
  rw [copy_ev ho hd hx hr]
  exact hK _ _ h
theorem cells_shift {cur : List Value} {l : List Od} {i : Nat} (o : Od) (hi : i ≤ l.length) (ht : cur.take (i * 8) = flatO (l.take i)) (hlen : (l.length + 1) * 8 ≤ cur.length) (cur1 cur2 : List Value)
    (h1 : cur1 = cur.take ((i + 1) * 8) ++ flatO (l.drop i) ++ cur.drop ((i + 1) * 8 + (flatO (l.drop i)).length)) (h2 : cur2 = cur1.take (i * 8) ++ (aggO o).toList ++ cur1.drop (i * 8 + (aggO o).toList.length)) : cur2.take ((l.length + 1) * 8) = flatO (l.take i ++ o :: l.drop i) := by
  have e0 : (flatO (l.drop i)).length = (l.length - i) * 8 := by rw [flatO_len, List.length_drop]
  have e1 : cur1.take (i * 8) = flatO (l.take i) := by
    rw [h1, List.append_assoc, List.take_append_of_le_length (by rw [List.length_take]; omega), List.take_take, Nat.min_eq_left (by omega), ht]
  have e2 : cur1.drop (i * 8 + 8) = flatO (l.drop i) ++ cur.drop ((i + 1) * 8 + (flatO (l.drop i)).length) := by
    have : (cur.take ((i + 1) * 8)).length = i * 8 + 8 := by rw [List.length_take]; omega
    rw [h1, List.append_assoc, ← this, List.drop_left]
  have e3 : (aggO o).toList.length = 8 := rfl
  rw [h2, e1, e3, e2, flatO_append, flatO_cons, List.append_assoc, ← List.append_assoc (aggO o).toList, ← List.append_assoc (flatO (l.take i))]
  rw [List.take_append_of_le_length (by simp only [List.length_append, flatO_len, List.length_take, List.length_drop, e3]; omega), List.take_of_length_le (by simp only [List.length_append, flatO_len, List.length_take, List.length_drop, e3]; omega)]
theorem cells_grow {cur : List Value} {l : List Od} {i : Nat} (o : Od) (hi : i ≤ l.length) (ht : cur.take (i * 8) = flatO (l.take i)) (_hlen : (l.length + 1) * 8 ≤ cur.length) (cur1 cur2 : List Value)
    (h1 : cur1 = cur.take (i * 8) ++ (aggO o).toList ++ cur.drop (i * 8 + (aggO o).toList.length)) (h2 : cur2 = cur1.take ((i + 1) * 8) ++ flatO (l.drop i) ++ cur1.drop ((i + 1) * 8 + (flatO (l.drop i)).length)) : cur2.take ((l.length + 1) * 8) = flatO (l.take i ++ o :: l.drop i) := by
  have e3 : (aggO o).toList.length = 8 := rfl
  have e0 : (flatO (l.drop i)).length = (l.length - i) * 8 := by rw [flatO_len, List.length_drop]
  have e4 : (flatO (l.take i)).length = i * 8 := by rw [flatO_len, List.length_take]; omega
  have e1 : cur1.take ((i + 1) * 8) = flatO (l.take i) ++ (aggO o).toList := by
    rw [h1, ht, List.take_append_of_le_length (by rw [List.length_append, e3, e4]; omega), List.take_of_length_le (by rw [List.length_append, e3, e4]; omega)]
  rw [h2, e1, flatO_append, flatO_cons, List.take_append_of_le_length (by simp only [List.length_append, e4, e3, e0]; omega), List.take_of_length_le (by simp only [List.length_append, e4, e3, e0]; omega), List.append_assoc]
theorem setg (w : World) (g o : Nat) (cs : List Value) : w.grownBy (w.setCells g o cs) (some g) := by
  obtain ⟨s1, s2, s3, s4⟩ := setCells_same g cs o w
  exact ⟨s1, s2, s3, by rw [s4]; exact Nat.le_refl _, fun k _ hk => setCells_far _ _ k (fun he => hk (by rw [he]))⟩
theorem one_agg (o : Od) : ∀ v ∈ (aggO o).toList, v.oneCell' = true := by
  intro v hv
  simp only [List.mem_cons, List.not_mem_nil, or_false] at hv
  rcases hv with rfl | rfl | rfl | rfl | rfl | rfl | rfl | rfl <;> rfl
theorem shape_of {w : World} {g : Nat} {cur : Array Value} {t : TypeId} (h : w.heap[g]? = some (.cells cur t (0, 0))) : w.shape? g = some (t, cur.size) := by simp [World.shape?, h]
theorem get_take {α : Type} {a b : List α} {n j : Nat} {v : α} (h : a.take n = b) (hj : b[j]? = some v) : a[j]? = some v := by
  subst h
  rw [List.getElem?_take] at hj
  split at hj
  · exact hj
  · cases hj
set_option maxHeartbeats 8000000 in
set_option maxRecDepth 100000 in
theorem ins_shift {base : Nat} {l : List Od} (g cap i : Nat) (o : Od) (vb : Nat) (w : World) (HO : kO.R 37 w base (fun _ => True) (.slice (some ⟨g, 0, none⟩) l.length cap) l) (hi : i < l.length) (hroom : l.length + 1 ≤ cap) (hv : w.heap[vb]? = some (.cells (aggO o) 37 (0, 0))) (hne : vb ≠ g) (hbase : base ≤ w.heap.size) (hl : l.length ≤ 63) :
    Calls Try.prog 54 #[.slice (some ⟨g, 0, none⟩) l.length cap, .int .i64 i, .slice (some ⟨vb, 0, none⟩) 1 1] w fun e w' => ∃ v, e = .returned v ∧ kO.R 37 w' base (fun _ => True) v (l.take i ++ o :: l.drop i) ∧ Below base w w' := by
  obtain ⟨cur, hg, hbg, hnc, hcm, hcs, ht⟩ := flat_R HO
  have HG := Lib.hid hg
  have HV := Lib.hid hv
  have HBG := Lib.hid hbg
  have HBS := Lib.hid hbase
  have HI := Lib.hid hi
  have HROOM := Lib.hid hroom
  have HCS := Lib.hid hcs
  have HCM := Lib.hid hcm
  have HT := Lib.hid ht
  have HNE := Lib.hid hne
  have hov : ∀ lb cb, (callFunc 80 #[.slice (some ⟨vb, 0, none⟩) 1 1, .slice (some ⟨g, (i + 1) * 8, none⟩) lb cb]).run Try.prog w = .ok (.value (.bool false)) w := fun lb cb => by
    rw [run_callFunc_extern Try.func80 (by kernel_rfl) (by kernel_rfl) (by kernel_rfl) (e := Extern.SlicesOverlaps.overlaps #[26, 26] #[4]) (by kernel_rfl),
      Lib.run_overlaps_apart w 26 4 37 Try.underlying26 8 (fun w => by kernel_rfl) ⟨vb, 0, none⟩ ⟨g, (i + 1) * 8, none⟩ 1 1 lb cb hne 37 37 8 cur.size (shape_of hv) (shape_of hg) (by omega) (blk_frozen hv 0) (blk_frozen hv 8)]
    rfl
  have hw1 : IntKind.i64.wrap ((i : Int) + 1) = (i : Int) + 1 := by rw [IntKind.wrap_i64]; omega
  have hw2 : IntKind.i64.wrap ((l.length : Int) + 1) = (l.length : Int) + 1 := by rw [IntKind.wrap_i64]; omega
  have hb1 : (0 : Int) ≤ (i : Int) + 1 := by omega
  have hin : i ≤ l.length := by omega
  have htn : ((i : Int) + 1).toNat = i + 1 := by omega
  have hb2 : ¬ (cap = i + 1) := by omega
  have hb3 : (i : Int) ≤ (l.length : Int) + 1 := by omega
  have hb4 : ¬ (cap = i) := by omega
  have hb5 : ¬ ((i : Int) = (l.length : Int)) := by omega
  have hb6 : ¬ (i = l.length) := by omega
  have hb7 : decide (i = l.length) = false := decide_eq_false hb6
  have hb8 : decide ((cap : Int) < (l.length : Int) + 1) = false := decide_eq_false (by omega)
  have hb9 : l.length + 1 ≤ cap := hroom
  have hba : l.length ≤ cap := hnc
  have hbb : ((l.length : Int) + 1).toNat = l.length + 1 := by omega
  have hbc : (i : Int) ≤ l.length := by omega
  have hbd : (l.length : Int) + 1 ≤ cap := by omega
  have hbe : (0 : Int) ≤ (l.length : Int) + 1 := by omega
  clear HO hi hv hne hbase hg hbg hnc hcm hcs ht
  go_enter Try.func54, Try.ntmps54
  go_upto_region 15 with (simp only [hov])
  refine start_ (n := 9) (S := fun w' => w'.heap[g]? = some (.cells cur 37 (0, 0))) (ds := [8]) #[false, false, false, false, false, false, false, false, false] (by kernel_rfl) rfl rfl (blk_drew HG.out) (fun hHeld => ?_)
  have HVd : Hid (w.drew.heap[vb]? = some (.cells (aggO o) 37 (0, 0))) := Lib.hid HV.out
  have HBd : Hid (Below base w w.drew) := Lib.hid (below_drew1 (Below.refl _ _))
  generalize w.drew = wd at HVd HBd hHeld ⊢
  refine pure_ (i := 0) (N := some 69) (v := ?_) (a' := ?_) #[true, false, false, false, false, false, false, false, false] rfl rfl (by kernel_rfl) (fun _ _ _ h => h) (Or.inl ⟨by rfl, ?_⟩) ?_ ?_
  rotate_left
  · intro w'
    go_simp
    with_reducible rfl
  rotate_left
  · simp only [Act.put, List.setIfInBounds_toArray, List.set_cons_zero, List.set_cons_succ, i64_w, i32_w]
    rfl
  refine pure_ (i := 1) (N := some 70) (v := ?_) (a' := ?_) #[true, true, false, false, false, false, false, false, false] rfl rfl (by kernel_rfl) (fun _ _ _ h => h) (Or.inl ⟨by rfl, ?_⟩) ?_ ?_
  rotate_left
  · intro w'
    go_simp
    with_reducible rfl
  rotate_left
  · simp only [Act.put, List.setIfInBounds_toArray, List.set_cons_zero, List.set_cons_succ, i64_w, i32_w]
    rfl
  refine pure_ (i := 2) (N := some 71) (v := ?_) (a' := ?_) #[true, true, true, false, false, false, false, false, false] rfl rfl (by kernel_rfl) (fun _ _ _ h => h) (Or.inl ⟨by rfl, ?_⟩) ?_ ?_
  rotate_left
  · intro w'
    go_simp
    with_reducible rfl
  rotate_left
  · simp only [Act.put, List.setIfInBounds_toArray, List.set_cons_zero, List.set_cons_succ, i64_w, i32_w]
    rfl
  refine pure_ (i := 3) (N := some 72) (v := ?_) (a' := ?_) #[true, true, true, true, false, false, false, false, false] rfl rfl (by kernel_rfl) (fun _ _ _ h => h) (Or.inl ⟨by rfl, ?_⟩) ?_ ?_
  rotate_left
  · intro w'
    go_simp
    with_reducible rfl
  rotate_left
  · simp only [Act.put, List.setIfInBounds_toArray, List.set_cons_zero, List.set_cons_succ, i64_w, i32_w]
    rfl
  refine pure_ (i := 4) (N := some 73) (v := ?_) (a' := ?_) #[true, true, true, true, true, false, false, false, false] rfl rfl (by kernel_rfl) (fun _ _ _ h => h) (Or.inl ⟨by rfl, ?_⟩) ?_ ?_
  rotate_left
  · intro w'
    go_simp
    with_reducible rfl
  rotate_left
  · simp only [Act.put, List.setIfInBounds_toArray, List.set_cons_zero, List.set_cons_succ, i64_w, i32_w]
    rfl
  refine pure_ (i := 5) (N := some 74) (v := ?_) (a' := ?_) #[true, true, true, true, true, true, false, false, false] rfl rfl (by kernel_rfl) (fun _ _ _ h => h) (Or.inl ⟨by rfl, ?_⟩) ?_ ?_
  rotate_left
  · intro w'
    go_simp
    with_reducible rfl
  rotate_left
  · simp only [Act.put, List.setIfInBounds_toArray, List.set_cons_zero, List.set_cons_succ, i64_w, i32_w]
    rfl
  refine pure_ (i := 6) (N := some 75) (v := ?_) (a' := ?_) #[true, true, true, true, true, true, true, false, false] rfl rfl (by kernel_rfl) (fun _ _ _ h => h) (Or.inl ⟨by rfl, ?_⟩) ?_ ?_
  rotate_left
  · intro w'
    go_simp
    with_reducible rfl
  rotate_left
  · simp only [Act.put, List.setIfInBounds_toArray, List.set_cons_zero, List.set_cons_succ, i64_w, i32_w]
    rfl
  refine pure_ (i := 7) (N := some 76) (v := ?_) (a' := ?_) #[true, true, true, true, true, true, true, true, false] rfl rfl (by kernel_rfl) (fun _ _ _ h => h) (Or.inl ⟨by rfl, ?_⟩) ?_ ?_
  rotate_left
  · intro w'
    go_simp
    with_reducible rfl
  rotate_left
  · simp only [Act.put, List.setIfInBounds_toArray, List.set_cons_zero, List.set_cons_succ, i64_w, i32_w]
    rfl
  refine last_ (i := 8) (N := some 77) #[true, true, true, true, true, true, true, true, true] rfl rfl (by kernel_rfl) (by decide) (fun K hK => ?_)
  refine value_ (w1 := wd.setCells g ((i + 1) * 8) (flatO (l.drop i))) (v := goInt ((l.length - i : Nat))) (by rfl) rfl (copy_ev rfl (by rfl) (by rfl) (run_copy_k wd _ _ _ 37 g ((i + 1) * 8) _ _ _ _ _ (flatO (l.drop i)) 8 (l.length - i) Try.underlying26 (by kernel_rfl) ?hn (by rw [flatO_len, List.length_drop]) ?hs ?hc ?hf (flatO_one _))) ?_
  (case hn => have := HI.out; simp only [Nat.min_def]; split <;> omega)
  (case hs => intro j v hj; rw [Addr.add_lit, blk_cell hHeld, ← Array.getElem?_toList]; rw [← flatO_drop, List.getElem?_drop] at hj; exact get_take HT.out hj)
  (case hc => intro j hj; rw [flatO_len, List.length_drop] at hj; have h3 : (i + 1) * 8 + j < cur.size := (by have := HI.out; have := HCS.out; have := HROOM.out; omega); rw [blk_cell hHeld, Array.getElem?_eq_getElem h3]; rfl)
  (case hf => intro j hj; exact blk_frozen hHeld _)
  refine hK.out _ _ ?_
  clear hK K
  refine norm_ (a' := ?_) ?_ ?_
  rotate_left
  · show Act.put _ (some 77) _ = _
    simp only [Act.put, List.setIfInBounds_toArray, List.set_cons_zero, List.set_cons_succ, i64_w, i32_w]
    rfl
  refine done_ (by kernel_rfl) ?_
  obtain ⟨cur1, hg1, hs1, hc1⟩ := setCells_row (flatO (l.drop i)) ((i + 1) * 8) wd cur hHeld (by rw [flatO_len, List.length_drop]; have := HI.out; have := HCS.out; have := HROOM.out; omega)
  have HG1 := Lib.hid hg1
  have HC1 := Lib.hid hc1
  have HS1 := Lib.hid hs1
  have HV1 : Hid ((wd.setCells g ((i + 1) * 8) (flatO (l.drop i))).heap[vb]? = some (.cells (aggO o) 37 (0, 0))) := Lib.hid (by rw [setCells_far _ _ _ HNE.out]; exact HVd.out)
  have HB1 : Hid (Below base w (wd.setCells g ((i + 1) * 8) (flatO (l.drop i)))) := Lib.hid (Stb.below_grown1 (g := g) HBd.out (setg _ _ _ _) HBG.out (Nat.le_trans HBS.out HBd.out.size))
  obtain ⟨w2, hw2e⟩ : ∃ w2, w2 = wd.setCells g ((i + 1) * 8) (flatO (l.drop i)) := ⟨_, rfl⟩
  rw [← hw2e] at HG1 HV1 HB1 ⊢
  clear hw2e hg1 hs1 hc1
  have hcp : ∀ ty dc, (Builtin.copy_ #[26, 26] ty #[.slice (some ⟨g, i * 8, none⟩) (l.length + 1 - i) dc, .slice (some ⟨vb, 0, none⟩) 1 1]).run Try.prog w2 = .ok (goInt ((1 : Nat))) (w2.setCells g (i * 8) (aggO o).toList) := fun ty dc =>
    run_copy_k w2 _ _ ty 37 g (i * 8) _ dc ⟨vb, 0, none⟩ 1 1 (aggO o).toList 8 1 Try.underlying26 (by kernel_rfl) (by have := HI.out; simp only [Nat.min_def]; split <;> omega) rfl
      (fun j v hj => by rw [Addr.add_lit, Nat.zero_add, blk_cell HV1.out]; simpa using hj)
      (fun j hj => by have h3 : i * 8 + j < cur1.size := (by have h8 : j < 8 := hj; have := HI.out; have := HCS.out; have := HROOM.out; have := HS1.out; omega); rw [blk_cell HG1.out, Array.getElem?_eq_getElem h3]; rfl)
      (fun j _ => blk_frozen HG1.out _) (one_agg o)
  obtain ⟨cur2, hg2, hs2, hc2⟩ := setCells_row (aggO o).toList (i * 8) w2 cur1 HG1.out (by show i * 8 + 8 ≤ cur1.size; have := HI.out; have := HCS.out; have := HROOM.out; have := HS1.out; omega)
  have HG2 := Lib.hid hg2
  have HS2 := Lib.hid hs2
  have HC2 := Lib.hid hc2
  have HB2 : Hid (Below base w (w2.setCells g (i * 8) (aggO o).toList)) := Lib.hid (Stb.below_grown1 (g := g) HB1.out (setg _ _ _ _) HBG.out (Nat.le_trans HBS.out HB1.out.size))
  clear hg2 hs2 hc2
  go_wp2_with (first | (at_builtin; go_must (refine wpList_copy_k _ rfl _ _ 26 26 rfl (by rfl) (by rfl) (hcp _ _) ?_)))
  go_ret
  refine ⟨_, rfl, R_flat HG2.out HBG.out (by rw [List.length_append, List.length_cons, List.length_take, List.length_drop]; have := HI.out; omega) HROOM.out HCM.out (by rw [HS2.out, HS1.out]; exact HCS.out) ?_ trivial, HB2.out⟩
  refine cells_shift o (Nat.le_of_lt HI.out) ?_ (by have h5 : cur.toList.length = cap * 8 := (Array.length_toList (xs := cur)).trans HCS.out; rw [h5]; have := HROOM.out; omega) _ _ HC1.out HC2.out
  rw [← flatO_take, ← HT.out, List.take_take, Nat.min_eq_left (by have := HI.out; omega)]
theorem next_fits {n old : Nat} (h : old < n) (hn : n ≤ 64) : Builtin.nextslicecap n old * 56 ≤ 281474976710656 := by
  have h1 : Builtin.nextslicecap n old ≤ 128 := by
    unfold Builtin.nextslicecap
    split
    · omega
    · split
      · omega
      · omega
  omega
theorem zeros_step {_base : Nat} {l : List Od} (g cap i K : Nat) (cur : Array Value) (w : World) (ty : TypeId) (hg : w.heap[g]? = some (.cells cur 37 (0, 0))) (ht : cur.toList.take (l.length * 8) = flatO l) (hi : i < l.length) (hK : K = l.length + 1 - i) (hl : l.length ≤ 63) (hroom : cap < l.length + 1) :
    ∃ (NC : Nat) (cur' : Array Value), (Builtin.append_ #[26, 3] ty #[.slice (some ⟨g, 0, none⟩) i cap, .int .i64 (K : Int)]).run Try.prog w = .ok (.slice (some ⟨w.heap.size, 0, none⟩) (l.length + 1) NC) (w.drew.alloc (.cells cur' 37)) ∧ cur'.size = NC * 8 ∧ l.length + 1 ≤ NC ∧ NC ≤ 9223372036854775807 ∧ cur'.toList.take (i * 8) = flatO (l.take i) := by
  obtain ⟨i0, hi0, hz⟩ := Option.map_eq_some_iff.1 infoO
  simp only [Prod.mk.injEq] at hz
  obtain ⟨hz0, hz1, hz2⟩ := hz
  have hz1' : i0.size = 8 := hz1
  have hik : i + K = l.length + 1 := by omega
  have hold : (Builtin.firstCells i0.size i (.slice (some ⟨g, 0, none⟩) i cap)).run Try.prog w.drew = .ok (flatO (l.take i)).toArray w.drew := by
    have h1 := run_loadCells_list (P := Try.prog) w.drew ⟨g, 0, none⟩ (flatO (l.take i)) (fun j v hj => by
      rw [Addr.add_lit, Nat.zero_add]
      have h2 : w.drew.cell? ⟨g, j, none⟩ = cur[j]? := blk_cell (show w.drew.heap[g]? = _ from hg) j
      rw [h2, ← Array.getElem?_toList]
      refine get_take ht ?_
      rw [← flatO_take] at hj
      exact get_take rfl hj)
    rw [flatO_len, List.length_take, Nat.min_eq_left (by omega)] at h1
    rw [hz1']
    exact h1
  have hrun := Go.Lib.run_append_grow_zeros (P := Try.prog) w 26 3 ty 37 i0 _ .i64 .i64 Try.underlying26 Try.underlying3 hi0 hz0 (some ⟨g, 0, none⟩) i cap (flatO (l.take i)) hold K (by omega) (by omega) (by omega) (by omega) (by rw [hz2]; omega) (by rw [hz2, hik]; exact next_fits hroom (by omega))
  rw [hik] at hrun
  have hge := grownCap_ge w (l.length + 1) cap 37
  have hle : grownCap w (l.length + 1) cap 37 ≤ 9223372036854775807 := by have := grownCap_le_maxLen w (l.length + 1) cap 37 (by unfold maxLen; omega); unfold maxLen at this; exact this
  refine ⟨_, _, hrun, ?_, hge, hle, ?_⟩
  · simp only [Array.size_append, List.size_toArray, size_zeroCells, flatO_len, List.length_take]
    show min i l.length * 8 + K * 8 + (grownCap w (l.length + 1) cap 37 - (l.length + 1)) * 8 = _
    omega
  · simp only [Array.toList_append, List.append_assoc]
    have e : i * 8 = (flatO (l.take i)).length := by rw [flatO_len, List.length_take]; omega
    rw [e]
    exact List.take_left
set_option maxHeartbeats 8000000 in
set_option maxRecDepth 100000 in
theorem ins_grow {base : Nat} {l : List Od} (g cap i : Nat) (o : Od) (vb : Nat) (w : World) (HO : kO.R 37 w base (fun _ => True) (.slice (some ⟨g, 0, none⟩) l.length cap) l) (hi : i < l.length) (hroom : cap < l.length + 1) (hv : w.heap[vb]? = some (.cells (aggO o) 37 (0, 0))) (hbase : base ≤ w.heap.size) (hl : l.length ≤ 63) :
    Calls Try.prog 54 #[.slice (some ⟨g, 0, none⟩) l.length cap, .int .i64 i, .slice (some ⟨vb, 0, none⟩) 1 1] w fun e w' => ∃ v, e = .returned v ∧ kO.R 37 w' base (fun _ => True) v (l.take i ++ o :: l.drop i) ∧ Below base w w' := by
  obtain ⟨cur, hg, hbg, hnc, hcm, hcs, ht⟩ := flat_R HO
  obtain ⟨K, hK⟩ : ∃ K, K = l.length + 1 - i := ⟨_, rfl⟩
  have hz := fun ty => zeros_step (_base := base) g cap i K cur w ty hg ht hi hK hl hroom
  have hw1 : IntKind.i64.wrap ((i : Int) + 1) = (i : Int) + 1 := by rw [IntKind.wrap_i64]; omega
  have hw2 : IntKind.i64.wrap ((l.length : Int) + 1) = (l.length : Int) + 1 := by rw [IntKind.wrap_i64]; omega
  have hw3 : (l.length : Int) + 1 - (i : Int) = (K : Int) := by omega
  have hw4 : IntKind.i64.wrap (K : Int) = (K : Int) := by rw [IntKind.wrap_i64]; omega
  have hb1 : (0 : Int) ≤ (i : Int) + 1 := by omega
  have hin : i ≤ l.length := by omega
  have htn : ((i : Int) + 1).toNat = i + 1 := by omega
  have hb3 : (i : Int) ≤ (l.length : Int) + 1 := by omega
  have hb3b : (i : Int) + 1 ≤ (l.length : Int) + 1 := by omega
  have hb4 : ¬ (cap = i) := by omega
  have hb5 : ¬ ((i : Int) = (l.length : Int)) := by omega
  have hb6 : ¬ (i = l.length) := by omega
  have hb7 : decide (i = l.length) = false := decide_eq_false hb6
  have hb8 : decide ((cap : Int) < (l.length : Int) + 1) = true := decide_eq_true (by omega)
  have hba : l.length ≤ cap := hnc
  have hbc : (i : Int) ≤ l.length := by omega
  have hbd : (i : Int) ≤ cap := by omega
  have hbf : i ≤ cap := by omega
  have HG := Lib.hid hg
  have HV := Lib.hid hv
  have HBS := Lib.hid hbase
  have HI := Lib.hid hi
  have HT := Lib.hid ht
  have HCM := Lib.hid hcm
  obtain ⟨NC, cur0, hz1, hs0, hnc0, hcm0, ht0⟩ := hz 26
  have HZ := Lib.hid hz1
  have HCS0 := Lib.hid hs0
  have HNC := Lib.hid hnc0
  have HCM0 := Lib.hid hcm0
  have HT0 := Lib.hid ht0
  have hn1 : ¬ (NC = i + 1) := by omega
  have hn2 : ¬ (NC = i) := by omega
  clear HO hi hv hbase hg hbg hnc hcm hcs ht hK hz hz1 hs0 hcm0 ht0
  obtain ⟨w2, hw2e⟩ : ∃ w2, w2 = w.drew.alloc (.cells cur0 37) := ⟨_, rfl⟩
  have HG0 : Hid (w2.heap[w.heap.size]? = some (.cells cur0 37 (0, 0))) := Lib.hid (by rw [hw2e]; exact blk_new w.drew _)
  have HV0 : Hid (w2.heap[vb]? = some (.cells (aggO o) 37 (0, 0))) := Lib.hid (by rw [hw2e]; exact blk_alloc (w := w.drew) HV.out _)
  have HO0 : Hid (w2.heap[g]? = some (.cells cur 37 (0, 0))) := Lib.hid (by rw [hw2e]; exact blk_alloc (w := w.drew) HG.out _)
  have HB0 : Hid (Below base w w2) := Lib.hid (by rw [hw2e]; exact (below_drew1 (Below.refl base w)).alloc HBS.out _)
  have HNV : Hid (vb ≠ w.heap.size) := Lib.hid (fun e => by have := blk_lt HV.out; omega)
  have HNG : Hid (g ≠ w.heap.size) := Lib.hid (fun e => by have := blk_lt HG.out; omega)
  rw [← hw2e] at HZ
  clear hw2e
  have hcp : ∀ ty dc, (Builtin.copy_ #[26, 26] ty #[.slice (some ⟨w.heap.size, i * 8, none⟩) (l.length + 1 - i) dc, .slice (some ⟨vb, 0, none⟩) 1 1]).run Try.prog w2 = .ok (goInt ((1 : Nat))) (w2.setCells w.heap.size (i * 8) (aggO o).toList) := fun ty dc =>
    run_copy_k w2 _ _ ty 37 w.heap.size (i * 8) _ dc ⟨vb, 0, none⟩ 1 1 (aggO o).toList 8 1 Try.underlying26 (by kernel_rfl) (by have := HI.out; simp only [Nat.min_def]; split <;> omega) rfl
      (fun j v hj => by rw [Addr.add_lit, Nat.zero_add, blk_cell HV0.out]; simpa using hj)
      (fun j hj => by have h3 : i * 8 + j < cur0.size := (by have h8 : j < 8 := hj; have := HI.out; have := HCS0.out; have := HNC.out; omega); rw [blk_cell HG0.out, Array.getElem?_eq_getElem h3]; rfl)
      (fun j _ => blk_frozen HG0.out _) (one_agg o)
  obtain ⟨cur1, hg1, hs1, hc1⟩ := setCells_row (aggO o).toList (i * 8) w2 cur0 HG0.out (by show i * 8 + 8 ≤ cur0.size; have := HI.out; have := HCS0.out; have := HNC.out; omega)
  obtain ⟨w4, hw4e⟩ : ∃ w4, w4 = w2.setCells w.heap.size (i * 8) (aggO o).toList := ⟨_, rfl⟩
  have HG1 : Hid (w4.heap[w.heap.size]? = some (.cells cur1 37 (0, 0))) := Lib.hid (by rw [hw4e]; exact hg1)
  have HO4 : Hid (w4.heap[g]? = some (.cells cur 37 (0, 0))) := Lib.hid (by rw [hw4e, setCells_far _ _ _ HNG.out]; exact HO0.out)
  have HB4 : Hid (Below base w w4) := Lib.hid (by rw [hw4e]; exact Stb.below_grown1 (g := w.heap.size) HB0.out (setg _ _ _ _) HBS.out (Nat.le_trans HBS.out HB0.out.size))
  have HCS1 : Hid (cur1.size = NC * 8) := Lib.hid (by rw [hs1]; exact HCS0.out)
  have HC1 := Lib.hid hc1
  rw [← hw4e] at hcp
  clear hw4e hg1 hs1 hc1
  go_enter Try.func54, Try.ntmps54
  go_upto_region 11 with (first | (at_builtin; refine Go.Lib.wpList_append_run _ rfl _ _ 26 3 rfl _ _ (by rfl) (by rfl) _ _ HZ.out ?_) | (at_builtin; refine wpList_copy_k _ rfl _ _ 26 26 rfl (by rfl) (by rfl) (hcp _ _) ?_))
  refine start_ (n := 9) (S := fun w' => w'.heap[w.heap.size]? = some (.cells cur1 37 (0, 0))) (ds := [8]) #[false, false, false, false, false, false, false, false, false] (by kernel_rfl) rfl rfl (blk_drew HG1.out) (fun hHeld => ?_)
  have HOd : Hid (w4.drew.heap[g]? = some (.cells cur 37 (0, 0))) := Lib.hid HO4.out
  have HBd : Hid (Below base w w4.drew) := Lib.hid (below_drew1 HB4.out)
  generalize w4.drew = wd at HOd HBd hHeld ⊢
  refine pure_ (i := 0) (N := some 46) (v := ?_) (a' := ?_) #[true, false, false, false, false, false, false, false, false] rfl rfl (by kernel_rfl) (fun _ _ _ h => h) (Or.inl ⟨by rfl, ?_⟩) ?_ ?_
  rotate_left
  · intro w'
    go_simp
    with_reducible rfl
  rotate_left
  · simp only [Act.put, List.setIfInBounds_toArray, List.set_cons_zero, List.set_cons_succ, i64_w, i32_w]
    rfl
  refine pure_ (i := 1) (N := some 47) (v := ?_) (a' := ?_) #[true, true, false, false, false, false, false, false, false] rfl rfl (by kernel_rfl) (fun _ _ _ h => h) (Or.inl ⟨by rfl, ?_⟩) ?_ ?_
  rotate_left
  · intro w'
    go_simp
    with_reducible rfl
  rotate_left
  · simp only [Act.put, List.setIfInBounds_toArray, List.set_cons_zero, List.set_cons_succ, i64_w, i32_w]
    rfl
  refine pure_ (i := 2) (N := some 48) (v := ?_) (a' := ?_) #[true, true, true, false, false, false, false, false, false] rfl rfl (by kernel_rfl) (fun _ _ _ h => h) (Or.inl ⟨by rfl, ?_⟩) ?_ ?_
  rotate_left
  · intro w'
    go_simp
    with_reducible rfl
  rotate_left
  · simp only [Act.put, List.setIfInBounds_toArray, List.set_cons_zero, List.set_cons_succ, i64_w, i32_w]
    rfl
  refine pure_ (i := 3) (N := some 49) (v := ?_) (a' := ?_) #[true, true, true, true, false, false, false, false, false] rfl rfl (by kernel_rfl) (fun _ _ _ h => h) (Or.inl ⟨by rfl, ?_⟩) ?_ ?_
  rotate_left
  · intro w'
    go_simp
    with_reducible rfl
  rotate_left
  · simp only [Act.put, List.setIfInBounds_toArray, List.set_cons_zero, List.set_cons_succ, i64_w, i32_w]
    rfl
  refine pure_ (i := 4) (N := some 50) (v := ?_) (a' := ?_) #[true, true, true, true, true, false, false, false, false] rfl rfl (by kernel_rfl) (fun _ _ _ h => h) (Or.inl ⟨by rfl, ?_⟩) ?_ ?_
  rotate_left
  · intro w'
    go_simp
    with_reducible rfl
  rotate_left
  · simp only [Act.put, List.setIfInBounds_toArray, List.set_cons_zero, List.set_cons_succ, i64_w, i32_w]
    rfl
  refine pure_ (i := 5) (N := some 51) (v := ?_) (a' := ?_) #[true, true, true, true, true, true, false, false, false] rfl rfl (by kernel_rfl) (fun _ _ _ h => h) (Or.inl ⟨by rfl, ?_⟩) ?_ ?_
  rotate_left
  · intro w'
    go_simp
    with_reducible rfl
  rotate_left
  · simp only [Act.put, List.setIfInBounds_toArray, List.set_cons_zero, List.set_cons_succ, i64_w, i32_w]
    rfl
  refine pure_ (i := 6) (N := some 52) (v := ?_) (a' := ?_) #[true, true, true, true, true, true, true, false, false] rfl rfl (by kernel_rfl) (fun _ _ _ h => h) (Or.inl ⟨by rfl, ?_⟩) ?_ ?_
  rotate_left
  · intro w'
    go_simp
    with_reducible rfl
  rotate_left
  · simp only [Act.put, List.setIfInBounds_toArray, List.set_cons_zero, List.set_cons_succ, i64_w, i32_w]
    rfl
  refine pure_ (i := 7) (N := some 53) (v := ?_) (a' := ?_) #[true, true, true, true, true, true, true, true, false] rfl rfl (by kernel_rfl) (fun _ _ _ h => h) (Or.inl ⟨by rfl, ?_⟩) ?_ ?_
  rotate_left
  · intro w'
    go_simp
    with_reducible rfl
  rotate_left
  · simp only [Act.put, List.setIfInBounds_toArray, List.set_cons_zero, List.set_cons_succ, i64_w, i32_w]
    rfl
  refine last_ (i := 8) (N := some 54) #[true, true, true, true, true, true, true, true, true] rfl rfl (by kernel_rfl) (by decide) (fun K hK => ?_)
  refine value_ (w1 := wd.setCells w.heap.size ((i + 1) * 8) (flatO (l.drop i))) (v := goInt ((l.length - i : Nat))) (by rfl) rfl (copy_ev rfl (by rfl) (by rfl) (run_copy_k wd _ _ _ 37 w.heap.size ((i + 1) * 8) _ _ _ _ _ (flatO (l.drop i)) 8 (l.length - i) Try.underlying26 (by kernel_rfl) ?hn (by rw [flatO_len, List.length_drop]) ?hs ?hc ?hf (flatO_one _))) ?_
  (case hn => have := HI.out; simp only [Nat.min_def]; split <;> omega)
  (case hs => intro j v hj; rw [Addr.add_lit, blk_cell HOd.out, ← Array.getElem?_toList]; rw [← flatO_drop, List.getElem?_drop] at hj; exact get_take HT.out hj)
  (case hc => intro j hj; rw [flatO_len, List.length_drop] at hj; have h3 : (i + 1) * 8 + j < cur1.size := (by have := HI.out; have := HCS1.out; have := HNC.out; omega); rw [blk_cell hHeld, Array.getElem?_eq_getElem h3]; rfl)
  (case hf => intro j hj; exact blk_frozen hHeld _)
  refine hK.out _ _ ?_
  clear hK K
  refine norm_ (a' := ?_) ?_ ?_
  rotate_left
  · show Act.put _ (some 54) _ = _
    simp only [Act.put, List.setIfInBounds_toArray, List.set_cons_zero, List.set_cons_succ, i64_w, i32_w]
    rfl
  refine done_ (by kernel_rfl) ?_
  obtain ⟨cur2, hg2, hs2, hc2⟩ := setCells_row (flatO (l.drop i)) ((i + 1) * 8) wd cur1 hHeld (by rw [flatO_len, List.length_drop]; have := HI.out; have := HCS1.out; have := HNC.out; omega)
  have HG2 := Lib.hid hg2
  have HS2 := Lib.hid hs2
  have HC2 := Lib.hid hc2
  have HB2 : Hid (Below base w (wd.setCells w.heap.size ((i + 1) * 8) (flatO (l.drop i)))) := Lib.hid (Stb.below_grown1 (g := w.heap.size) HBd.out (setg _ _ _ _) HBS.out (Nat.le_trans HBS.out HBd.out.size))
  clear hg2 hs2 hc2
  go_wp2_with fail
  go_ret
  refine ⟨_, rfl, R_flat HG2.out HBS.out (by rw [List.length_append, List.length_cons, List.length_take, List.length_drop]; have := HI.out; omega) HNC.out HCM0.out (by rw [HS2.out]; exact HCS1.out) ?_ trivial, HB2.out⟩
  refine cells_grow o (Nat.le_of_lt HI.out) HT0.out (by have h5 : cur0.toList.length = NC * 8 := (Array.length_toList (xs := cur0)).trans HCS0.out; rw [h5]; have := HNC.out; omega) _ _ HC1.out HC2.out
theorem ins_calls {base : Nat} {l : List Od} (A : Option Addr) (c i : Nat) (o : Od) (vb : Nat) (w : World) (HO : kO.R 37 w base (fun _ => True) (.slice A l.length c) l) (hi : i ≤ l.length) (hv : w.heap[vb]? = some (.cells (aggO o) 37 (0, 0))) (hne : ∀ g, A = some ⟨g, 0, none⟩ → vb ≠ g) (hbase : base ≤ w.heap.size) (hl : l.length ≤ 63) :
    Calls Try.prog 54 #[.slice A l.length c, .int .i64 i, .slice (some ⟨vb, 0, none⟩) 1 1] w fun e w' => ∃ v, e = .returned v ∧ kO.R 37 w' base (fun _ => True) v (l.take i ++ o :: l.drop i) ∧ Below base w w' := by
  rcases Nat.lt_or_ge i l.length with h | h
  · obtain ⟨g, cap, e, _⟩ := Kd.R_form HO (Nat.lt_of_le_of_lt (Nat.zero_le _) h)
    injection e with e1 _ e2
    subst e1 e2
    rcases Nat.lt_or_ge c (l.length + 1) with h1 | h1
    · exact ins_grow g c i o vb w HO h h1 hv hbase hl
    · exact ins_shift g c i o vb w HO h h1 hv (hne g rfl) hbase hl
  · have e : i = l.length := by omega
    subst e
    rw [List.take_of_length_le (Nat.le_refl _), List.drop_eq_nil_of_le (Nat.le_refl _)]
    exact ins_end A c o vb w HO hv hbase hl
end Go.Proofs.Ytfikaekocgofoaa.Ins
/- The map behind a change: an OSD more. -/
set_option linter.unusedSimpArgs false
namespace Go.Proofs.Ytfikaekocgofoaa.AtQ
open Go Go.RowKit Go.Proofs.YtfikaekocgofoaaW.PrintWords Go.Proofs.YtfikaekocgofoaaW.PrintLast Go.Proofs.YtfikaekocgofoaaW.PrintMore Mem PAll KW AtA AtB Sl Dsc MayP ApP Fnd PlF Roo Awk McW ApY ApZ ApW AtK AtV AtX AtD AtC AtP Ins
open CrP hiding Od
theorem ins_pos (o : Od) : ∀ (l : List Od) (j : Nat), Pos l o.f0 j → (∀ q ∈ l, q.f0 ≠ o.f0) → insA o l = l.take j ++ o :: l.drop j
  | [], j, _, _ => by simp [insA]
  | x :: r, 0, h, hn => by
    have h1 := h.hi 0 x (Nat.le_refl _) rfl
    have h2 := hn x List.mem_cons_self
    simp only [insA]
    rw [if_pos (by omega)]
    rfl
  | x :: r, j + 1, h, hn => by
    have h1 := h.lo 0 x (Nat.succ_pos _) rfl
    simp only [insA]
    rw [if_neg (by omega), ins_pos o r j ⟨by have := h.le; rw [List.length_cons] at this; omega, fun i q hi hq => h.lo (i + 1) q (by omega) hq, fun i q hi hq => h.hi (i + 1) q (by omega) hq⟩ (fun q hq => hn q (List.mem_cons_of_mem _ hq))]
    rfl
theorem find_none_ne {l : List Od} {id : Int} (h : findO l id = none) : ∀ q ∈ l, q.f0 ≠ id := by
  intro q hq e
  unfold findO at h
  have := List.find?_eq_none.1 h q hq
  simp [e] at this
theorem wf_int {n : Int} (h : 0 ≤ n ∧ n ≤ 2147483647) : (Lit.int .i64 n).wf = true := by
  simp only [Lit.wf, Bool.and_eq_true, decide_eq_true_eq]
  exact ⟨by show (-9223372036854775808 : Int) ≤ n; omega, by show n ≤ (9223372036854775807 : Int); omega⟩
theorem wf_osd {o : Od} (h : osdB o = true) : (Lit.int .i64 o.f0).wf = true ∧ (Lit.int .i64 o.f6).wf = true ∧ (Lit.int .i64 o.f7).wf = true := by
  have h1 := osd_ranges h
  exact ⟨wf_int (by omega), wf_int (by omega), wf_int (by omega)⟩
theorem wf_ins {l : List Od} {o : Od} (h : WfL l) (ho : osdB o = true) (j : Nat) : WfL (l.take j ++ o :: l.drop j) := by
  intro q hq
  rcases List.mem_append.1 hq with hq | hq
  · exact h q (List.mem_of_mem_take hq)
  · rcases List.mem_cons.1 hq with rfl | hq
    · exact wf_osd ho
    · exact h q (List.mem_of_mem_drop hq)
theorem wf_may {ep k m p d : Int} {l : List Od} (h : mayB ep k m p d l = true) : WfL l := fun o ho => wf_osd (may_osd h o ho)
theorem below_over {B : Nat} {w0 w w1 : World} (h : Below B w0 w) (h2 : Below B w w1) : Below B w0 w1 := h.trans h2
set_option maxHeartbeats 8000000 in
set_option maxRecDepth 100000 in
theorem add_calls (ep k m p d : Int) (A : Option Addr) (c : Nat) (l : List Od) (o : Od) (w : World) (hx : kO.C w A l.length l) (hwf : WfL l) (hmay : mayB ep k m p d l = true) (hos : osdB o = true) (he0 : 0 ≤ ep) (he1 : ep < 1048576) :
    Calls Try.prog 31 #[.agg (boxM ep k m p d A c l), .agg (aggO o)] w fun e w' => ∃ (er : Int) (l' : List Od), applyR ep k m p d l 1 o = (er, l') ∧ Below w.heap.size w w' ∧ ((er ≠ 0 ∧ e = .returned (.tuple #[.agg zM, .int .i64 er])) ∨ (er = 0 ∧ ∃ (A' : Option Addr) (c' : Nat), e = .returned (.tuple #[.agg (boxM (ep + 1) k m p d A' c' l'), .int .i64 0]) ∧ kO.R 37 w' w.heap.size (fun _ => True) (.slice A' l'.length c') l')) := by
  have hs1 : (w.alloc (.cells (boxM ep k m p d A c l) 28)).heap.size = w.heap.size + 1 := by simp only [World.alloc, Array.size_push]
  have hs2 : ((w.alloc (.cells (boxM ep k m p d A c l) 28)).alloc (.cells (aggO o) 37)).heap.size = w.heap.size + 2 := by simp only [World.alloc, Array.size_push]
  have hs3 : (((w.alloc (.cells (boxM ep k m p d A c l) 28)).alloc (.cells (aggO o) 37)).alloc (.cells zM 28)).heap.size = w.heap.size + 3 := by simp only [World.alloc, Array.size_push]
  have HM1 : Hid ((((w.alloc (.cells (boxM ep k m p d A c l) 28)).alloc (.cells (aggO o) 37)).alloc (.cells zM 28)).heap[w.heap.size]? = some (.cells (boxM ep k m p d A c l) 28 (0, 0))) := Lib.hid (blk_below (blk_new _ _) (below_alloc (below_alloc (Below.refl _ _) _) _))
  have HG1 : Hid ((((w.alloc (.cells (boxM ep k m p d A c l) 28)).alloc (.cells (aggO o) 37)).alloc (.cells zM 28)).heap[w.heap.size + 1]? = some (.cells (aggO o) 37 (0, 0))) := Lib.hid (by
    have h := blk_new (w.alloc (.cells (boxM ep k m p d A c l) 28)) (.cells (aggO o) 37)
    rw [hs1] at h
    exact blk_below h (below_alloc (Below.refl _ _) _))
  have HR1 : Hid ((((w.alloc (.cells (boxM ep k m p d A c l) 28)).alloc (.cells (aggO o) 37)).alloc (.cells zM 28)).heap[w.heap.size + 2]? = some (.cells zM 28 (0, 0))) := Lib.hid (by
    have h := blk_new ((w.alloc (.cells (boxM ep k m p d A c l) 28)).alloc (.cells (aggO o) 37)) (.cells zM 28)
    rw [hs2] at h
    exact h)
  have HB1 := Lib.hid (below_alloc (below_alloc (below_alloc (Below.refl w.heap.size w) (.cells (boxM ep k m p d A c l) 28)) (.cells (aggO o) 37)) (.cells zM 28))
  have HC1 := Lib.hid (Kd.C_below hx HB1.out)
  obtain ⟨w1, hw1⟩ : ∃ w1, w1 = (((w.alloc (.cells (boxM ep k m p d A c l) 28)).alloc (.cells (aggO o) 37)).alloc (.cells zM 28)) := ⟨_, rfl⟩
  have HWN := Lib.hid hw1
  rw [← hw1] at HM1 HG1 HR1 HB1 HC1 hs3
  have HSZ := Lib.hid hs3
  have hl64 := (may_good hmay).1
  have HL64 := Lib.hid hl64
  have HASC := Lib.hid (asc2_may hmay)
  have HWF := Lib.hid hwf
  have HOS := Lib.hid hos
  have HE0 := Lib.hid he0
  have HE1 := Lib.hid he1
  have HAP : Hid (applyR ep k m p d l 1 o = (if (findO l o.f0).isSome = true then (6, []) else if 64 ≤ l.length then (2, []) else if mayB (ep + 1) k m p d (insA o l) = true then (0, insA o l) else (1, []))) := Lib.hid (by
    have e1 : (mayB ep k m p d l && (mayC 1 o && !(ep == 1048576))) = true := by
      rw [hmay, show mayC 1 o = osdB o from rfl, hos, beq_eq_false_iff_ne.2 (by omega)]
      rfl
    unfold applyR
    rw [if_neg (by rw [e1]; decide), if_pos rfl])
  have T := Lib.hid (aplace_calls ep k m p d A c l o.f0 w1 HC1.out hl64 HASC.out)
  have hll : l.length ≤ 64 := hl64
  clear hx hwf hw1 hs1 hs2 hs3 hmay hos he0 he1 hl64
  unfold boxM at *
  have m0 := blk_cell HM1.out 0
  have m1 := blk_cell HM1.out 1
  have m2 := blk_cell HM1.out 2
  have m3 := blk_cell HM1.out 3
  have m4 := blk_cell HM1.out 4
  have m5 := blk_cell HM1.out 5
  have c0 := blk_cell HG1.out 0
  have c1 := blk_cell HG1.out 1
  have c2 := blk_cell HG1.out 2
  have c3 := blk_cell HG1.out 3
  have c4 := blk_cell HG1.out 4
  have c5 := blk_cell HG1.out 5
  have c6 := blk_cell HG1.out 6
  have c7 := blk_cell HG1.out 7
  go_enter Try.func31, Try.ntmps31
  rw [HWN.out] at m0 m1 m2 m3 m4 m5 c0 c1 c2 c3 c4 c5 c6 c7
  go_wp2_with fail
  rw [← HWN.out]
  refine T.out.mono ?_
  rintro e w2 ⟨j, hp, rfl, hb⟩
  have HP := Lib.hid hp
  have HPL : Hid (j ≤ l.length) := Lib.hid hp.le
  clear hp T HWN m0 m1 m2 m3 m4 m5 c0 c1 c2 c3 c4 c5 c6 c7
  have HB2 := Lib.hid (below_then HB1.out HB1.out.size hb)
  have HM2 := Lib.hid (blk_below HM1.out hb)
  have HG2 := Lib.hid (blk_below HG1.out hb)
  have HR2 := Lib.hid (blk_below HR1.out hb)
  have HC2 := Lib.hid (Kd.C_below HC1.out hb)
  have HS2 : Hid (w.heap.size + 3 ≤ w2.heap.size) := Lib.hid (by have := HSZ.out; have := hb.size; omega)
  clear hb HB1 HM1 HG1 HR1 HC1 HSZ
  rcases pos_find HASC.out HP.out with ⟨hf, hd⟩ | ⟨q, hq, hf, hd⟩
  rotate_left
  · rw [hd]
    have HF0 := Lib.hid hf
    clear hf hd hq
    go_wp2_with (first | (refine gate_ (.store 28 (.tmp 4) (.tmp 17)) rfl ?_; go_must (refine Stb.store_list rfl rfl 28 (.tmp 4) (.tmp 17) rfl (cur' := zM) [.int .i64 0, .int .i64 0, .int .i64 0, .int .i64 0, .int .i64 0, .slice none 0 0] (by exact HR2.out) (by rfl) (by rfl) (by rfl) (by kernel_rfl) (Nat.le_of_ble_eq_true rfl) (by rfl) (by rfl) ?_; intro wf hz_ hg_ hs_; have HF := Lib.hid hz_; have HBF := Lib.hid (Stb.below_grown1 HB2.out hg_ (Nat.le_add_right _ 2) HB2.out.size); clear hz_ hg_ hs_)))
    refine bodyPost_ret (results_ct rfl _ _ (w.heap.size + 2) 28 zM (0, 0) _ rfl HF.out Try.underlying28 rfl (by kernel_rfl)) rfl ?_
    exact ⟨6, [], by rw [HAP.out, HF0.out]; rfl, HBF.out, .inl ⟨by decide, rfl⟩⟩
  rw [hd]
  have HF0 := Lib.hid hf
  clear hf hd
  have m0 := blk_cell HM2.out 0
  have m5 := blk_cell HM2.out 5
  by_cases h64 : 64 ≤ l.length
  · have hq1 : decide ((64 : Int) ≤ l.length) = true := decide_eq_true (by omega)
    have hq2 : decide (64 ≤ l.length) = true := decide_eq_true h64
    have HQ := Lib.hid h64
    clear h64
    go_wp2_with (first | (refine gate_ (.store 28 (.tmp 4) (.tmp 23)) rfl ?_; go_must (refine Stb.store_list rfl rfl 28 (.tmp 4) (.tmp 23) rfl (cur' := zM) [.int .i64 0, .int .i64 0, .int .i64 0, .int .i64 0, .int .i64 0, .slice none 0 0] (by exact HR2.out) (by rfl) (by rfl) (by rfl) (by kernel_rfl) (Nat.le_of_ble_eq_true rfl) (by rfl) (by rfl) ?_; intro wf hz_ hg_ hs_; have HF := Lib.hid hz_; have HBF := Lib.hid (Stb.below_grown1 HB2.out hg_ (Nat.le_add_right _ 2) HB2.out.size); clear hz_ hg_ hs_)))
    refine bodyPost_ret (results_ct rfl _ _ (w.heap.size + 2) 28 zM (0, 0) _ rfl HF.out Try.underlying28 rfl (by kernel_rfl)) rfl ?_
    exact ⟨2, [], by rw [HAP.out, HF0.out, if_neg (by decide), if_pos HQ.out], HBF.out, .inl ⟨by decide, rfl⟩⟩
  have hq1 : decide ((64 : Int) ≤ l.length) = false := decide_eq_false (by omega)
  have hq2 : decide (64 ≤ l.length) = false := decide_eq_false h64
  have HL63 : Hid (l.length ≤ 63) := Lib.hid (by omega)
  have HQ := Lib.hid h64
  clear h64
  go_upto_region 6 with fail
  have c0 := blk_cell HG2.out 0
  have c1 := blk_cell HG2.out 1
  have c2 := blk_cell HG2.out 2
  have c3 := blk_cell HG2.out 3
  have c4 := blk_cell HG2.out 4
  have c5 := blk_cell HG2.out 5
  have c6 := blk_cell HG2.out 6
  have c7 := blk_cell HG2.out 7
  refine start_ (n := 9) (S := fun w' => Below w2.heap.size w2 w') (ds := [8]) #[false, false, false, false, false, false, false, false, false] (by kernel_rfl) rfl rfl (below_drew (Below.refl _ _)) (fun hHeld => ?_)
  have HBd := Lib.hid (below_drew (Below.refl w2.heap.size w2))
  generalize w2.drew = wd at HBd hHeld ⊢
  refine pure_ (i := 0) (N := some 24) (v := ?_) (a' := ?_) #[true, false, false, false, false, false, false, false, false] rfl rfl (by kernel_rfl) (fun _ _ _ h => h) (Or.inl ⟨by rfl, ?_⟩) ?_ ?_
  rotate_left
  · intro w'
    go_simp
    with_reducible rfl
  rotate_left
  · simp only [Act.put, List.setIfInBounds_toArray, List.set_cons_zero, List.set_cons_succ, i64_w, i32_w]
    rfl
  refine take_ (i := 1) (N := some 25) (v := ?_) (a' := ?_) #[true, true, false, false, false, false, false, false, false] rfl rfl (by kernel_rfl) (fun _ _ _ h => h) (Or.inl ⟨by rfl, ?_⟩) hHeld ?_ ?_
  rotate_left
  · rintro w' hS
    have x5 := pw_cell_below hS m5
    go_simp
    with_reducible rfl
  rotate_left
  · simp only [Act.put, List.setIfInBounds_toArray, List.set_cons_zero, List.set_cons_succ, i64_w, i32_w]
    rfl
  refine pure_ (i := 3) (N := some 27) (v := ?_) (a' := ?_) #[true, true, false, true, false, false, false, false, false] rfl rfl (by kernel_rfl) (fun _ _ _ h => h) (Or.inl ⟨by rfl, ?_⟩) ?_ ?_
  rotate_left
  · intro w'
    go_simp
    with_reducible rfl
  rotate_left
  · simp only [Act.put, List.setIfInBounds_toArray, List.set_cons_zero, List.set_cons_succ, i64_w, i32_w]
    rfl
  refine take_ (i := 4) (N := some 28) (v := ?_) (a' := ?_) #[true, true, false, true, true, false, false, false, false] rfl rfl (by kernel_rfl) (fun _ _ _ h => h) (Or.inl ⟨by rfl, ?_⟩) hHeld ?_ ?_
  rotate_left
  · rintro w' hS
    have x0 := pw_cell_below hS c0
    have x1 := pw_cell_below hS c1
    have x2 := pw_cell_below hS c2
    have x3 := pw_cell_below hS c3
    have x4 := pw_cell_below hS c4
    have x5 := pw_cell_below hS c5
    have x6 := pw_cell_below hS c6
    have x7 := pw_cell_below hS c7
    go_simp
    with_reducible rfl
  rotate_left
  · simp only [Act.put, List.setIfInBounds_toArray, List.set_cons_zero, List.set_cons_succ, i64_w, i32_w]
    rfl
  refine join_ (σ := Option Addr × Nat × Nat) 3 #[true, true, true, true, true, true, false, false, false] (fun s => [(26, .slice s.1 l.length s.2.1), (29, .slice (some ⟨s.2.2, 0, none⟩) 1 1)]) (fun s w' => Hid (kO.R 37 w' w2.heap.size (fun _ => True) (.slice s.1 l.length s.2.1) l) ∧ Hid (w'.heap[s.2.2]? = some (.cells (aggO o) 37 (0, 0))) ∧ Hid (∀ g, s.1 = some ⟨g, 0, none⟩ → s.2.2 ≠ g) ∧ Hid (Below w2.heap.size w2 w')) ?_ (fun hfin => ?_)
  · rintro ⟨A5, cp5, vb⟩ w9 ⟨HR9, HV9, HN9, HB9⟩
    dsimp only at HR9 HV9 HN9
    refine norm_ (a' := ?_) ?_ ?_
    rotate_left
    · show putAll _ _ = _
      simp only [putAll, Act.put, List.setIfInBounds_toArray, List.set_cons_zero, List.set_cons_succ]
      rfl
    refine one_ (i := 6) (N := some 30) #[true, true, true, true, true, true, true, false, false] rfl rfl (by kernel_rfl) (by decide) (fun K hK => ?_)
    refine goes_ Try.func54 (by kernel_rfl) rfl #[.slice A5 l.length cp5, .int .i64 (j : Nat), .slice (some ⟨vb, 0, none⟩) 1 1] (by rfl) rfl rfl (by (try simp only [List.map_toArray, List.map_cons, List.map_nil]); first | done | rfl | (go_simp; done) | (go_simp; rfl)) ?_
    refine (ins_calls A5 cp5 j o vb w9 HR9.out HPL.out HV9.out HN9.out HB9.out.size HL63.out).mono ?_
    rintro e w6 ⟨v6, rfl, hr6, hb6⟩
    obtain ⟨A7, cp7, hv6⟩ := Kd.R_slice hr6
    subst hv6
    refine ⟨_, rfl, ?_⟩
    refine hK.out _ _ (below_over HB9.out hb6) (fun hHeld => ?_)
    clear hK K
    refine norm_ (a' := ?_) ?_ ?_
    rotate_left
    · show Act.put _ (some 30) _ = _
      simp only [Act.put, List.setIfInBounds_toArray, List.set_cons_zero, List.set_cons_succ, i64_w, i32_w]
      rfl
    have HR6 := Lib.hid hr6
    have HB6 := Lib.hid hHeld
    obtain ⟨l', hl'⟩ : ∃ l', l' = l.take j ++ o :: l.drop j := ⟨_, rfl⟩
    rw [← hl'] at HR6 ⊢
    have HLI := Lib.hid hl'
    clear hr6 hb6 hl'
    have HM6 := Lib.hid (blk_below HM2.out HB6.out)
    refine pure_ (i := 7) (N := some 31) (v := ?_) (a' := ?_) #[true, true, true, true, true, true, true, true, false] rfl rfl (by kernel_rfl) (fun _ _ _ h => h) (Or.inl ⟨by rfl, ?_⟩) ?_ ?_
    rotate_left
    · intro w'
      go_simp
      with_reducible rfl
    rotate_left
    · simp only [Act.put, List.setIfInBounds_toArray, List.set_cons_zero, List.set_cons_succ, i64_w, i32_w]
      rfl
    refine last_ (i := 8) (N := none) #[true, true, true, true, true, true, true, true, true] rfl rfl (by kernel_rfl) (by decide) (fun K hK => ?_)
    refine Stb.store_step (by rfl) rfl 26 (.tmp 31) (.tmp 30) (by rfl) (cur' := #[.int .i64 ep, .int .i64 k, .int .i64 m, .int .i64 p, .int .i64 d, .slice A7 l'.length cp7]) [.slice A7 l'.length cp7] HM6.out (by rfl) (by rfl) (by rfl) (by kernel_rfl) (Nat.le_of_ble_eq_true rfl) (by rfl) (by rfl) ?_
    intro w7 hz7 hg7 hs7
    have HM7 := Lib.hid hz7
    have HG7 := Lib.hid hg7
    have HS7 := Lib.hid hs7
    clear hz7 hg7 hs7
    refine hK.out _ _ ?_
    clear hK K
    refine norm_ (a' := ?_) ?_ ?_
    rotate_left
    · show Act.put _ (none) _ = _
      simp only [Act.put, List.setIfInBounds_toArray, List.set_cons_zero, List.set_cons_succ, i64_w, i32_w]
      rfl
    refine done_ (by kernel_rfl) ?_
    have hne1 : ∀ b, b < w2.heap.size → b ≠ w.heap.size → w7.heap[b]? = w2.heap[b]? := fun b hb hn => (HG7.out.block b (Nat.lt_of_lt_of_le hb HB6.out.size) (fun e => hn (Option.some.inj e))).trans (HB6.out.block b hb)
    have HR7 : Hid (w7.heap[w.heap.size + 2]? = some (.cells zM 28 (0, 0))) := Lib.hid ((hne1 _ (by have := HS2.out; omega) (by omega)).trans HR2.out)
    have HB7 : Hid (Below w.heap.size w w7) := Lib.hid (Stb.below_grown1 (below_then HB2.out HB2.out.size HB6.out) HG7.out (Nat.le_refl _) (Nat.le_trans HB2.out.size HB6.out.size))
    have HO7 : Hid (kO.R 37 w7 w.heap.size (fun k => k ≠ w.heap.size ∧ k ≠ w.heap.size + 2) (.slice A7 l'.length cp7) l') := Lib.hid (Kd.R_lower (Kd.R_grown (Kd.R_mono (Kd.R_bound HR6.out) (fun k hk => (⟨by have := HS2.out; omega, by have := HS2.out; omega⟩ : k ≠ w.heap.size ∧ k ≠ w.heap.size + 2))) HG7.out (fun k hk e => hk.1 (Option.some.inj e))) HB2.out.size)
    have HIN : Hid (insA o l = l') := Lib.hid (by rw [HLI.out]; exact ins_pos o l j HP.out (find_none_ne HF0.out))
    clear hne1 hHeld HB6 HR6 HG7 HM6 m0 m5 c0 c1 c2 c3 c4 c5 c6 c7
    have m0 := blk_cell HM7.out 0
    have he3 : 0 ≤ ep := HE0.out
    have he4 : ep < 1048576 := HE1.out
    go_wp2_with (first | (refine gate_ (.store 3 (.tmp 35) (.tmp 34)) rfl ?_; go_must (refine Stb.store_list rfl rfl 3 (.tmp 35) (.tmp 34) rfl (cur' := #[.int .i64 (ep + 1), .int .i64 k, .int .i64 m, .int .i64 p, .int .i64 d, .slice A7 l'.length cp7]) [.int .i64 (ep + 1)] (by exact HM7.out) (by rfl) (by rfl) (by rfl) (by kernel_rfl) (Nat.le_of_ble_eq_true rfl) (by rfl) (by rfl) ?_; intro w8 hz_ hg_ hs_; have HM8 := Lib.hid hz_; have HR8 := Lib.hid (blk_grown HR7.out hg_ (fun e => by injection e with e; omega)); have HB8 := Lib.hid (Stb.below_grown1 HB7.out hg_ (Nat.le_refl _) HB7.out.size); have HO8 := Lib.hid (Kd.R_grown HO7.out hg_ (fun k hk e => hk.1 (Option.some.inj e))); have m0 := blk_cell HM8.out 0; have m1 := blk_cell HM8.out 1; have m2 := blk_cell HM8.out 2; have m3 := blk_cell HM8.out 3; have m4 := blk_cell HM8.out 4; have m5 := blk_cell HM8.out 5; clear hz_ hg_ hs_)))
    obtain ⟨mb, hmb⟩ : ∃ mb, mb = mayB (ep + 1) k m p d l' := ⟨_, rfl⟩
    have TM := Lib.hid (check_calls (ep + 1) k m p d A7 cp7 l' w8 (Kd.R_reads' HO8.out).2.2 (by rw [HLI.out]; exact wf_ins HWF.out HOS.out j))
    rw [← hmb] at TM
    have HMB := Lib.hid hmb
    clear hmb
    refine TM.out.mono ?_
    rintro e w9 ⟨rfl, hb⟩
    have HB9 := Lib.hid (below_then HB8.out HB8.out.size hb)
    have HM9 := Lib.hid (blk_below HM8.out hb)
    have HR9 := Lib.hid (blk_below HR8.out hb)
    have HO9 := Lib.hid (Kd.R_below HO8.out hb)
    clear hb TM m0 m1 m2 m3 m4 m5 HB8 HM8 HR8 HO8
    simp only [if_true, if_false, Bool.false_eq_true]
    cases mb with
    | false =>
      go_wp2_with (first | (refine gate_ (.store 28 (.tmp 4) (.tmp 39)) rfl ?_; go_must (refine Stb.store_list rfl rfl 28 (.tmp 4) (.tmp 39) rfl (cur' := zM) [.int .i64 0, .int .i64 0, .int .i64 0, .int .i64 0, .int .i64 0, .slice none 0 0] (by exact HR9.out) (by rfl) (by rfl) (by rfl) (by kernel_rfl) (Nat.le_of_ble_eq_true rfl) (by rfl) (by rfl) ?_; intro wf hz_ hg_ hs_; have HF := Lib.hid hz_; have HBF := Lib.hid (Stb.below_grown1 HB9.out hg_ (Nat.le_add_right _ 2) HB9.out.size); clear hz_ hg_ hs_)))
      refine bodyPost_ret (results_ct rfl _ _ (w.heap.size + 2) 28 zM (0, 0) _ rfl HF.out Try.underlying28 rfl (by kernel_rfl)) rfl ?_
      exact ⟨1, [], by rw [HAP.out, HF0.out, if_neg (by decide), if_neg HQ.out, HIN.out, ← HMB.out, if_neg (by decide)], HBF.out, .inl ⟨by decide, rfl⟩⟩
    | true =>
      have m0 := blk_cell HM9.out 0
      have m1 := blk_cell HM9.out 1
      have m2 := blk_cell HM9.out 2
      have m3 := blk_cell HM9.out 3
      have m4 := blk_cell HM9.out 4
      have m5 := blk_cell HM9.out 5
      go_wp2_with (first | (refine gate_ (.store 28 (.tmp 4) (.tmp 40)) rfl ?_; go_must (refine Stb.store_list rfl rfl 28 (.tmp 4) (.tmp 40) rfl (cur' := #[.int .i64 (ep + 1), .int .i64 k, .int .i64 m, .int .i64 p, .int .i64 d, .slice A7 l'.length cp7]) [.int .i64 (ep + 1), .int .i64 k, .int .i64 m, .int .i64 p, .int .i64 d, .slice A7 l'.length cp7] (by exact HR9.out) (by rfl) (by rfl) (by rfl) (by kernel_rfl) (Nat.le_of_ble_eq_true rfl) (by rfl) (by rfl) ?_; intro wf hz_ hg_ hs_; have HF := Lib.hid hz_; have HBF := Lib.hid (Stb.below_grown1 HB9.out hg_ (Nat.le_add_right _ 2) HB9.out.size); have HWF2 := Lib.hid (Kd.R_grown HO9.out hg_ (fun k hk e => hk.2 (Option.some.inj e))); clear hz_ hg_ hs_)))
      refine bodyPost_ret (results_ct rfl _ _ (w.heap.size + 2) 28 #[.int .i64 (ep + 1), .int .i64 k, .int .i64 m, .int .i64 p, .int .i64 d, .slice A7 l'.length cp7] (0, 0) _ rfl HF.out Try.underlying28 rfl (by kernel_rfl)) rfl ?_
      exact ⟨0, l', by rw [HAP.out, HF0.out, if_neg (by decide), if_neg HQ.out, HIN.out, ← HMB.out, if_pos rfl], HBF.out, .inr ⟨rfl, A7, cp7, rfl, Kd.R_mono HWF2.out (fun _ _ => trivial)⟩⟩
  refine two_ (i := 2) (j := 5) (Ni := some 26) (Nj := some 29) #[true, true, true, true, true, false, false, false, false] #[true, true, false, true, true, true, false, false, false] rfl rfl rfl rfl (by kernel_rfl) (by decide) (by decide) (fun K hK => ?_) (fun K hK => ?_)
  · refine goes_ Try.func33 (by kernel_rfl) rfl #[.slice A l.length c] (by rfl) rfl rfl (by (try simp only [List.map_toArray, List.map_cons, List.map_nil]); first | done | rfl | (go_simp; done) | (go_simp; rfl)) ?_
    refine (clone_calls A c l _ (Kd.C_below HC2.out HBd.out) HL64.out).mono ?_
    rintro e w5 ⟨v5, rfl, hr, hb⟩
    obtain ⟨A5, cp5, hv5⟩ := Kd.R_slice hr
    subst hv5
    refine ⟨_, rfl, ?_⟩
    refine hK.out _ _ (below_then HBd.out HBd.out.size hb) (fun hHeld => ?_)
    clear hK K
    refine norm_ (a' := ?_) ?_ ?_
    rotate_left
    · show Act.put _ (some 26) _ = _
      simp only [Act.put, List.setIfInBounds_toArray, List.set_cons_zero, List.set_cons_succ, i64_w, i32_w]
      rfl
    refine one_ (i := 5) (N := some 29) #[true, true, true, true, true, true, false, false, false] rfl rfl (by kernel_rfl) (by decide) (fun K hK => ?_)
    refine value_ (w1 := ?_) (v := ?_) (by rfl) rfl ?_ ?_
    rotate_left 2
    · go_simp
      constructor
      · rfl
      · rfl
    refine hK.out _ _ (below_alloc hHeld _) (fun hHeld => ?_)
    clear hK K
    refine norm_ (a' := ?_) ?_ ?_
    rotate_left
    · show Act.put _ (some 29) _ = _
      simp only [Act.put, List.setIfInBounds_toArray, List.set_cons_zero, List.set_cons_succ, i64_w, i32_w]
      rfl
    have h9 := hfin (A5, cp5, w5.heap.size) _ ⟨Lib.hid (Kd.R_alloc (Kd.R_lower hr HBd.out.size) _), Lib.hid (blk_new w5 _), Lib.hid (fun g hg e => by have hg2 : A5 = some ⟨g, 0, none⟩ := hg; have h1 := Kd.R_lt hr g (by rw [hg2]; rfl); have e2 : w5.heap.size = g := e; omega), Lib.hid hHeld⟩
    refine norm_ ?_ h9
    show _ = putAll _ _
    simp only [putAll, Act.put, List.setIfInBounds_toArray, List.set_cons_zero, List.set_cons_succ]
  · refine value_ (w1 := ?_) (v := ?_) (by rfl) rfl ?_ ?_
    rotate_left 2
    · go_simp
      constructor
      · rfl
      · rfl
    refine hK.out _ _ (below_alloc HBd.out _) (fun hHeld => ?_)
    clear hK K
    refine norm_ (a' := ?_) ?_ ?_
    rotate_left
    · show Act.put _ (some 29) _ = _
      simp only [Act.put, List.setIfInBounds_toArray, List.set_cons_zero, List.set_cons_succ, i64_w, i32_w]
      rfl
    refine one_ (i := 2) (N := some 26) #[true, true, true, true, true, true, false, false, false] rfl rfl (by kernel_rfl) (by decide) (fun K hK => ?_)
    refine goes_ Try.func33 (by kernel_rfl) rfl #[.slice A l.length c] (by rfl) rfl rfl (by (try simp only [List.map_toArray, List.map_cons, List.map_nil]); first | done | rfl | (go_simp; done) | (go_simp; rfl)) ?_
    refine (clone_calls A c l _ (Kd.C_below HC2.out (below_alloc HBd.out _)) HL64.out).mono ?_
    rintro e w5 ⟨v5, rfl, hr, hb⟩
    obtain ⟨A5, cp5, hv5⟩ := Kd.R_slice hr
    subst hv5
    refine ⟨_, rfl, ?_⟩
    refine hK.out _ _ (below_then (below_alloc HBd.out _) (below_alloc HBd.out _).size hb) (fun hHeld => ?_)
    clear hK K
    refine norm_ (a' := ?_) ?_ ?_
    rotate_left
    · show Act.put _ (some 26) _ = _
      simp only [Act.put, List.setIfInBounds_toArray, List.set_cons_zero, List.set_cons_succ, i64_w, i32_w]
      rfl
    have h9 := hfin (A5, cp5, wd.heap.size) _ ⟨Lib.hid (Kd.R_lower hr (below_alloc HBd.out _).size), Lib.hid (blk_below (blk_new wd _) hb), Lib.hid (fun g hg e => by have hg2 : A5 = some ⟨g, 0, none⟩ := hg; have h1 := Kd.R_base hr g (by rw [hg2]; rfl); have e2 : wd.heap.size = g := e; simp only [World.alloc, Array.size_push] at h1; omega), Lib.hid hHeld⟩
    refine norm_ ?_ h9
    show _ = putAll _ _
    simp only [putAll, Act.put, List.setIfInBounds_toArray, List.set_cons_zero, List.set_cons_succ]
end Go.Proofs.Ytfikaekocgofoaa.AtQ
