import Derived.Test.YtnpphmgibgfjoaaKCov3
import Derived.Test.YtnpphmgibgfjoaaRows
import Derived.WalkKit
import Derived.ProofKit
import Derived.OpenShut
import Derived.ShutString
import Derived.ChangeOld
import Derived.Below
import Derived.SizedLaws
import Derived.JoinedCond
import Derived.Deep.CondSized
/- Merged texts, one behind the other: PlA, PlL, PlN, PlW, PlK, IvA, IvK, IvP, LCv, RowIntervalCovers. -/
/- Who keeps a placement group. -/
namespace Go.Proofs.Ytnpphmgibgfjoaa.PlA
open Go Go.RowKit Go.Proofs.YtnpphmgibgfjoaaW.PrintWords Go.Proofs.YtnpphmgibgfjoaaW.PrintMore Mem PAll KW MixP MixW StrP AtA Srt Grp Sl Dsc AtB Roo Cho MayP Awk UpsP ApP PlF PlU LAp
open CrP hiding Od
def aO : Option Od → Int
  | some o => if o.f1 = true then o.f0 else -1
  | none => -1
def mixA (cs : List (Option Od)) (i : Nat) : List Int := (cs.take i).map aO ++ (cs.drop i).map vO
theorem mixA_zero (cs : List (Option Od)) : mixA cs 0 = cs.map vO := by simp [mixA]
theorem mixA_all {cs : List (Option Od)} {n : Nat} (h : cs.length = n) : mixA cs n = cs.map aO := by
  unfold mixA
  rw [List.take_of_length_le (by omega), List.drop_eq_nil_of_le (by omega)]
  simp
theorem mixA_len (cs : List (Option Od)) (i : Nat) (h : i ≤ cs.length) : (mixA cs i).length = cs.length := by
  simp only [mixA, List.length_append, List.length_map, List.length_take, List.length_drop]
  omega
theorem mixA_get {cs : List (Option Od)} {i : Nat} {c : Option Od} (h : cs[i]? = some c) : (mixA cs i)[i]? = some (vO c) := by
  have hi := (List.getElem?_eq_some_iff.1 h).1
  have hl : ((cs.take i).map aO).length = i := by rw [List.length_map, List.length_take]; omega
  unfold mixA
  rw [List.getElem?_append_right (by omega), hl, Nat.sub_self, List.getElem?_map, List.getElem?_drop, Nat.add_zero, h]
  rfl
theorem mixA_succ {cs : List (Option Od)} {i : Nat} {c : Option Od} (h : cs[i]? = some c) : mixA cs (i + 1) = (mixA cs i).set i (aO c) := by
  obtain ⟨hi, e⟩ := List.getElem?_eq_some_iff.1 h
  have hl : ((cs.take i).map aO).length = i := by rw [List.length_map, List.length_take]; omega
  unfold mixA
  rw [List.set_append_right _ _ (by omega), hl, Nat.sub_self, List.drop_eq_getElem_cons hi, List.map_cons, List.set_cons_zero, List.take_succ_eq_append_getElem hi, List.map_append, e, List.append_assoc]
  rfl
theorem mixA_same {cs : List (Option Od)} {i : Nat} {c : Option Od} (h : cs[i]? = some c) (he : aO c = vO c) : mixA cs (i + 1) = mixA cs i := by
  rw [mixA_succ h, he]
  apply List.ext_getElem?
  intro j
  rw [List.getElem?_set]
  by_cases e : i = j
  · subst e
    rw [if_pos rfl, mixA_get h, if_pos (List.getElem?_eq_some_iff.1 (mixA_get h)).1]
  · rw [if_neg e]
theorem outA_put {n i : Nat} {ps : List Int} (h : i < ps.length) (v : Int) : (outA n ps).setIfInBounds i (.int .i64 v) = outA n (ps.set i v) := by
  unfold outA
  rw [List.setIfInBounds_toArray, List.set_append_left _ _ (by rw [List.length_map]; exact h), ← List.map_set, List.length_set]
set_option maxHeartbeats 8000000 in
set_option maxRecDepth 100000 in
theorem Acting_ok (ep k m p d : Int) (A : Option Addr) (c : Nat) (l : List Od) (pg : Int) (n : Nat) (w : World) (hx : kO.C w A l.length l) (hwf : WfL l) (hn : upB (mayB ep k m p d l) pg p = true) (hkm : k + m = n) :
    Calls Try.prog 35 #[.agg (boxM ep k m p d A c l), .int .i64 pg] w fun e w' => ∃ g, e = .returned (.tuple #[.slice (some ⟨g, 0, none⟩) n n, .int .i64 0]) ∧ w.heap.size ≤ g ∧ w'.heap[g]? = some (.cells (outA n ((slots l (pgX pg) n (domL d) n 0 []).map aO)) 3 (0, 0)) ∧ Below w.heap.size w w' := by
  have HB1 := Lib.hid (below_alloc (Below.refl w.heap.size w) (.cells (boxM ep k m p d A c l) 26))
  have HM1 : Hid ((w.alloc (.cells (boxM ep k m p d A c l) 26)).heap[w.heap.size]? = some (.cells (boxM ep k m p d A c l) 26 (0, 0))) := Lib.hid (blk_new _ _)
  have HC0 := Lib.hid hx
  have HC1 := Lib.hid (Kd.C_alloc hx (.cells (boxM ep k m p d A c l) 26))
  have T := Lib.hid (Up_ok ep k m p d A c l pg n _ HC1.out hwf hn hkm)
  have hup := hn
  unfold upB at hup
  simp only [Bool.and_eq_true, decide_eq_true_eq] at hup
  have hm := hup.1
  have hr := pool_ranges hm
  have hn32 : n ≤ 32 := by omega
  obtain ⟨cs, hcs⟩ : ∃ cs, cs = slots l (pgX pg) n (domL d) n 0 [] := ⟨_, rfl⟩
  rw [places_slots, ← hcs] at T
  rw [← hcs]
  have HASC := Lib.hid (may_asc hm)
  have HLEN : Hid (cs.length = n) := Lib.hid (by rw [hcs]; exact slots_len _ _ _ _ _ _ _)
  have HRNG : Hid (∀ o ∈ l, 0 ≤ o.f0) := Lib.hid (fun o ho => (osd_ranges (may_osd hm o ho)).1.1)
  have HSM : Hid (∀ (i : Nat) (o : Od), cs[i]? = some (some o) → findO l o.f0 = some o) := Lib.hid (fun i o h => by
    rw [hcs] at h
    exact findO_mem HASC.out (slots_mem HASC.out (List.mem_of_getElem? h)).1)
  have HFN : Hid (findO l (-1) = none) := Lib.hid (findO_none (fun o ho e => by have := HRNG.out o ho; omega))
  have TF := Lib.hid (fun id w1 h => aFind_calls ep k m p d A c l id w1 h)
  unfold boxM at *
  clear hx hwf hn hup hm hr hkm hcs
  go_enter Try.func35, Try.ntmps35
  go_wp2_with fail
  refine T.out.mono ?_
  rintro e w1 ⟨g, rfl, hg, hgh, hb⟩
  have HB2 := Lib.hid (below_then HB1.out HB1.out.size hb)
  have HM2 := Lib.hid (blk_below HM1.out hb)
  have HC2 := Lib.hid (Kd.C_below HC1.out hb)
  have HGH : Hid (w1.heap[g]? = some (.cells (outA n (mixA cs 0)) 3 (0, 0))) := Lib.hid (by rw [hgh, mixA_zero])
  have HGG : Hid (w.heap.size + 1 ≤ g) := Lib.hid (by simpa only [World.alloc, Array.size_push] using hg)
  clear hb hg hgh T HB1 HM1 HC1
  go_wp2_with fail
  go_loopw [20] (fun i' wr => ∃ i : Nat, i' = .int .i64 i ∧ Hid (i ≤ n) ∧ Hid (wr.heap[g]? = some (.cells (outA n (mixA cs i)) 3 (0, 0))) ∧ Hid (wr.heap[w.heap.size]? = some (.cells #[.int .i64 ep, .int .i64 k, .int .i64 m, .int .i64 p, .int .i64 d, .slice A l.length c] 26 (0, 0))) ∧ Hid (Below w.heap.size w wr) ∧ Hid (kO.C wr A l.length l)) (fun i' _ => (n - intOf i').toNat)
  case atStart => exact ⟨0, rfl, Lib.hid (Nat.zero_le _), HGH, HM2, HB2, HC2⟩
  case round =>
    obtain ⟨i, rfl, HI, HG, HM, HB, HC⟩ := hrel
    clear HGH HM2 HB2 HC2
    have hi := HI.out
    by_cases h : i < n
    · have hlt : decide ((i : Int) < (n : Int)) = true := decide_eq_true (by omega)
      have hlt2 : decide (i < n) = true := decide_eq_true h
      have i0 : (0 : Int) ≤ i := by omega
      have i1 : (i : Int) < n := by omega
      obtain ⟨ci, hci⟩ : ∃ ci, cs[i]? = some ci := ⟨cs[i]'(by rw [HLEN.out]; exact h), List.getElem?_eq_getElem (by rw [HLEN.out]; exact h)⟩
      have gc : wr.cell? ⟨g, i, none⟩ = some (.int .i64 (vO ci)) := by rw [blk_cell HG.out i]; exact outA_at (mixA_get hci)
      have HIL := Lib.hid h
      have HCI := Lib.hid hci
      have HML : Hid (i < (mixA cs i).length) := Lib.hid (by rw [mixA_len _ _ (by rw [HLEN.out]; exact HI.out), HLEN.out]; exact h)
      have m0 := blk_cell HM.out 0
      have m1 := blk_cell HM.out 1
      have m2 := blk_cell HM.out 2
      have m3 := blk_cell HM.out 3
      have m4 := blk_cell HM.out 4
      have m5 := blk_cell HM.out 5
      clear h
      cases ci with
      | none =>
        have e1 : vO none = -1 := rfl
        rw [e1] at gc
        have T2 : Hid (Calls Try.prog 66 #[.agg #[.int .i64 ep, .int .i64 k, .int .i64 m, .int .i64 p, .int .i64 d, .slice A l.length c], .int .i64 (-1)] wr fun e w' => e = .returned (.tuple #[.agg (#[.int .i64 0, .bool false, .bool false, .int .i64 0, .int .i64 0, .int .i64 0, .int .i64 0, .int .i64 0]), .bool false]) ∧ Below wr.heap.size wr w') := Lib.hid (by
          have h1 := TF.out (-1) wr HC.out
          rw [HFN.out] at h1
          exact h1)
        clear e1 hci
        go_wp2_with fail
        refine T2.out.mono ?_
        rintro e w5 ⟨rfl, hb⟩
        clear T2 m0 m1 m2 m3 m4 m5 gc
        have hb6 := below_alloc hb (.cells (#[.int .i64 0, .bool false, .bool false, .int .i64 0, .int .i64 0, .int .i64 0, .int .i64 0, .int .i64 0]) 40)
        have HB6 := Lib.hid (below_then HB.out HB.out.size hb6)
        have HM6 := Lib.hid (blk_below HM.out hb6)
        have HG6 := Lib.hid (blk_below HG.out hb6)
        have HC6 := Lib.hid (Kd.C_below HC.out hb6)
        clear hb hb6 HB HM HG HC
        have gf := blk_frozen HG6.out i
        have gcell : ∃ u, (w5.alloc (.cells (#[.int .i64 0, .bool false, .bool false, .int .i64 0, .int .i64 0, .int .i64 0, .int .i64 0, .int .i64 0]) 40)).cell? ⟨g, i, none⟩ = some u := ⟨_, by rw [blk_cell HG6.out i]; exact outA_at (mixA_get HCI.out)⟩
        obtain ⟨gu, gcell⟩ := gcell
        have hlt : decide ((i : Int) < (n : Int)) = true := decide_eq_true (by omega)
        go_wp2_with fail
        go_roundw
        case rel =>
          refine ⟨i + 1, by go_num, Lib.hid HIL.out, Lib.hid ?_, Lib.hid (blk_far HM6.out (by have := HGG.out; show w.heap.size ≠ g; omega) _), Lib.hid (HB6.out.setCell (show w.heap.size ≤ g by have := HGG.out; omega) _), Lib.hid (Kd.C_below HC0.out (HB6.out.setCell (show w.heap.size ≤ g by have := HGG.out; omega) _))⟩
          refine blk_put HG6.out i _ ?_
          rw [outA_put HML.out, mixA_succ HCI.out]
          rfl
        case measure => have := HIL.out; simp only [intOf]; omega
      | some o =>
        have e1 : vO (some o) = o.f0 := rfl
        rw [e1] at gc
        have T2 : Hid (Calls Try.prog 66 #[.agg #[.int .i64 ep, .int .i64 k, .int .i64 m, .int .i64 p, .int .i64 d, .slice A l.length c], .int .i64 o.f0] wr fun e w' => e = .returned (.tuple #[.agg (aggO o), .bool true]) ∧ Below wr.heap.size wr w') := Lib.hid (by
          have h1 := TF.out o.f0 wr HC.out
          rw [HSM.out i o hci] at h1
          exact h1)
        clear e1 hci
        go_wp2_with fail
        refine T2.out.mono ?_
        rintro e w5 ⟨rfl, hb⟩
        clear T2 m0 m1 m2 m3 m4 m5 gc
        have hb6 := below_alloc hb (.cells (aggO o) 40)
        have HB6 := Lib.hid (below_then HB.out HB.out.size hb6)
        have HM6 := Lib.hid (blk_below HM.out hb6)
        have HG6 := Lib.hid (blk_below HG.out hb6)
        have HC6 := Lib.hid (Kd.C_below HC.out hb6)
        clear hb hb6 HB HM HG HC
        cases hup : o.f1 with
        | true =>
          have HUP := Lib.hid hup
          have yy : (w5.alloc (.cells (aggO o) 40)).cell? ⟨w5.heap.size, 1, none⟩ = some (.bool true) := by rw [← hup]; exact blk_cell (blk_new w5 (.cells (aggO o) 40)) 1
          clear hup
          go_wp2_with fail
          go_roundw
          case rel => exact ⟨i + 1, by go_num, Lib.hid HIL.out, Lib.hid (by rw [mixA_same HCI.out (by show (if o.f1 = true then o.f0 else -1) = o.f0; rw [HUP.out]; rfl)]; exact HG6.out), HM6, HB6, HC6⟩
          case measure => have := HIL.out; simp only [intOf]; omega
        | false =>
          have HUP := Lib.hid hup
          have yy : (w5.alloc (.cells (aggO o) 40)).cell? ⟨w5.heap.size, 1, none⟩ = some (.bool false) := by rw [← hup]; exact blk_cell (blk_new w5 (.cells (aggO o) 40)) 1
          clear hup
          have gf := blk_frozen HG6.out i
          have gcell : ∃ u, (w5.alloc (.cells (aggO o) 40)).cell? ⟨g, i, none⟩ = some u := ⟨_, by rw [blk_cell HG6.out i]; exact outA_at (mixA_get HCI.out)⟩
          obtain ⟨gu, gcell⟩ := gcell
          have hlt : decide ((i : Int) < (n : Int)) = true := decide_eq_true (by omega)
          go_wp2_with fail
          go_roundw
          case rel =>
            refine ⟨i + 1, by go_num, Lib.hid HIL.out, Lib.hid ?_, Lib.hid (blk_far HM6.out (by have := HGG.out; show w.heap.size ≠ g; omega) _), Lib.hid (HB6.out.setCell (show w.heap.size ≤ g by have := HGG.out; omega) _), Lib.hid (Kd.C_below HC0.out (HB6.out.setCell (show w.heap.size ≤ g by have := HGG.out; omega) _))⟩
            refine blk_put HG6.out i _ ?_
            rw [outA_put HML.out, mixA_succ HCI.out, show aO (some o) = -1 by show (if o.f1 = true then o.f0 else -1) = -1; rw [HUP.out]; rfl]
          case measure => have := HIL.out; simp only [intOf]; omega
    · obtain rfl : i = n := by omega
      have hlt : decide ((i : Int) < (i : Int)) = false := decide_eq_false (by omega)
      have hlt2 : decide (i < i) = false := decide_eq_false (by omega)
      go_wp2_with fail
      go_ret2
      refine ⟨g, rfl, by have := HGG.out; omega, ?_, HB.out⟩
      rw [← mixA_all HLEN.out]
      exact HG.out
end Go.Proofs.Ytnpphmgibgfjoaa.PlA
/- The lives of their disks; the first of them; is anybody missing? -/
set_option linter.unusedSimpArgs false
namespace Go.Proofs.Ytnpphmgibgfjoaa.PlL
open Go Go.RowKit Go.Proofs.YtnpphmgibgfjoaaW.PrintWords Go.Proofs.YtnpphmgibgfjoaaW.PrintMore Go.Proofs.YtnpphmgibgfjoaaW.PrintLast Mem PAll KW MixP MixW StrP AtA Srt Grp Sl Dsc AtB Roo Cho MayP Awk UpsP ApP PlF PlU LAp PlA Chr
open CrP hiding Od
def lifeO : Option Od → Int
  | some o => if o.f1 = true then o.f4 else 0
  | none => 0
def bootO : Option Od → Int
  | some o => if o.f1 = true then o.f5 else 0
  | none => 0
theorem I2.nil (w : World) (base : Nat) : I2 w base (.slice none 0 0) [] (.slice none 0 0) [] := ⟨Kd.R_nil _ _ _ _ _, Kd.R_nil _ _ _ _ _⟩
theorem below_of_grown {w w1 : World} (h : w.grownBy w1 none) : Below w.heap.size w w1 := ⟨h.os, h.tape, h.output, h.size, fun i hi => h.block i hi (by simp)⟩
theorem one_rep (w : World) (base : Nat) (ok : Nat → Prop) (x : Int) : Reps (kI.M w base ok) kI.sz [x] [.int .i64 x] := by
  refine ⟨rfl, fun j p hj => ?_⟩
  match j, hj with
  | 0, hj => obtain rfl := Option.some.inj hj; rfl
  | j + 1, hj => cases hj
/-- What Find answers of one who keeps it. -/
theorem find_act {l : List Od} {c : Option Od} (hs : ∀ o, c = some o → findO l o.f0 = some o) (hn : findO l (-1) = none) : ∃ o : Od, ∃ b : Bool, descV (findO l (aO c)) = .tuple #[.agg (aggO o), .bool b] ∧ o.f4 = lifeO c ∧ o.f5 = bootO c := by
  have hz : descV (findO l (-1)) = .tuple #[.agg (aggO ⟨0, false, false, 0, 0, 0, 0, 0⟩), .bool false] := by rw [hn]; rfl
  cases c with
  | none => exact ⟨⟨0, false, false, 0, 0, 0, 0, 0⟩, false, hz, rfl, rfl⟩
  | some o =>
    by_cases h : o.f1 = true
    · refine ⟨o, true, ?_, ?_, ?_⟩
      · show descV (findO l (if o.f1 = true then o.f0 else -1)) = _
        rw [if_pos h, hs o rfl]
        rfl
      · show o.f4 = if o.f1 = true then o.f4 else 0; rw [if_pos h]
      · show o.f5 = if o.f1 = true then o.f5 else 0; rw [if_pos h]
    · refine ⟨⟨0, false, false, 0, 0, 0, 0, 0⟩, false, ?_, ?_, ?_⟩
      · show descV (findO l (if o.f1 = true then o.f0 else -1)) = _
        rw [if_neg h]
        exact hz
      · show 0 = if o.f1 = true then o.f4 else 0; rw [if_neg h]
      · show 0 = if o.f1 = true then o.f5 else 0; rw [if_neg h]
set_option maxHeartbeats 8000000 in
set_option maxRecDepth 100000 in
theorem Lives_ok (ep k m p d : Int) (A : Option Addr) (c : Nat) (l : List Od) (pg : Int) (n : Nat) (w : World) (hx : kO.C w A l.length l) (hwf : WfL l) (hn : upB (mayB ep k m p d l) pg p = true) (hkm : k + m = n) :
    Calls Try.prog 54 #[.agg (boxM ep k m p d A c l), .int .i64 pg] w fun e w' => ∃ v1 v2, e = .returned (.tuple #[v1, v2, .int .i64 0]) ∧ I2 w' w.heap.size v1 ((slots l (pgX pg) n (domL d) n 0 []).map lifeO) v2 ((slots l (pgX pg) n (domL d) n 0 []).map bootO) ∧ Below w.heap.size w w' := by
  have HB1 := Lib.hid (below_alloc (Below.refl w.heap.size w) (.cells (boxM ep k m p d A c l) 26))
  have HM1 : Hid ((w.alloc (.cells (boxM ep k m p d A c l) 26)).heap[w.heap.size]? = some (.cells (boxM ep k m p d A c l) 26 (0, 0))) := Lib.hid (blk_new _ _)
  have HC1 := Lib.hid (Kd.C_alloc hx (.cells (boxM ep k m p d A c l) 26))
  have T := Lib.hid (Acting_ok ep k m p d A c l pg n _ HC1.out hwf hn hkm)
  have hup := hn
  unfold upB at hup
  simp only [Bool.and_eq_true, decide_eq_true_eq] at hup
  have hm := hup.1
  have hr := pool_ranges hm
  have hn32 : n ≤ 32 := by omega
  obtain ⟨cs, hcs⟩ : ∃ cs, cs = slots l (pgX pg) n (domL d) n 0 [] := ⟨_, rfl⟩
  rw [← hcs] at T
  rw [← hcs]
  have HASC := Lib.hid (may_asc hm)
  have HLEN : Hid (cs.length = n) := Lib.hid (by rw [hcs]; exact slots_len _ _ _ _ _ _ _)
  have HRNG : Hid (∀ o ∈ l, 0 ≤ o.f0) := Lib.hid (fun o ho => (osd_ranges (may_osd hm o ho)).1.1)
  have HSM : Hid (∀ (i : Nat) (o : Od), cs[i]? = some (some o) → findO l o.f0 = some o) := Lib.hid (fun i o h => by
    rw [hcs] at h
    exact findO_mem HASC.out (slots_mem HASC.out (List.mem_of_getElem? h)).1)
  have HFN : Hid (findO l (-1) = none) := Lib.hid (findO_none (fun o ho e => by have := HRNG.out o ho; omega))
  have TF := Lib.hid (fun id w1 h => aFind_calls ep k m p d A c l id w1 h)
  unfold boxM at *
  clear hx hwf hn hup hm hr hkm hcs
  go_enter Try.func54, Try.ntmps54
  go_wp2_with fail
  refine T.out.mono ?_
  rintro e w2 ⟨g, rfl, hg, hgh, hb⟩
  have HB2 := Lib.hid (below_then HB1.out HB1.out.size hb)
  have HM2 := Lib.hid (blk_below HM1.out hb)
  have HC2 := Lib.hid (Kd.C_below HC1.out hb)
  have HGH := Lib.hid hgh
  clear hb hg hgh T HB1 HM1 HC1
  have HI0 := Lib.hid (I2.nil w2 w2.heap.size)
  have HBB := Lib.hid (Below.refl w2.heap.size w2)
  go_wp2_with fail
  go_loopw [4, 5, 20] (fun v4 v5 i' wr => ∃ i : Nat, i' = .int .i64 i ∧ Hid (i ≤ n) ∧ Hid (I2 wr w2.heap.size v4 ((cs.take i).map lifeO) v5 ((cs.take i).map bootO)) ∧ Hid (Below w2.heap.size w2 wr)) (fun _ _ i' _ => (n - intOf i').toNat)
  case atStart => exact ⟨0, rfl, Lib.hid (Nat.zero_le _), HI0, HBB⟩
  case round =>
    obtain ⟨i, rfl, HI, HR, HB⟩ := hrel
    clear HI0 HBB
    have hi := HI.out
    by_cases h : i < n
    · have hlt : decide ((i : Int) < (n : Int)) = true := decide_eq_true (by omega)
      have hlt2 : decide (i < n) = true := decide_eq_true h
      have i0 : (0 : Int) ≤ i := by omega
      have i1 : (i : Int) < n := by omega
      obtain ⟨ci, hci⟩ : ∃ ci, cs[i]? = some ci := ⟨cs[i]'(by rw [HLEN.out]; exact h), List.getElem?_eq_getElem (by rw [HLEN.out]; exact h)⟩
      have gc : wr.cell? ⟨g, i, none⟩ = some (.int .i64 (aO ci)) := by rw [blk_cell (blk_below HGH.out HB.out) i]; exact outA_at (by rw [List.getElem?_map, hci]; rfl)
      have HIL := Lib.hid h
      have HTK : Hid (cs.take (i + 1) = cs.take i ++ [ci]) := Lib.hid (by obtain ⟨q1, q2⟩ := List.getElem?_eq_some_iff.1 hci; rw [List.take_succ_eq_append_getElem q1, q2])
      have HM := Lib.hid (blk_below HM2.out HB.out)
      have m0 := blk_cell HM.out 0
      have m1 := blk_cell HM.out 1
      have m2 := blk_cell HM.out 2
      have m3 := blk_cell HM.out 3
      have m4 := blk_cell HM.out 4
      have m5 := blk_cell HM.out 5
      obtain ⟨o, b, hd, hl4, hl5⟩ := find_act (l := l) (c := ci) (fun o e => HSM.out i o (by rw [hci, e])) HFN.out
      have T2 : Hid (Calls Try.prog 66 #[.agg #[.int .i64 ep, .int .i64 k, .int .i64 m, .int .i64 p, .int .i64 d, .slice A l.length c], .int .i64 (aO ci)] wr fun e w' => e = .returned (.tuple #[.agg (aggO o), .bool b]) ∧ Below wr.heap.size wr w') := Lib.hid (by
        have h1 := TF.out (aO ci) wr (Kd.C_below HC2.out HB.out)
        rw [hd] at h1
        exact h1)
      have HL4 := Lib.hid hl4
      have HL5 := Lib.hid hl5
      obtain ⟨xs, hxs⟩ : ∃ xs, xs = (cs.take i).map lifeO := ⟨_, rfl⟩
      obtain ⟨ys, hys⟩ : ∃ ys, ys = (cs.take i).map bootO := ⟨_, rfl⟩
      rw [← hxs, ← hys] at HR
      have HXS : Hid (xs.length ≤ 31) := Lib.hid (by rw [hxs, List.length_map]; have := List.length_take_le i cs; omega)
      have HYS : Hid (ys.length ≤ 31) := Lib.hid (by rw [hys, List.length_map]; have := List.length_take_le i cs; omega)
      have HXE := Lib.hid hxs
      have HYE := Lib.hid hys
      obtain ⟨ai, hai⟩ : ∃ ai, ai = aO ci := ⟨_, rfl⟩
      rw [← hai] at T2 gc
      clear h hci hd hl4 hl5 hxs hys hai
      go_wp2_with fail
      refine T2.out.mono ?_
      rintro e w4 ⟨rfl, hb⟩
      have HU4 : Hid (some w4.heap.size ≠ u4.ownBlock) := Lib.hid (fun e => by have h1 := Kd.R_lt HR.out.1 _ e.symm; have := hb.size; omega)
      have HU5 : Hid (some w4.heap.size ≠ u5.ownBlock) := Lib.hid (fun e => by have h1 := Kd.R_lt HR.out.2 _ e.symm; have := hb.size; omega)
      have hb5 := below_alloc hb (.cells (aggO o) 40)
      have HB5 := Lib.hid (below_then HB.out HB.out.size hb5)
      have HI5 := Lib.hid (HR.out.below hb5)
      have HO5 : Hid ((w4.alloc (.cells (aggO o) 40)).heap[w4.heap.size]? = some (.cells (aggO o) 40 (0, 0))) := Lib.hid (blk_new _ _)
      clear hb hb5 T2 m0 m1 m2 m3 m4 m5 gc HR HB
      go_upto_region 6 with fail
      obtain ⟨w5, hw5⟩ : ∃ w5, w5 = w4.alloc (.cells (aggO o) 40) := ⟨_, rfl⟩
      obtain ⟨q, hq⟩ : ∃ q, q = w4.heap.size := ⟨_, rfl⟩
      rw [← hw5] at HB5 HI5 HO5 ⊢
      rw [← hq] at HO5 HU4 HU5 ⊢
      clear hw5 hq
      have HQx := Lib.hid (blk_below HO5.out (below_drew (Below.refl _ _)))
      have HIx := Lib.hid (HI5.out.below (below_drew (Below.refl _ _)))
      have HBx := Lib.hid (below_drew HB5.out)
      refine start_ (n := 12) (S := fun w' => w'.heap[q]? = some (.cells (aggO o) 40 (0, 0))) (ds := []) #[false, false, false, false, false, false, false, false, false, false, false, false] (by kernel_rfl) rfl rfl HQx.out (fun hHeld => ?_)
      generalize w5.drew = wd at HQx HIx HBx hHeld ⊢
      refine pure_ (i := 0) (N := some 30) (v := ?_) (a' := ?_) #[true, false, false, false, false, false, false, false, false, false, false, false] rfl rfl (by kernel_rfl) (fun _ _ _ h => h) (Or.inl ⟨by rfl, ?_⟩) ?_ ?_
      rotate_left
      · intro w'
        go_simp
        with_reducible rfl
      rotate_left
      · simp only [Act.put, List.setIfInBounds_toArray, List.set_cons_zero, List.set_cons_succ, i64_w, i32_w]
        rfl
      refine pure_ (i := 1) (N := some 31) (v := ?_) (a' := ?_) #[true, true, false, false, false, false, false, false, false, false, false, false] rfl rfl (by kernel_rfl) (fun _ _ _ h => h) (Or.inl ⟨by rfl, ?_⟩) ?_ ?_
      rotate_left
      · intro w'
        go_simp
        with_reducible rfl
      rotate_left
      · simp only [Act.put, List.setIfInBounds_toArray, List.set_cons_zero, List.set_cons_succ, i64_w, i32_w]
        rfl
      refine pure_ (i := 5) (N := some 35) (v := ?_) (a' := ?_) #[true, true, false, false, false, true, false, false, false, false, false, false] rfl rfl (by kernel_rfl) (fun _ _ _ h => h) (Or.inl ⟨by rfl, ?_⟩) ?_ ?_
      rotate_left
      · intro w'
        go_simp
        with_reducible rfl
      rotate_left
      · simp only [Act.put, List.setIfInBounds_toArray, List.set_cons_zero, List.set_cons_succ, i64_w, i32_w]
        rfl
      refine pure_ (i := 6) (N := some 36) (v := ?_) (a' := ?_) #[true, true, false, false, false, true, true, false, false, false, false, false] rfl rfl (by kernel_rfl) (fun _ _ _ h => h) (Or.inl ⟨by rfl, ?_⟩) ?_ ?_
      rotate_left
      · intro w'
        go_simp
        with_reducible rfl
      rotate_left
      · simp only [Act.put, List.setIfInBounds_toArray, List.set_cons_zero, List.set_cons_succ, i64_w, i32_w]
        rfl
      refine take_ (i := 2) (N := some 32) (v := ?_) (a' := ?_) #[true, true, true, false, false, true, true, false, false, false, false, false] rfl rfl (by kernel_rfl) (fun _ _ _ h => h) (Or.inl ⟨by rfl, ?_⟩) hHeld ?_ ?_
      rotate_left
      · rintro w' hS
        have y4 := blk_cell hS 4
        go_simp
        with_reducible rfl
      rotate_left
      · simp only [Act.put, List.setIfInBounds_toArray, List.set_cons_zero, List.set_cons_succ, i64_w, i32_w]
        rfl
      refine take_ (i := 7) (N := some 37) (v := ?_) (a' := ?_) #[true, true, true, false, false, true, true, true, false, false, false, false] rfl rfl (by kernel_rfl) (fun _ _ _ h => h) (Or.inl ⟨by rfl, ?_⟩) hHeld ?_ ?_
      rotate_left
      · rintro w' hS
        have y5 := blk_cell hS 5
        go_simp
        with_reducible rfl
      rotate_left
      · simp only [Act.put, List.setIfInBounds_toArray, List.set_cons_zero, List.set_cons_succ, i64_w, i32_w]
        rfl
      refine join_ (σ := Value × Value × Value × Value) 2 #[true, true, true, true, true, true, true, true, true, true, false, false] (fun s => [(33, s.1), (34, s.2.1), (38, s.2.2.1), (39, s.2.2.2)]) (fun s w' => Hid (I2 w' w2.heap.size s.2.1 (xs ++ [o.f4]) s.2.2.2 (ys ++ [o.f5])) ∧ Hid (Below w2.heap.size w2 w')) ?_ (fun hfin => ?_)
      · rintro ⟨z1, v34, z2, v39⟩ w9 ⟨HIf, HBf⟩
        refine norm_ (a' := ?_) ?_ ?_
        rotate_left
        · show putAll _ _ = _
          simp only [putAll, Act.put, List.setIfInBounds_toArray, List.set_cons_zero, List.set_cons_succ]
          rfl
        refine pure_ (i := 10) (N := some 4) (v := ?_) (a' := ?_) #[true, true, true, true, true, true, true, true, true, true, true, false] rfl rfl (by kernel_rfl) (fun _ _ _ h => h) (Or.inl ⟨by rfl, ?_⟩) ?_ ?_
        rotate_left
        · intro w'
          go_simp
          with_reducible rfl
        rotate_left
        · simp only [Act.put, List.setIfInBounds_toArray, List.set_cons_zero, List.set_cons_succ, i64_w, i32_w]
          rfl
        refine pure_ (i := 11) (N := some 5) (v := ?_) (a' := ?_) #[true, true, true, true, true, true, true, true, true, true, true, true] rfl rfl (by kernel_rfl) (fun _ _ _ h => h) (Or.inl ⟨by rfl, ?_⟩) ?_ ?_
        rotate_left
        · intro w'
          go_simp
          with_reducible rfl
        rotate_left
        · simp only [Act.put, List.setIfInBounds_toArray, List.set_cons_zero, List.set_cons_succ, i64_w, i32_w]
          rfl
        refine done_ (by kernel_rfl) ?_
        go_wp2_with fail
        go_roundw
        case rel => exact ⟨i + 1, by go_num, Lib.hid HIL.out, Lib.hid (by rw [HTK.out, List.map_append, List.map_append, ← HXE.out, ← HYE.out]; show I2 _ _ _ (xs ++ [lifeO ci]) _ (ys ++ [bootO ci]); rw [← HL4.out, ← HL5.out]; exact HIf.out), HBf⟩
        case measure => have := HIL.out; simp only [intOf]; omega
      refine two_ (i := 3) (j := 8) (Ni := some 33) (Nj := some 38) #[true, true, true, true, false, true, true, true, false, false, false, false] #[true, true, true, false, false, true, true, true, true, false, false, false] rfl rfl rfl rfl (by kernel_rfl) (by decide) (by decide) (fun K hK => ?_) (fun K hK => ?_)
      · refine Kd.R_lit_step kI (w0 := w2) w2.heap.size 3 ?hg (N := 33) ?hd (xs := [o.f4]) (inner := [.int .i64 o.f4]) (ok := fun _ => True) (okp := fun _ => False) ?hr ?hp (fun _ hk => hk.elim) trivial HBx.out HBx.out.size (by show 1 ≤ 9223372036854775807; decide) ?_; (case hd => rfl); (case hg => rfl); (case hr => first | (go_simp; done) | (go_simp; rfl)); (case hp => exact one_rep _ _ _ _)
        intro z1 w33 ho hb hg hnew
        obtain ⟨A1, c1, rfl⟩ := Kd.R_slice ho
        have hb1 := below_of_grown hg
        replace HIx := Lib.hid (HIx.out.below hb1)
        replace HQx := Lib.hid (blk_below HQx.out hb1)
        have HZ1 := Lib.hid (Kd.R_reads' ho).2.2
        replace HBx := Lib.hid hb
        clear ho hb hg hnew hb1
        refine hK.out _ _ HQx.out (fun hHeld => ?_)
        clear hK K
        refine norm_ (a' := ?_) ?_ ?_
        rotate_left
        · show Act.put _ (some 33) _ = _
          simp only [Act.put, List.setIfInBounds_toArray, List.set_cons_zero, List.set_cons_succ, i64_w, i32_w]
          rfl
        refine two_ (i := 4) (j := 8) (Ni := some 34) (Nj := some 38) #[true, true, true, true, true, true, true, true, false, false, false, false] #[true, true, true, true, false, true, true, true, true, false, false, false] rfl rfl rfl rfl (by kernel_rfl) (by decide) (by decide) (fun K hK => ?_) (fun K hK => ?_)
        · refine Kd.R_append_rows_step kI (w0 := w2) w2.heap.size (by rfl) (.tmp 30) (.tmp 33) 33 3 (.int .i64 0) 8 (by rfl) Try.underlying33 infoI rfl (by decide) (by decide) u4 xs [o.f4] _ _ _ (fun k => True ∧ some k ≠ u5.ownBlock) (fun _ => False) (by rfl) (by rfl) HIx.out.1 HZ1.out (fun y cs hk => hk) (fun _ hk => hk.elim) (own_fresh HIx.out.2) HBx.out HBx.out.size ?aL ?_
          (case aL => have := HXS.out; simp only [List.length_cons, List.length_nil]; omega)
          intro v34 w34 ho hb hg hat
          replace HIx := Lib.hid (HIx.out.more1 hg hat ho)
          replace HQx := Lib.hid (blk_grown HQx.out hg HU4.out)
          replace HBx := Lib.hid hb
          clear ho hb hg hat HZ1
          refine hK.out _ _ HQx.out (fun hHeld => ?_)
          clear hK K
          refine norm_ (a' := ?_) ?_ ?_
          rotate_left
          · show Act.put _ (some 34) _ = _
            simp only [Act.put, List.setIfInBounds_toArray, List.set_cons_zero, List.set_cons_succ, i64_w, i32_w]
            rfl
          refine one_ (i := 8) (N := some 38) #[true, true, true, true, true, true, true, true, true, false, false, false] rfl rfl (by kernel_rfl) (by decide) (fun K hK => ?_)
          refine Kd.R_lit_step kI (w0 := w2) w2.heap.size 3 ?hg (N := 38) ?hd (xs := [o.f5]) (inner := [.int .i64 o.f5]) (ok := fun _ => True) (okp := fun _ => False) ?hr ?hp (fun _ hk => hk.elim) trivial HBx.out HBx.out.size (by show 1 ≤ 9223372036854775807; decide) ?_; (case hd => rfl); (case hg => rfl); (case hr => first | (go_simp; done) | (go_simp; rfl)); (case hp => exact one_rep _ _ _ _)
          intro z2 w38 ho hb hg hnew
          obtain ⟨A2, c2, rfl⟩ := Kd.R_slice ho
          have hb1 := below_of_grown hg
          replace HIx := Lib.hid (HIx.out.below hb1)
          replace HQx := Lib.hid (blk_below HQx.out hb1)
          have HZ2 := Lib.hid ho
          replace HBx := Lib.hid hb
          clear ho hb hg hnew hb1
          refine hK.out _ _ HQx.out (fun hHeld => ?_)
          clear hK K
          refine norm_ (a' := ?_) ?_ ?_
          rotate_left
          · show Act.put _ (some 38) _ = _
            simp only [Act.put, List.setIfInBounds_toArray, List.set_cons_zero, List.set_cons_succ, i64_w, i32_w]
            rfl
          refine one_ (i := 9) (N := some 39) #[true, true, true, true, true, true, true, true, true, true, false, false] rfl rfl (by kernel_rfl) (by decide) (fun K hK => ?_)
          refine Kd.R_append_rows_step kI (w0 := w2) w2.heap.size (by rfl) (.tmp 35) (.tmp 38) 33 3 (.int .i64 0) 8 (by rfl) Try.underlying33 infoI rfl (by decide) (by decide) u5 ys [o.f5] _ _ _ (fun k => True ∧ some k ≠ v34.ownBlock) (fun _ => False) (by rfl) (by rfl) HIx.out.2 (Kd.R_reads' HZ2.out).2.2 (fun y cs hk => hk) (fun _ hk => hk.elim) (own_fresh HIx.out.1) HBx.out HBx.out.size ?aL ?_
          (case aL => have := HYS.out; simp only [List.length_cons, List.length_nil]; omega)
          intro v39 w39 ho hb hg hat
          replace HIx := Lib.hid (HIx.out.more2 hg hat ho)
          replace HQx := Lib.hid (blk_grown HQx.out hg HU5.out)
          replace HBx := Lib.hid hb
          clear ho hb hg hat HZ2
          refine hK.out _ _ HQx.out (fun hHeld => ?_)
          clear hK K
          refine norm_ (a' := ?_) ?_ ?_
          rotate_left
          · show Act.put _ (some 39) _ = _
            simp only [Act.put, List.setIfInBounds_toArray, List.set_cons_zero, List.set_cons_succ, i64_w, i32_w]
            rfl
          have h9 := hfin (.slice A1 [o.f4].length c1, v34, .slice A2 [o.f5].length c2, v39) w39 ⟨HIx, HBx⟩
          refine norm_ ?_ h9
          show _ = putAll _ _
          simp only [putAll, Act.put, List.setIfInBounds_toArray, List.set_cons_zero, List.set_cons_succ]
        · refine Kd.R_lit_step kI (w0 := w2) w2.heap.size 3 ?hg (N := 38) ?hd (xs := [o.f5]) (inner := [.int .i64 o.f5]) (ok := fun k => True ∧ some k ≠ u4.ownBlock) (okp := fun _ => False) ?hr ?hp (fun _ hk => hk.elim) (own_fresh HIx.out.1 _ (Nat.le_refl _)) HBx.out HBx.out.size (by show 1 ≤ 9223372036854775807; decide) ?_; (case hd => rfl); (case hg => rfl); (case hr => first | (go_simp; done) | (go_simp; rfl)); (case hp => exact one_rep _ _ _ _)
          intro z2 w38 ho hb hg hnew
          obtain ⟨A2, c2, rfl⟩ := Kd.R_slice ho
          have hb1 := below_of_grown hg
          replace HIx := Lib.hid (HIx.out.below hb1)
          replace HQx := Lib.hid (blk_below HQx.out hb1)
          replace HZ1 := Lib.hid (Kd.C_below HZ1.out hb1)
          have HZ2 := Lib.hid ho
          replace HBx := Lib.hid hb
          clear ho hb hg hnew hb1
          refine hK.out _ _ HQx.out (fun hHeld => ?_)
          clear hK K
          refine norm_ (a' := ?_) ?_ ?_
          rotate_left
          · show Act.put _ (some 38) _ = _
            simp only [Act.put, List.setIfInBounds_toArray, List.set_cons_zero, List.set_cons_succ, i64_w, i32_w]
            rfl
          refine one_ (i := 4) (N := some 34) #[true, true, true, true, true, true, true, true, true, false, false, false] rfl rfl (by kernel_rfl) (by decide) (fun K hK => ?_)
          refine Kd.R_append_rows_step kI (w0 := w2) w2.heap.size (by rfl) (.tmp 30) (.tmp 33) 33 3 (.int .i64 0) 8 (by rfl) Try.underlying33 infoI rfl (by decide) (by decide) u4 xs [o.f4] _ _ _ (fun k => True ∧ some k ≠ u5.ownBlock) (fun _ => False) (by rfl) (by rfl) HIx.out.1 HZ1.out (fun y cs hk => hk) (fun _ hk => hk.elim) (own_fresh HIx.out.2) HBx.out HBx.out.size ?aL ?_
          (case aL => have := HXS.out; simp only [List.length_cons, List.length_nil]; omega)
          intro v34 w34 ho hb hg hat
          replace HIx := Lib.hid (HIx.out.more1 hg hat ho)
          replace HQx := Lib.hid (blk_grown HQx.out hg HU4.out)
          replace HZ2 := Lib.hid (Kd.R_grown HZ2.out hg (fun k hk => hk.2))
          replace HBx := Lib.hid hb
          clear ho hb hg hat HZ1
          refine hK.out _ _ HQx.out (fun hHeld => ?_)
          clear hK K
          refine norm_ (a' := ?_) ?_ ?_
          rotate_left
          · show Act.put _ (some 34) _ = _
            simp only [Act.put, List.setIfInBounds_toArray, List.set_cons_zero, List.set_cons_succ, i64_w, i32_w]
            rfl
          refine one_ (i := 9) (N := some 39) #[true, true, true, true, true, true, true, true, true, true, false, false] rfl rfl (by kernel_rfl) (by decide) (fun K hK => ?_)
          refine Kd.R_append_rows_step kI (w0 := w2) w2.heap.size (by rfl) (.tmp 35) (.tmp 38) 33 3 (.int .i64 0) 8 (by rfl) Try.underlying33 infoI rfl (by decide) (by decide) u5 ys [o.f5] _ _ _ (fun k => True ∧ some k ≠ v34.ownBlock) (fun _ => False) (by rfl) (by rfl) HIx.out.2 (Kd.R_reads' HZ2.out).2.2 (fun y cs hk => hk) (fun _ hk => hk.elim) (own_fresh HIx.out.1) HBx.out HBx.out.size ?aL ?_
          (case aL => have := HYS.out; simp only [List.length_cons, List.length_nil]; omega)
          intro v39 w39 ho hb hg hat
          replace HIx := Lib.hid (HIx.out.more2 hg hat ho)
          replace HQx := Lib.hid (blk_grown HQx.out hg HU5.out)
          replace HBx := Lib.hid hb
          clear ho hb hg hat HZ2
          refine hK.out _ _ HQx.out (fun hHeld => ?_)
          clear hK K
          refine norm_ (a' := ?_) ?_ ?_
          rotate_left
          · show Act.put _ (some 39) _ = _
            simp only [Act.put, List.setIfInBounds_toArray, List.set_cons_zero, List.set_cons_succ, i64_w, i32_w]
            rfl
          have h9 := hfin (.slice A1 [o.f4].length c1, v34, .slice A2 [o.f5].length c2, v39) w39 ⟨HIx, HBx⟩
          refine norm_ ?_ h9
          show _ = putAll _ _
          simp only [putAll, Act.put, List.setIfInBounds_toArray, List.set_cons_zero, List.set_cons_succ]
      · refine Kd.R_lit_step kI (w0 := w2) w2.heap.size 3 ?hg (N := 38) ?hd (xs := [o.f5]) (inner := [.int .i64 o.f5]) (ok := fun k => True ∧ some k ≠ u4.ownBlock) (okp := fun _ => False) ?hr ?hp (fun _ hk => hk.elim) (own_fresh HIx.out.1 _ (Nat.le_refl _)) HBx.out HBx.out.size (by show 1 ≤ 9223372036854775807; decide) ?_; (case hd => rfl); (case hg => rfl); (case hr => first | (go_simp; done) | (go_simp; rfl)); (case hp => exact one_rep _ _ _ _)
        intro z2 w38 ho hb hg hnew
        obtain ⟨A2, c2, rfl⟩ := Kd.R_slice ho
        have hb1 := below_of_grown hg
        replace HIx := Lib.hid (HIx.out.below hb1)
        replace HQx := Lib.hid (blk_below HQx.out hb1)
        have HZ2 := Lib.hid ho
        replace HBx := Lib.hid hb
        clear ho hb hg hnew hb1
        refine hK.out _ _ HQx.out (fun hHeld => ?_)
        clear hK K
        refine norm_ (a' := ?_) ?_ ?_
        rotate_left
        · show Act.put _ (some 38) _ = _
          simp only [Act.put, List.setIfInBounds_toArray, List.set_cons_zero, List.set_cons_succ, i64_w, i32_w]
          rfl
        refine one_ (i := 3) (N := some 33) #[true, true, true, true, false, true, true, true, true, false, false, false] rfl rfl (by kernel_rfl) (by decide) (fun K hK => ?_)
        refine Kd.R_lit_step kI (w0 := w2) w2.heap.size 3 ?hg (N := 33) ?hd (xs := [o.f4]) (inner := [.int .i64 o.f4]) (ok := fun _ => True) (okp := fun _ => False) ?hr ?hp (fun _ hk => hk.elim) trivial HBx.out HBx.out.size (by show 1 ≤ 9223372036854775807; decide) ?_; (case hd => rfl); (case hg => rfl); (case hr => first | (go_simp; done) | (go_simp; rfl)); (case hp => exact one_rep _ _ _ _)
        intro z1 w33 ho hb hg hnew
        obtain ⟨A1, c1, rfl⟩ := Kd.R_slice ho
        have hb1 := below_of_grown hg
        replace HIx := Lib.hid (HIx.out.below hb1)
        replace HQx := Lib.hid (blk_below HQx.out hb1)
        replace HZ2 := Lib.hid (Kd.R_below HZ2.out hb1)
        have HZ1 := Lib.hid (Kd.R_reads' ho).2.2
        replace HBx := Lib.hid hb
        clear ho hb hg hnew hb1
        refine hK.out _ _ HQx.out (fun hHeld => ?_)
        clear hK K
        refine norm_ (a' := ?_) ?_ ?_
        rotate_left
        · show Act.put _ (some 33) _ = _
          simp only [Act.put, List.setIfInBounds_toArray, List.set_cons_zero, List.set_cons_succ, i64_w, i32_w]
          rfl
        refine one_ (i := 4) (N := some 34) #[true, true, true, true, true, true, true, true, true, false, false, false] rfl rfl (by kernel_rfl) (by decide) (fun K hK => ?_)
        refine Kd.R_append_rows_step kI (w0 := w2) w2.heap.size (by rfl) (.tmp 30) (.tmp 33) 33 3 (.int .i64 0) 8 (by rfl) Try.underlying33 infoI rfl (by decide) (by decide) u4 xs [o.f4] _ _ _ (fun k => True ∧ some k ≠ u5.ownBlock) (fun _ => False) (by rfl) (by rfl) HIx.out.1 HZ1.out (fun y cs hk => hk) (fun _ hk => hk.elim) (own_fresh HIx.out.2) HBx.out HBx.out.size ?aL ?_
        (case aL => have := HXS.out; simp only [List.length_cons, List.length_nil]; omega)
        intro v34 w34 ho hb hg hat
        replace HIx := Lib.hid (HIx.out.more1 hg hat ho)
        replace HQx := Lib.hid (blk_grown HQx.out hg HU4.out)
        replace HZ2 := Lib.hid (Kd.R_grown HZ2.out hg (fun k hk => hk.2))
        replace HBx := Lib.hid hb
        clear ho hb hg hat HZ1
        refine hK.out _ _ HQx.out (fun hHeld => ?_)
        clear hK K
        refine norm_ (a' := ?_) ?_ ?_
        rotate_left
        · show Act.put _ (some 34) _ = _
          simp only [Act.put, List.setIfInBounds_toArray, List.set_cons_zero, List.set_cons_succ, i64_w, i32_w]
          rfl
        refine one_ (i := 9) (N := some 39) #[true, true, true, true, true, true, true, true, true, true, false, false] rfl rfl (by kernel_rfl) (by decide) (fun K hK => ?_)
        refine Kd.R_append_rows_step kI (w0 := w2) w2.heap.size (by rfl) (.tmp 35) (.tmp 38) 33 3 (.int .i64 0) 8 (by rfl) Try.underlying33 infoI rfl (by decide) (by decide) u5 ys [o.f5] _ _ _ (fun k => True ∧ some k ≠ v34.ownBlock) (fun _ => False) (by rfl) (by rfl) HIx.out.2 (Kd.R_reads' HZ2.out).2.2 (fun y cs hk => hk) (fun _ hk => hk.elim) (own_fresh HIx.out.1) HBx.out HBx.out.size ?aL ?_
        (case aL => have := HYS.out; simp only [List.length_cons, List.length_nil]; omega)
        intro v39 w39 ho hb hg hat
        replace HIx := Lib.hid (HIx.out.more2 hg hat ho)
        replace HQx := Lib.hid (blk_grown HQx.out hg HU5.out)
        replace HBx := Lib.hid hb
        clear ho hb hg hat HZ2
        refine hK.out _ _ HQx.out (fun hHeld => ?_)
        clear hK K
        refine norm_ (a' := ?_) ?_ ?_
        rotate_left
        · show Act.put _ (some 39) _ = _
          simp only [Act.put, List.setIfInBounds_toArray, List.set_cons_zero, List.set_cons_succ, i64_w, i32_w]
          rfl
        have h9 := hfin (.slice A1 [o.f4].length c1, v34, .slice A2 [o.f5].length c2, v39) w39 ⟨HIx, HBx⟩
        refine norm_ ?_ h9
        show _ = putAll _ _
        simp only [putAll, Act.put, List.setIfInBounds_toArray, List.set_cons_zero, List.set_cons_succ]
    · obtain rfl : i = n := by omega
      have hlt : decide ((i : Int) < (i : Int)) = false := decide_eq_false (by omega)
      have hlt2 : decide (i < i) = false := decide_eq_false (by omega)
      rw [List.take_of_length_le (by rw [HLEN.out]; exact Nat.le_refl _)] at HR
      go_wp2_with fail
      refine bodyPost_ret (v := .tuple #[u4, u5, .int .i64 0]) (by simp [results, Try.results54, go_sem]) rfl ?_
      refine ⟨_, _, rfl, ?_, below_then HB2.out HB2.out.size HB.out⟩
      exact ⟨Kd.R_lower HR.out.1 HB2.out.size, Kd.R_lower HR.out.2 HB2.out.size⟩
end Go.Proofs.Ytnpphmgibgfjoaa.PlL
/- Which placement group the name "a" has, where there is one. -/
namespace Go.Proofs.Ytnpphmgibgfjoaa.PlN
open Go Go.RowKit Go.Proofs.YtnpphmgibgfjoaaW.PrintWords Mem PAll PlU
end Go.Proofs.Ytnpphmgibgfjoaa.PlN
/- The first that keeps it; is anybody missing? -/
namespace Go.Proofs.Ytnpphmgibgfjoaa.PlW
open Go Go.RowKit Go.Proofs.YtnpphmgibgfjoaaW.PrintWords Go.Proofs.YtnpphmgibgfjoaaW.PrintMore Mem PAll KW MixP MixW StrP AtA Srt Grp Sl Dsc AtB Roo Cho MayP Awk UpsP ApP PlF PlU LAp PlA Chr PlL PlN
open CrP hiding Od
def primA (ac : List Int) : Int := (ac.find? fun x => x != -1).getD (-1)
theorem prim_skip {ac : List Int} {i : Nat} (h : ∀ j, j < i → ac[j]? = some (-1)) : primA ac = primA (ac.drop i) := by
  induction i with
  | zero => simp
  | succ i ih =>
    rw [ih (fun j hj => h j (by omega))]
    have hi := h i (by omega)
    obtain ⟨h1, h2⟩ := List.getElem?_eq_some_iff.1 hi
    rw [List.drop_eq_getElem_cons h1, h2]
    rfl
theorem at_kIc {w : World} {A : Option Addr} {xs : List Int} (h : kI.C w A xs.length xs) (i : Nat) (x : Int) (hi : xs[i]? = some x) : ∃ ad, A = some ad ∧ w.cell? (ad.add i) = some (.int .i64 x) := by
  have hl : i < xs.length := (List.getElem?_eq_some_iff.1 hi).1
  obtain ⟨ad, e, hc⟩ := h.2.2 (by omega)
  obtain ⟨cs, _, hK, hcell⟩ := hc i x hi
  have hcs : cs = [.int .i64 x] := hK
  subst hcs
  have := hcell 0 _ rfl
  rw [show i * kI.sz + 0 = i from Nat.mul_one i] at this
  exact ⟨ad, e, this⟩
theorem index_calls (A : Option Addr) (c : Nat) (xs : List Int) (x : Int) (w : World) (hx : kI.C w A xs.length xs) :
    Calls Try.prog 103 #[.slice A xs.length c, .int .i64 x] w fun e w' => ∃ n : Int, e = .returned (.int .i64 n) ∧ decide (0 ≤ n) = decide (x ∈ xs) ∧ Below w.heap.size w w' := by
  have HC := Lib.hid hx
  have hm : xs.length ≤ 9223372036854775807 := hx.2.1
  have HB0 := Lib.hid (Below.refl w.heap.size w)
  clear hx
  go_enter Try.func103, Try.ntmps103
  go_wp2_with fail
  go_loopw [8] (fun i' wr => ∃ n : Nat, i' = .int .i64 n ∧ Hid (n ≤ xs.length ∧ x ∉ xs.take n) ∧ Hid (Below w.heap.size w wr)) (fun i' _ => (xs.length - intOf i').toNat)
  case atStart => exact ⟨0, rfl, Lib.hid ⟨Nat.zero_le _, by simp⟩, HB0⟩
  case round =>
    obtain ⟨n, rfl, HN, HB⟩ := hrel
    have hn := HN.out.1
    by_cases h : n < xs.length
    · have hlt : decide (n < xs.length) = true := decide_eq_true h
      have i0 : (0 : Int) ≤ n := by omega
      obtain ⟨y, hy⟩ : ∃ y, xs[n]? = some y := ⟨xs[n], List.getElem?_eq_getElem h⟩
      obtain ⟨ad, hA, a0⟩ := at_kIc (Kd.C_below HC.out HB.out) n y hy
      subst hA
      have HY := Lib.hid hy
      clear hy
      by_cases e : x = y
      · have hb : (x == y) = true := beq_iff_eq.2 e
        have HE := Lib.hid e
        clear e
        go_wp2_with fail
        go_ret
        exact ⟨n, rfl, by rw [decide_eq_true (show (0 : Int) ≤ n by omega), decide_eq_true (by rw [HE.out]; exact List.mem_of_getElem? HY.out)], HB.out⟩
      · have hb : (x == y) = false := beq_eq_false_iff_ne.2 e
        have HE := Lib.hid e
        clear e
        go_wp2_with fail
        go_roundw
        case rel =>
          refine ⟨n + 1, by go_num, Lib.hid ⟨by omega, fun hm => ?_⟩, HB⟩
          rw [List.take_succ_eq_append_getElem h, (List.getElem?_eq_some_iff.1 HY.out).2] at hm
          rcases List.mem_append.1 hm with hm | hm
          · exact HN.out.2 hm
          · exact HE.out (List.mem_singleton.1 hm)
        case measure => simp only [intOf]; omega
    · obtain rfl : n = xs.length := by omega
      have hlt : decide (xs.length < xs.length) = false := decide_eq_false (by omega)
      go_wp2_with fail
      go_ret
      have h2 := HN.out.2
      rw [List.take_length] at h2
      exact ⟨-1, rfl, by rw [decide_eq_false h2]; rfl, HB.out⟩
set_option maxHeartbeats 4000000 in
set_option maxRecDepth 100000 in
theorem Primary_ok (ep k m p d : Int) (A : Option Addr) (c : Nat) (l : List Od) (pg : Int) (n : Nat) (w : World) (hx : kO.C w A l.length l) (hwf : WfL l) (hn : upB (mayB ep k m p d l) pg p = true) (hkm : k + m = n) :
    Calls Try.prog 53 #[.agg (boxM ep k m p d A c l), .int .i64 pg] w fun e w' => e = .returned (.int .i64 (primA ((slots l (pgX pg) n (domL d) n 0 []).map aO))) ∧ Below w.heap.size w w' := by
  have HB1 := Lib.hid (below_alloc (Below.refl w.heap.size w) (.cells (boxM ep k m p d A c l) 26))
  have HM1 : Hid ((w.alloc (.cells (boxM ep k m p d A c l) 26)).heap[w.heap.size]? = some (.cells (boxM ep k m p d A c l) 26 (0, 0))) := Lib.hid (blk_new _ _)
  have HC1 := Lib.hid (Kd.C_alloc hx (.cells (boxM ep k m p d A c l) 26))
  have T := Lib.hid (Acting_ok ep k m p d A c l pg n _ HC1.out hwf hn hkm)
  have hup := hn
  unfold upB at hup
  simp only [Bool.and_eq_true, decide_eq_true_eq] at hup
  have hm := hup.1
  have hr := pool_ranges hm
  have hn32 : n ≤ 32 := by omega
  obtain ⟨cs, hcs⟩ : ∃ cs, cs = slots l (pgX pg) n (domL d) n 0 [] := ⟨_, rfl⟩
  rw [← hcs] at T
  rw [← hcs]
  have HASC := Lib.hid (may_asc hm)
  have HLEN : Hid (cs.length = n) := Lib.hid (by rw [hcs]; exact slots_len _ _ _ _ _ _ _)
  have HRNG : Hid (∀ o ∈ l, 0 ≤ o.f0) := Lib.hid (fun o ho => (osd_ranges (may_osd hm o ho)).1.1)
  have HSM : Hid (∀ (i : Nat) (o : Od), cs[i]? = some (some o) → findO l o.f0 = some o) := Lib.hid (fun i o h => by
    rw [hcs] at h
    exact findO_mem HASC.out (slots_mem HASC.out (List.mem_of_getElem? h)).1)
  have HFN : Hid (findO l (-1) = none) := Lib.hid (findO_none (fun o ho e => by have := HRNG.out o ho; omega))
  have TF := Lib.hid (fun id w1 h => aFind_calls ep k m p d A c l id w1 h)
  unfold boxM at *
  clear hx hwf hn hup hm hr hkm hcs
  obtain ⟨ac, has⟩ : ∃ ac, ac = cs.map aO := ⟨_, rfl⟩
  rw [← has] at T ⊢
  have HLA : Hid (ac.length = n) := Lib.hid (by rw [has, List.length_map]; exact HLEN.out)
  clear has
  go_enter Try.func53, Try.ntmps53
  go_wp2_with fail
  refine T.out.mono ?_
  rintro e w2 ⟨g, rfl, hg, hgh, hb⟩
  have HB2 := Lib.hid (below_then HB1.out HB1.out.size hb)
  have HM2 := Lib.hid (blk_below HM1.out hb)
  have HC2 := Lib.hid (Kd.C_below HC1.out hb)
  have HGH := Lib.hid hgh
  clear hb hg hgh T HB1 HM1 HC1
  clear TF HSM HFN HRNG HASC HLEN
  have HBB := Lib.hid (Below.refl w2.heap.size w2)
  go_wp2_with fail
  go_loopw [17] (fun i' wr => ∃ i : Nat, i' = .int .i64 i ∧ Hid (i ≤ n) ∧ Hid (∀ j, j < i → ac[j]? = some (-1)) ∧ Hid (Below w2.heap.size w2 wr)) (fun i' _ => (n - intOf i').toNat)
  case atStart => exact ⟨0, rfl, Lib.hid (Nat.zero_le _), Lib.hid (fun j hj => absurd hj (Nat.not_lt_zero _)), HBB⟩
  case round =>
    obtain ⟨i, rfl, HI, HJ, HB⟩ := hrel
    clear HBB
    have hi := HI.out
    by_cases h : i < n
    · have hlt : decide ((i : Int) < (n : Int)) = true := decide_eq_true (by omega)
      have hlt2 : decide (i < n) = true := decide_eq_true h
      have i0 : (0 : Int) ≤ i := by omega
      have i1 : (i : Int) < n := by omega
      obtain ⟨a, ha⟩ : ∃ a, ac[i]? = some a := ⟨ac[i]'(by rw [HLA.out]; exact h), List.getElem?_eq_getElem (by rw [HLA.out]; exact h)⟩
      have gc : wr.cell? ⟨g, i, none⟩ = some (.int .i64 a) := by rw [blk_cell (blk_below HGH.out HB.out) i]; exact outA_at ha
      have HIL := Lib.hid h
      have HA := Lib.hid ha
      clear h ha
      by_cases e : a = -1
      · subst e
        go_wp2_with fail
        go_roundw
        case rel =>
          refine ⟨i + 1, by go_num, Lib.hid HIL.out, Lib.hid (fun j hj => ?_), HB⟩
          rcases Nat.lt_or_ge j i with h2 | h2
          · exact HJ.out j h2
          · obtain rfl : j = i := by omega
            exact HA.out
        case measure => have := HIL.out; simp only [intOf]; omega
      · have hb : (a != -1) = true := bne_iff_ne.2 e
        have HN := Lib.hid e
        clear e
        go_wp2_with fail
        go_ret
        refine ⟨?_, below_then HB2.out HB2.out.size HB.out⟩
        rw [prim_skip HJ.out]
        obtain ⟨q1, q2⟩ := List.getElem?_eq_some_iff.1 HA.out
        have h2 : (a != -1) = true := bne_iff_ne.2 HN.out
        unfold primA
        rw [List.drop_eq_getElem_cons q1, q2, List.find?_cons, h2]
        rfl
    · obtain rfl : i = n := by omega
      have hlt : decide ((i : Int) < (i : Int)) = false := decide_eq_false (by omega)
      have hlt2 : decide (i < i) = false := decide_eq_false (by omega)
      go_wp2_with fail
      go_ret
      refine ⟨?_, below_then HB2.out HB2.out.size HB.out⟩
      rw [prim_skip HJ.out, List.drop_eq_nil_of_le (by rw [HLA.out]; exact Nat.le_refl _)]
      rfl
end Go.Proofs.Ytnpphmgibgfjoaa.PlW
/- The law's fixed question of layer 18. -/
namespace Go.Proofs.Ytnpphmgibgfjoaa.PlK
open Go Go.RowKit Go.Proofs.YtnpphmgibgfjoaaW.PrintWords Go.Proofs.YtnpphmgibgfjoaaW.PrintMore Mem PAll KW MixP MixW StrP StrW AtA Srt Grp Sl Dsc AtB Roo Cho MayP Awk UpsP ApP PlF PlU LAp PlA Chr PlL PlN PlW
open CrP hiding Od
def eight : Od := ⟨7, true, true, 5, 3, 1, 0, 0⟩
theorem eight_act : (slots [eight] (pgX 0) (2 : Nat) (domL 0) 2 0 []).map aO = [7, -1] := by decide +kernel
theorem eight_life : (slots [eight] (pgX 0) (2 : Nat) (domL 0) 2 0 []).map lifeO = [3, 0] := by decide +kernel
theorem eight_may : mayB 0 1 1 1 0 [eight] = true := by
  have hg : AtA.Good [eight] [eight].length := fun i o hi ho => by
    obtain rfl : i = 0 := by simp at hi; omega
    obtain rfl : eight = o := by simpa using ho
    exact ⟨by decide, fun j _ hj => absurd hj (Nat.not_lt_zero _)⟩
  unfold mayB
  rw [goodB_yes hg]
  decide
theorem one_C {w : World} {g : Nat} {o : Od} (h : w.heap[g]? = some (.cells (aggO o) 40 (0, 0))) : kO.C w (some ⟨g, 0, none⟩) [o].length [o] := by
  refine ⟨rfl, by show 1 ≤ 9223372036854775807; decide, fun _ => ⟨_, rfl, fun j p hj => ?_⟩⟩
  match j, hj with
  | 0, hj =>
    obtain rfl := Option.some.inj hj
    refine ⟨_, rfl, k40_mkM w 0 (fun _ => True) _, fun i u hu => ?_⟩
    rw [add_plain, blk_cell h]
    match i, hu with
    | 0, hu => exact hu
    | 1, hu => exact hu
    | 2, hu => exact hu
    | 3, hu => exact hu
    | 4, hu => exact hu
    | 5, hu => exact hu
    | 6, hu => exact hu
    | 7, hu => exact hu
    | i + 8, hu => cases hu
  | j + 1, hj => cases hj
end Go.Proofs.Ytnpphmgibgfjoaa.PlK
/- All intervals of maps: interval.All. -/
set_option linter.unusedSimpArgs false
namespace Go.Proofs.Ytnpphmgibgfjoaa.IvA
open Go Go.RowKit Go.Proofs.YtnpphmgibgfjoaaW.PrintWords Go.Proofs.YtnpphmgibgfjoaaW.PrintLast Go.Proofs.YtnpphmgibgfjoaaW.PrintMore Mem PAll KW MixP MixW StrP AtA Srt Grp Sl Dsc AtB Roo Cho MayP Awk UpsP ApP Fnd PlF PlU PlA Chr PlL PlN PlW McW ApY ApW MpC MpW IvC
open CrP hiding Od
abbrev Iv := S55
abbrev kV := k55
theorem infoV : (Try.prog.info? 55).map (fun i => (i.zero, i.size, i.bytes)) = some (some (.agg #[.int .i64 0, .int .i64 0, .slice none 0 0, .slice none 0 0, .slice none 0 0, .int .i64 0]), 6, 96) := by kernel_rfl
theorem R_blk {w : World} {g n base : Nat} {ok : Nat → Prop} {xs : List Int} (h : w.heap[g]? = some (.cells (outA n xs) 3 (0, 0))) (hl : xs.length = n) (hm : n ≤ 9223372036854775807) (hb : base ≤ g) (hok : ok g) : kI.R 3 w base ok (.slice (some ⟨g, 0, none⟩) n n) xs := by
  subst hl
  refine Kd.R_of_own (enc := Value.int .i64) (h1 := fun _ => rfl) ⟨by simp [encs], .inr ⟨g, xs.length, outA xs.length xs, rfl, hb, h, Nat.le_refl _, by unfold maxLen; omega, by simp, by simp only [outA, Nat.sub_self, List.replicate_zero, List.append_nil, Nat.mul_one, List.toList_toArray, encs]; exact List.take_of_length_le (by rw [List.length_map]; exact Nat.le_refl _)⟩⟩ (fun k hk => by injection hk with hk; subst hk; exact hok)
theorem cells_R {w : World} {g n c base : Nat} {ok : Nat → Prop} {xs : List Int} (h : kI.R 3 w base ok (.slice (some ⟨g, 0, none⟩) n c) xs) : ∀ j, j < xs.length → w.cell? ⟨g, 0 + j, none⟩ = some (.int .i64 (xs.getD j 0)) := by
  intro j hj
  obtain ⟨hn, _, hC⟩ := Kd.R_reads' h
  have hr : ReadsOf (Value.int .i64) (0 : Int) w (some ⟨g, 0, none⟩) xs.length xs := Kd.reads_of_C hC
  obtain ⟨ad, e, hc⟩ := hr.2.2 (by omega)
  injection e with e
  subst e
  have h2 := hc j hj
  rw [show (⟨g, 0, none⟩ : Addr).add j = ⟨g, 0 + j, none⟩ by unfold Addr.add; split <;> simp_all] at h2
  exact h2
theorem eq_calls {b1 b2 : Nat} {k1 k2 : Nat → Prop} (u v : Value) (xs ys : List Int) (w : World) (hx : kI.R 3 w b1 k1 u xs) (hy : kI.R 3 w b2 k2 v ys) :
    Calls Try.prog 55 #[u, v] w fun e w' => e = .returned (.bool (decide (xs = ys))) ∧ Below w.heap.size w w' := by
  obtain ⟨A, c, rfl, hc, hC⟩ := Kd.R_reads hx
  obtain ⟨B, c', rfl, hc', hC'⟩ := Kd.R_reads hy
  have hl1 := hC.2.1
  have hl2 := hC'.2.1
  by_cases hl : xs.length = ys.length
  · rcases Nat.eq_zero_or_pos xs.length with h0 | h0
    · have e1 : xs = [] := List.eq_nil_of_length_eq_zero h0
      have e2 : ys = [] := List.eq_nil_of_length_eq_zero (by omega)
      subst e1 e2
      refine (Try.slices_Equal_int_empty A B c 0 c' w (by omega)).mono ?_
      rintro e w1 ⟨rfl, rfl⟩
      exact ⟨rfl, Below.refl _ _⟩
    · obtain ⟨g1, q1, e1, _⟩ := Kd.R_form hx h0
      obtain ⟨g2, q2, e2, _⟩ := Kd.R_form hy (by omega)
      injection e1 with e1 _ _
      injection e2 with e2 _ _
      subst e1 e2
      refine (Try.slices_Equal_int g1 0 xs.length c g2 0 ys.length c' xs ys w (Nat.le_refl _) (Nat.le_refl _) hl1 hl2 (cells_R hx) (cells_R hy)).mono ?_
      rintro e w1 ⟨rfl, q, rfl⟩
      refine ⟨?_, pw_below_drewN (Below.refl _ _) _⟩
      rw [List.take_of_length_le (Nat.le_refl _), List.take_of_length_le (Nat.le_refl _)]
      congr 2
      rw [Bool.eq_iff_iff]
      simp
  · refine (Try.slices_Equal_int_lens A B xs.length c ys.length c' w hl).mono ?_
    rintro e w1 ⟨rfl, rfl⟩
    refine ⟨?_, Below.refl _ _⟩
    rw [decide_eq_false (fun e => hl (congrArg List.length e))]
/-- What stands in an interval of one map. -/
def actI (pg : Int) (n : Nat) (d : Int) (l : List Od) : List (Option Od) := slots l (pgX pg) n (domL d) n 0 []
def ivl (pg : Int) (n : Nat) (d : Int) (x : Mp) : Iv := ⟨x.f0, x.f0, (actI pg n d x.f2).map aO, (actI pg n d x.f2).map lifeO, (actI pg n d x.f2).map bootO, primA ((actI pg n d x.f2).map aO)⟩
def likeB (a b : Iv) : Bool := decide (a.f2 = b.f2) && (decide (a.f3 = b.f3) && decide (a.f4 = b.f4))
def addI (out : List Iv) (x : Iv) : List Iv :=
  match out.getLast? with
  | none => [x]
  | some y => if likeB y x = true then out.set (out.length - 1) { y with f1 := x.f0 } else out ++ [x]
def ivs (pg : Int) (n : Nat) (d : Int) (ms : List Mp) : List Iv := (ms.map (ivl pg n d)).foldl addI []
theorem ivs_succ {pg : Int} {n : Nat} {d : Int} {ms : List Mp} {i : Nat} {x : Mp} (h : ms[i]? = some x) : ivs pg n d (ms.take (i + 1)) = addI (ivs pg n d (ms.take i)) (ivl pg n d x) := by
  obtain ⟨hi, e⟩ := List.getElem?_eq_some_iff.1 h
  unfold ivs
  rw [List.take_succ_eq_append_getElem hi, e, List.map_append, List.foldl_append]
  rfl
theorem addI_len (out : List Iv) (x : Iv) : (addI out x).length ≤ out.length + 1 := by
  unfold addI
  split
  · simp
  · split
    · rw [List.length_set]; omega
    · simp
theorem addI_nil (x : Iv) : addI [] x = [x] := rfl
theorem addI_like {out : List Iv} {x y : Iv} {L : Nat} (hL : out.length = L + 1) (hy : out[L]? = some y) (h : likeB y x = true) : addI out x = out.set L { y with f1 := x.f0 } := by
  unfold addI
  have e : out.getLast? = some y := by rw [List.getLast?_eq_getElem?, hL]; exact hy
  rw [e]
  simp only [h, if_true, hL, Nat.add_sub_cancel]
theorem addI_unlike {out : List Iv} {x y : Iv} {L : Nat} (hL : out.length = L + 1) (hy : out[L]? = some y) (h : likeB y x = false) : addI out x = out ++ [x] := by
  unfold addI
  have e : out.getLast? = some y := by rw [List.getLast?_eq_getElem?, hL]; exact hy
  rw [e]
  simp [h]
set_option maxHeartbeats 8000000 in
set_option maxRecDepth 100000 in
theorem All_ok (k m p d : Int) (A : Option Addr) (c : Nat) (ms : List Mp) (pg : Int) (nn : Nat) (w : World) (hx : kM.C w A ms.length ms) (hch : Chain k m p d ms) (hl : ms.length ≤ 41) (hkm : k + m = nn) (hn : (decide (0 ≤ pg) && decide (pg < p)) = true) :
    Calls Try.prog 25 #[.slice A ms.length c, .int .i64 pg] w fun e w' => ∃ v, e = .returned (.tuple #[v, .int .i64 0]) ∧ kV.R 55 w' w.heap.size (fun _ => True) v (ivs pg nn d ms) ∧ (ivs pg nn d ms).length ≤ 41 ∧ Below w.heap.size w w' := by
  have T := Lib.hid (icheck_ok k m p d A c ms pg w hx hch hl hn)
  have HX := Lib.hid hx
  have HCH := Lib.hid hch
  have HL := Lib.hid hl
  have HN := Lib.hid hn
  have HKM := Lib.hid hkm
  have HN32 : Hid (nn ≤ 32) := Lib.hid (by obtain ⟨x, hx0⟩ : ∃ x, ms[0]? = some x := ⟨ms[0]'hch.pos, List.getElem?_eq_getElem hch.pos⟩; have h1 := pool_ranges (hch.each 0 x hx0).2.2; omega)
  clear hx hch hl hn hkm
  go_enter Try.func25, Try.ntmps25
  go_wp2_with fail
  refine T.out.mono ?_
  rintro e w1 ⟨rfl, hb⟩
  have HB1 := Lib.hid hb
  clear hb T
  have HO1 := Lib.hid (Kd.R_nil kV 55 w1 w.heap.size (fun _ => True))
  go_wp2_with fail
  go_loopw [7, 20] (fun v7 i' wr => ∃ (n : Nat) (out : List Iv), i' = .int .i64 n ∧ Hid (n ≤ ms.length) ∧ Hid (out = ivs pg nn d (ms.take n)) ∧ Hid (out.length ≤ n) ∧ Hid (kV.R 55 wr w.heap.size (fun _ => True) v7 out) ∧ Hid (Below w.heap.size w wr)) (fun _ i' _ => (ms.length - intOf i').toNat)
  case atStart => exact ⟨0, [], rfl, Lib.hid (Nat.zero_le _), Lib.hid rfl, Lib.hid (Nat.le_refl _), HO1, HB1⟩
  case round =>
    obtain ⟨n, out, rfl, HNL, HOUT, HOL, HO, HB⟩ := hrel
    clear HO1 HB1
    have hn := HNL.out
    have hl41 := HL.out
    by_cases h : n < ms.length
    · have hlt : decide (n < ms.length) = true := decide_eq_true h
      have hltI : decide ((n : Int) < (ms.length : Int)) = true := decide_eq_true (by omega)
      have i0 : (0 : Int) ≤ n := by omega
      have i1 : (n : Int) < ms.length := by omega
      have i2 : n < 41 := by omega
      have i3 : (n : Int) < 41 := by omega
      have HNI := Lib.hid h
      obtain ⟨ad, x, A5, c5, hx, hA, m0, m1, m2, m3, m4, m5, h5, hc5⟩ := at_M (Kd.C_below HX.out HB.out) n h
      subst hA
      obtain ⟨e0, e1, e2⟩ := HCH.out.each n x hx
      have HOUT2 : Hid (ivs pg nn d (ms.take (n + 1)) = addI out ⟨(n : Int), (n : Int), (actI pg nn d x.f2).map aO, (actI pg nn d x.f2).map lifeO, (actI pg nn d x.f2).map bootO, primA ((actI pg nn d x.f2).map aO)⟩) := Lib.hid (by rw [ivs_succ hx, HOUT.out, ivl, e0])
      rw [e0] at m0
      rw [e1] at m1 m2 m3 m4
      have hup : upB (mayB n k m p d x.f2) pg p = true := by rw [upB, e2]; exact HN.out
      obtain ⟨sl, hsl⟩ : ∃ sl, sl = actI pg nn d x.f2 := ⟨_, rfl⟩
      have TP : Hid (∀ W, kO.C W A5 x.f2.length x.f2 → Calls Try.prog 53 #[.agg #[.int .i64 (n : Int), .int .i64 k, .int .i64 m, .int .i64 p, .int .i64 d, .slice A5 x.f2.length c5], .int .i64 pg] W fun e w' => e = .returned (.int .i64 (primA (sl.map aO))) ∧ Below W.heap.size W w') := Lib.hid (fun W hW => by rw [hsl]; exact Primary_ok n k m p d A5 c5 x.f2 pg nn W hW (wf_may e2) hup HKM.out)
      have TA : Hid (∀ W, kO.C W A5 x.f2.length x.f2 → Calls Try.prog 35 #[.agg #[.int .i64 (n : Int), .int .i64 k, .int .i64 m, .int .i64 p, .int .i64 d, .slice A5 x.f2.length c5], .int .i64 pg] W fun e w' => ∃ g, e = .returned (.tuple #[.slice (some ⟨g, 0, none⟩) nn nn, .int .i64 0]) ∧ W.heap.size ≤ g ∧ w'.heap[g]? = some (.cells (outA nn (sl.map aO)) 3 (0, 0)) ∧ Below W.heap.size W w') := Lib.hid (fun W hW => by rw [hsl]; exact Acting_ok n k m p d A5 c5 x.f2 pg nn W hW (wf_may e2) hup HKM.out)
      have TL : Hid (∀ W, kO.C W A5 x.f2.length x.f2 → Calls Try.prog 54 #[.agg #[.int .i64 (n : Int), .int .i64 k, .int .i64 m, .int .i64 p, .int .i64 d, .slice A5 x.f2.length c5], .int .i64 pg] W fun e w' => ∃ v1 v2, e = .returned (.tuple #[v1, v2, .int .i64 0]) ∧ I2 w' W.heap.size v1 (sl.map lifeO) v2 (sl.map bootO) ∧ Below W.heap.size W w') := Lib.hid (fun W hW => by rw [hsl]; exact Lives_ok n k m p d A5 c5 x.f2 pg nn W hW (wf_may e2) hup HKM.out)
      have HSL : Hid (sl.length = nn) := Lib.hid (by rw [hsl]; exact slots_len _ _ _ _ _ _ _)
      rw [← hsl] at HOUT2
      obtain ⟨prm, hprm⟩ : ∃ prm, prm = primA (sl.map aO) := ⟨_, rfl⟩
      rw [← hprm] at TP HOUT2
      obtain ⟨ac, hac⟩ : ∃ ac, ac = sl.map aO := ⟨_, rfl⟩
      obtain ⟨lv, hlv⟩ : ∃ lv, lv = sl.map lifeO := ⟨_, rfl⟩
      obtain ⟨bt, hbt⟩ : ∃ bt, bt = sl.map bootO := ⟨_, rfl⟩
      have HAL : Hid (ac.length = nn) := Lib.hid (by rw [hac, List.length_map]; exact HSL.out)
      rw [← hac] at TA HOUT2
      rw [← hlv, ← hbt] at TL HOUT2
      clear hsl hprm hac hlv hbt hup
      have HB4 := Lib.hid (below_alloc HB.out (.cells #[.int .i64 (n : Int), .int .i64 k, .int .i64 m, .int .i64 p, .int .i64 d, .slice A5 x.f2.length c5] 26))
      have HX5 := Lib.hid (Kd.C_alloc hc5 (.cells #[.int .i64 (n : Int), .int .i64 k, .int .i64 m, .int .i64 p, .int .i64 d, .slice A5 x.f2.length c5] 26))
      have HM4 : Hid ((wr.alloc (.cells #[.int .i64 (n : Int), .int .i64 k, .int .i64 m, .int .i64 p, .int .i64 d, .slice A5 x.f2.length c5] 26)).heap[wr.heap.size]? = some (.cells #[.int .i64 (n : Int), .int .i64 k, .int .i64 m, .int .i64 p, .int .i64 d, .slice A5 x.f2.length c5] 26 (0, 0))) := Lib.hid (blk_new wr _)
      have HO4 := Lib.hid (Kd.R_alloc HO.out (.cells #[.int .i64 (n : Int), .int .i64 k, .int .i64 m, .int .i64 p, .int .i64 d, .slice A5 x.f2.length c5] 26))
      clear e0 e1 e2 hx h5 hc5 hn h HB HO
      go_upto_region 8 with fail
      obtain ⟨w4, hw4⟩ : ∃ w4, w4 = wr.alloc (.cells #[.int .i64 (n : Int), .int .i64 k, .int .i64 m, .int .i64 p, .int .i64 d, .slice A5 x.f2.length c5] 26) := ⟨_, rfl⟩
      obtain ⟨gb, hgb⟩ : ∃ gb, gb = wr.heap.size := ⟨_, rfl⟩
      rw [← hw4] at HB4 HM4 HX5 HO4 ⊢
      rw [← hgb] at HM4 ⊢
      clear hw4 hgb m0 m1 m2 m3 m4 m5
      have y0 := blk_cell HM4.out 0
      have y1 := blk_cell HM4.out 1
      have y2 := blk_cell HM4.out 2
      have y3 := blk_cell HM4.out 3
      have y4 := blk_cell HM4.out 4
      have y5 := blk_cell HM4.out 5
      go_cut [10] from 24 to 31 (fun s10 wx => ∃ R : Nat, s10 = .pointer (some ⟨R, 0, none⟩) ∧ wx.heap[R]? = some (.cells #[.int .i64 (n : Int), .int .i64 (n : Int), .slice none 0 0, .slice none 0 0, .slice none 0 0, .int .i64 prm] 55 (0, 0)) ∧ w4.heap.size ≤ R ∧ Below w4.heap.size w4 wx)
      case first =>
        refine start_ (n := 10) (S := fun w' => Below w4.heap.size w4 w') (ds := [9]) #[false, false, false, false, false, false, false, false, false, false] (by kernel_rfl) rfl rfl (below_drew (Below.refl _ _)) (fun hHeld => ?_)
        have HBd := Lib.hid (below_drew (Below.refl w4.heap.size w4))
        generalize w4.drew = wd at HBd hHeld ⊢
        refine pure_ (i := 0) (N := some 24) (v := ?_) (a' := ?_) #[true, false, false, false, false, false, false, false, false, false] rfl rfl (by kernel_rfl) (fun _ _ _ h => h) (Or.inl ⟨by rfl, ?_⟩) ?_ ?_
        rotate_left
        · intro w'
          go_simp
          with_reducible rfl
        rotate_left
        · simp only [Act.put, List.setIfInBounds_toArray, List.set_cons_zero, List.set_cons_succ, i64_w, i32_w]
          rfl
        refine take_ (i := 1) (N := some 25) (v := ?_) (a' := ?_) #[true, true, false, false, false, false, false, false, false, false] rfl rfl (by kernel_rfl) (fun _ _ _ h => h) (Or.inl ⟨by rfl, ?_⟩) hHeld ?_ ?_
        rotate_left
        · rintro w' hS
          have x0 := pw_cell_below hS y0
          go_simp
          with_reducible rfl
        rotate_left
        · simp only [Act.put, List.setIfInBounds_toArray, List.set_cons_zero, List.set_cons_succ, i64_w, i32_w]
          rfl
        refine pure_ (i := 2) (N := some 26) (v := ?_) (a' := ?_) #[true, true, true, false, false, false, false, false, false, false] rfl rfl (by kernel_rfl) (fun _ _ _ h => h) (Or.inl ⟨by rfl, ?_⟩) ?_ ?_
        rotate_left
        · intro w'
          go_simp
          with_reducible rfl
        rotate_left
        · simp only [Act.put, List.setIfInBounds_toArray, List.set_cons_zero, List.set_cons_succ, i64_w, i32_w]
          rfl
        refine take_ (i := 3) (N := some 27) (v := ?_) (a' := ?_) #[true, true, true, true, false, false, false, false, false, false] rfl rfl (by kernel_rfl) (fun _ _ _ h => h) (Or.inl ⟨by rfl, ?_⟩) hHeld ?_ ?_
        rotate_left
        · rintro w' hS
          have x0 := pw_cell_below hS y0
          go_simp
          with_reducible rfl
        rotate_left
        · simp only [Act.put, List.setIfInBounds_toArray, List.set_cons_zero, List.set_cons_succ, i64_w, i32_w]
          rfl
        refine take_ (i := 4) (N := some 28) (v := ?_) (a' := ?_) #[true, true, true, true, true, false, false, false, false, false] rfl rfl (by kernel_rfl) (fun _ _ _ h => h) (Or.inl ⟨by rfl, ?_⟩) hHeld ?_ ?_
        rotate_left
        · rintro w' hS
          have x0 := pw_cell_below hS y0
          have x1 := pw_cell_below hS y1
          have x2 := pw_cell_below hS y2
          have x3 := pw_cell_below hS y3
          have x4 := pw_cell_below hS y4
          have x5 := pw_cell_below hS y5
          go_simp
          with_reducible rfl
        rotate_left
        · simp only [Act.put, List.setIfInBounds_toArray, List.set_cons_zero, List.set_cons_succ, i64_w, i32_w]
          rfl
        refine pure_ (i := 5) (N := some 29) (v := ?_) (a' := ?_) #[true, true, true, true, true, true, false, false, false, false] rfl rfl (by kernel_rfl) (fun _ _ _ h => h) (Or.inl ⟨by rfl, ?_⟩) ?_ ?_
        rotate_left
        · intro w'
          go_simp
          with_reducible rfl
        rotate_left
        · simp only [Act.put, List.setIfInBounds_toArray, List.set_cons_zero, List.set_cons_succ, i64_w, i32_w]
          rfl
        refine join_ (σ := Nat) 1 #[true, true, true, true, true, true, true, true, true, false] (fun s => [(10, .pointer (some ⟨s, 0, none⟩)), (30, .int .i64 prm), (31, .agg #[.int .i64 (n : Int), .int .i64 (n : Int), .slice none 0 0, .slice none 0 0, .slice none 0 0, .int .i64 prm])]) (fun s w' => Hid (w'.heap[s]? = some (.cells #[.int .i64 0, .int .i64 0, .slice none 0 0, .slice none 0 0, .slice none 0 0, .int .i64 0] 55 (0, 0))) ∧ Hid (w4.heap.size ≤ s) ∧ Hid (Below w4.heap.size w4 w')) ?_ (fun hfin => ?_)
        · rintro R w9 ⟨HZ, HRG, HB9⟩
          refine norm_ (a' := ?_) ?_ ?_
          rotate_left
          · show putAll _ _ = _
            simp only [putAll, Act.put, List.setIfInBounds_toArray, List.set_cons_zero, List.set_cons_succ]
            rfl
          refine last_ (i := 9) (N := none) #[true, true, true, true, true, true, true, true, true, true] rfl rfl (by kernel_rfl) (by decide) (fun K hK => ?_)
          refine Stb.store_step (by rfl) rfl 55 (.tmp 10) (.tmp 31) (by rfl) (cur' := #[.int .i64 (n : Int), .int .i64 (n : Int), .slice none 0 0, .slice none 0 0, .slice none 0 0, .int .i64 prm]) [.int .i64 (n : Int), .int .i64 (n : Int), .slice none 0 0, .slice none 0 0, .slice none 0 0, .int .i64 prm] HZ.out (by rfl) (by rfl) (by rfl) (by kernel_rfl) (Nat.le_refl 6) (by rfl) (by rfl) ?_
          intro w10 hz10 hg10 hs10
          have HZ2 := Lib.hid hz10
          have HB2_ := Lib.hid (Stb.below_grown1 HB9.out hg10 HRG.out HB9.out.size)
          clear hz10 hg10 hs10
          refine hK.out _ _ ?_
          clear hK K
          refine norm_ (a' := ?_) ?_ ?_
          rotate_left
          · show Act.put _ (none) _ = _
            simp only [Act.put, List.setIfInBounds_toArray, List.set_cons_zero, List.set_cons_succ, i64_w, i32_w]
            rfl
          refine done_ (by kernel_rfl) ?_
          go_wp2_with fail
          go_meet
          exact ⟨R, rfl, HZ2.out, HRG.out, HB2_.out⟩
        refine two_ (i := 6) (j := 8) (Ni := some 30) (Nj := some 10) #[true, true, true, true, true, true, true, false, false, false] #[true, true, true, true, true, true, false, false, true, false] rfl rfl rfl rfl (by kernel_rfl) (by decide) (by decide) (fun K hK => ?_) (fun K hK => ?_)
        · refine goes_ Try.func53 (by kernel_rfl) rfl #[.agg #[.int .i64 (n : Int), .int .i64 k, .int .i64 m, .int .i64 p, .int .i64 d, .slice A5 x.f2.length c5], .int .i64 pg] (by rfl) rfl rfl (by (try simp only [List.map_toArray, List.map_cons, List.map_nil]); first | done | rfl | (go_simp; done) | (go_simp; rfl)) ?_
          refine (TP.out _ (Kd.C_below HX5.out HBd.out)).mono ?_
          rintro e w5 ⟨rfl, hb⟩
          refine ⟨_, rfl, ?_⟩
          refine hK.out _ _ (below_then HBd.out HBd.out.size hb) (fun hHeld => ?_)
          clear hK K
          refine norm_ (a' := ?_) ?_ ?_
          rotate_left
          · show Act.put _ (some 30) _ = _
            simp only [Act.put, List.setIfInBounds_toArray, List.set_cons_zero, List.set_cons_succ, i64_w, i32_w]
            rfl
          refine pure_ (i := 7) (N := some 31) (v := ?_) (a' := ?_) #[true, true, true, true, true, true, true, true, false, false] rfl rfl (by kernel_rfl) (fun _ _ _ h => h) (Or.inl ⟨by rfl, ?_⟩) ?_ ?_
          rotate_left
          · intro w'
            go_simp
            with_reducible rfl
          rotate_left
          · simp only [Act.put, List.setIfInBounds_toArray, List.set_cons_zero, List.set_cons_succ, i64_w, i32_w]
            rfl
          refine one_ (i := 8) (N := some 10) #[true, true, true, true, true, true, true, true, true, false] rfl rfl (by kernel_rfl) (by decide) (fun K hK => ?_)
          refine value_ (w1 := ?_) (v := ?_) (by rfl) rfl ?_ ?_
          rotate_left 2
          · go_simp
            constructor
            · rfl
            · rfl
          refine hK.out _ _ (below_alloc hHeld _) (fun hHeld => ?_)
          clear hK K
          refine norm_ (a' := ?_) ?_ ?_
          rotate_left
          · show Act.put _ (some 10) _ = _
            simp only [Act.put, List.setIfInBounds_toArray, List.set_cons_zero, List.set_cons_succ, i64_w, i32_w]
            rfl
          have h9 := hfin (w5.heap.size) _ ⟨Lib.hid (blk_new w5 _), Lib.hid (Nat.le_trans HBd.out.size hb.size), Lib.hid hHeld⟩
          refine norm_ ?_ h9
          show _ = putAll _ _
          simp only [putAll, Act.put, List.setIfInBounds_toArray, List.set_cons_zero, List.set_cons_succ]
        · refine value_ (w1 := ?_) (v := ?_) (by rfl) rfl ?_ ?_
          rotate_left 2
          · go_simp
            constructor
            · rfl
            · rfl
          refine hK.out _ _ (below_alloc HBd.out _) (fun hHeld => ?_)
          clear hK K
          refine norm_ (a' := ?_) ?_ ?_
          rotate_left
          · show Act.put _ (some 10) _ = _
            simp only [Act.put, List.setIfInBounds_toArray, List.set_cons_zero, List.set_cons_succ, i64_w, i32_w]
            rfl
          refine one_ (i := 6) (N := some 30) #[true, true, true, true, true, true, true, false, true, false] rfl rfl (by kernel_rfl) (by decide) (fun K hK => ?_)
          refine goes_ Try.func53 (by kernel_rfl) rfl #[.agg #[.int .i64 (n : Int), .int .i64 k, .int .i64 m, .int .i64 p, .int .i64 d, .slice A5 x.f2.length c5], .int .i64 pg] (by rfl) rfl rfl (by (try simp only [List.map_toArray, List.map_cons, List.map_nil]); first | done | rfl | (go_simp; done) | (go_simp; rfl)) ?_
          refine (TP.out _ (Kd.C_below HX5.out (below_alloc HBd.out _))).mono ?_
          rintro e w5 ⟨rfl, hb⟩
          refine ⟨_, rfl, ?_⟩
          refine hK.out _ _ (below_then (below_alloc HBd.out _) (below_alloc HBd.out _).size hb) (fun hHeld => ?_)
          clear hK K
          refine norm_ (a' := ?_) ?_ ?_
          rotate_left
          · show Act.put _ (some 30) _ = _
            simp only [Act.put, List.setIfInBounds_toArray, List.set_cons_zero, List.set_cons_succ, i64_w, i32_w]
            rfl
          refine pure_ (i := 7) (N := some 31) (v := ?_) (a' := ?_) #[true, true, true, true, true, true, true, true, true, false] rfl rfl (by kernel_rfl) (fun _ _ _ h => h) (Or.inl ⟨by rfl, ?_⟩) ?_ ?_
          rotate_left
          · intro w'
            go_simp
            with_reducible rfl
          rotate_left
          · simp only [Act.put, List.setIfInBounds_toArray, List.set_cons_zero, List.set_cons_succ, i64_w, i32_w]
            rfl
          have h9 := hfin (wd.heap.size) _ ⟨Lib.hid (blk_below (blk_new wd _) hb), Lib.hid HBd.out.size, Lib.hid hHeld⟩
          refine norm_ ?_ h9
          show _ = putAll _ _
          simp only [putAll, Act.put, List.setIfInBounds_toArray, List.set_cons_zero, List.set_cons_succ]
      case rest =>
        obtain ⟨R, rfl, hz, hrg, hb⟩ := hcut
        have HZc := Lib.hid hz
        have HRG := Lib.hid hrg
        have HBc := Lib.hid (below_then HB4.out HB4.out.size hb)
        have HBS : Hid (w.heap.size ≤ w4.heap.size) := Lib.hid HB4.out.size
        have HWR := Lib.hid (below_then (Below.refl w4.heap.size w4) (Nat.le_refl _) hb)
        have HRL : Hid (R < wc.heap.size) := Lib.hid (blk_lt hz)
        clear hz hrg hb HB4 y0 y1 y2 y3 y4 y5 TP
        have HMc := Lib.hid (blk_below HM4.out HWR.out)
        have y0 := blk_cell HMc.out 0
        have y1 := blk_cell HMc.out 1
        have y2 := blk_cell HMc.out 2
        have y3 := blk_cell HMc.out 3
        have y4 := blk_cell HMc.out 4
        have y5 := blk_cell HMc.out 5
        go_wp2_with fail
        refine (TA.out _ (Kd.C_below HX5.out HWR.out)).mono ?_
        rintro e w6 ⟨g, rfl, hg, hgh, hb⟩
        have HB6 := Lib.hid (below_then HBc.out HBc.out.size hb)
        have HW6 := Lib.hid (below_then HWR.out HWR.out.size hb)
        have HZ6 := Lib.hid (blk_below HZc.out hb)
        have HG6 := Lib.hid (R_blk (base := w.heap.size) (ok := (fun k => w4.heap.size ≤ k ∧ k ≠ R)) hgh HAL.out (by have := HN32.out; omega) (Nat.le_trans HBc.out.size hg) ⟨Nat.le_trans HWR.out.size hg, by have := HRL.out; omega⟩)
        clear hg hgh hb TA y0 y1 y2 y3 y4 y5 HMc HZc HBc
        go_wp2_with (first | (refine gate_ (.store 33 (.tmp 38) (.tmp 36)) rfl ?_; go_must (refine Stb.store_list rfl rfl 33 (.tmp 38) (.tmp 36) rfl (cur' := #[.int .i64 (n : Int), .int .i64 (n : Int), .slice (some ⟨g, 0, none⟩) nn nn, .slice none 0 0, .slice none 0 0, .int .i64 prm]) [.slice (some ⟨g, 0, none⟩) nn nn] (by exact HZ6.out) (by rfl) (by rfl) (by rfl) (by kernel_rfl) (Nat.le_of_ble_eq_true rfl) (by rfl) (by rfl) ?_; intro w7 hz_ hg_ hs_; have HZ7 := Lib.hid hz_; have HB7 := Lib.hid (Stb.below_grown1 HB6.out hg_ (Nat.le_trans HBS.out HRG.out) HB6.out.size); have HW7 := Lib.hid (Stb.below_grown1 HW6.out hg_ HRG.out HW6.out.size); have HG7 := Lib.hid (Kd.R_grown HG6.out hg_ (fun k hk e => hk.2 (Option.some.inj e))); have HM7 := Lib.hid (blk_below HM4.out HW7.out); have y0 := blk_cell HM7.out 0; have y1 := blk_cell HM7.out 1; have y2 := blk_cell HM7.out 2; have y3 := blk_cell HM7.out 3; have y4 := blk_cell HM7.out 4; have y5 := blk_cell HM7.out 5; have HRL7 : Hid (R < w7.heap.size) := Lib.hid (blk_lt hz_); clear HZ6 HB6 HW6 HG6; clear hz_ hg_ hs_)))
        refine (TL.out _ (Kd.C_below HX5.out HW7.out)).mono ?_
        rintro e w8 ⟨v1, v2, rfl, hi, hb⟩
        have HB8 := Lib.hid (below_then HB7.out HB7.out.size hb)
        have HW8 := Lib.hid (below_then HW7.out HW7.out.size hb)
        have HZ8 := Lib.hid (blk_below HZ7.out hb)
        have HG8 := Lib.hid (Kd.R_below HG7.out hb)
        have HV1 : Hid (kI.R 3 w8 w.heap.size (fun k => w4.heap.size ≤ k ∧ k ≠ R) v1 lv) := Lib.hid (Kd.R_lower (Kd.R_mono (Kd.R_bound hi.1) (fun k hk => ⟨Nat.le_trans HW7.out.size hk.2.1, by have := HRL7.out; have := hk.2.1; omega⟩)) HB7.out.size)
        have HV2 : Hid (kI.R 3 w8 w.heap.size (fun k => w4.heap.size ≤ k ∧ k ≠ R) v2 bt) := Lib.hid (Kd.R_lower (Kd.R_mono (Kd.R_bound hi.2) (fun k hk => ⟨Nat.le_trans HW7.out.size hk.2.1, by have := HRL7.out; have := hk.2.1; omega⟩)) HB7.out.size)
        obtain ⟨A1, c1, rfl⟩ := Kd.R_slice hi.1
        obtain ⟨A2, c2, rfl⟩ := Kd.R_slice hi.2
        clear hi hb TL y0 y1 y2 y3 y4 y5 HM7 HZ7 HB7 HW7 HG7 HX5
        have HR4 : Hid (∀ W, Below w4.heap.size w4 W → kV.R 55 W w.heap.size (fun k => k < w4.heap.size) u7 out) := Lib.hid (fun W hW => Kd.R_below (Kd.R_mono (Kd.R_bound HO4.out) (fun k hk => hk.2.2.1)) hW)
        rcases Nat.eq_zero_or_pos out.length with h0 | h0
        · have e0 : out = [] := List.eq_nil_of_length_eq_zero h0
          subst e0
          clear h0
          obtain ⟨A7, c7, rfl⟩ := Kd.R_slice HO4.out
          have hw : IntKind.i64.wrap (-1) = -1 := by decide
          go_upto_region 12 with (first | (refine gate_ (.store 33 (.tmp 46) (.tmp 43)) rfl ?_; go_must (refine Stb.store_list rfl rfl 33 (.tmp 46) (.tmp 43) rfl (cur' := #[.int .i64 (n : Int), .int .i64 (n : Int), .slice (some ⟨g, 0, none⟩) nn nn, .slice A1 lv.length c1, .slice none 0 0, .int .i64 prm]) [.slice A1 lv.length c1] (by exact HZ8.out) (by rfl) (by rfl) (by rfl) (by kernel_rfl) (Nat.le_of_ble_eq_true rfl) (by rfl) (by rfl) ?_; intro w9 hz_ hg_ hs_; have HZ9 := Lib.hid hz_; have HB9 := Lib.hid (Stb.below_grown1 HB8.out hg_ (Nat.le_trans HBS.out HRG.out) HB8.out.size); have HW9 := Lib.hid (Stb.below_grown1 HW8.out hg_ HRG.out HW8.out.size); have HG9 := Lib.hid (Kd.R_grown HG8.out hg_ (fun k hk e => hk.2 (Option.some.inj e))); have HP9 := Lib.hid (Kd.R_grown HV1.out hg_ (fun k hk e => hk.2 (Option.some.inj e))); have HQ9 := Lib.hid (Kd.R_grown HV2.out hg_ (fun k hk e => hk.2 (Option.some.inj e))); clear HZ8 HB8 HW8 HG8 HV1 HV2; clear hz_ hg_ hs_)) | (refine gate_ (.store 33 (.tmp 47) (.tmp 44)) rfl ?_; go_must (refine Stb.store_list rfl rfl 33 (.tmp 47) (.tmp 44) rfl (cur' := #[.int .i64 (n : Int), .int .i64 (n : Int), .slice (some ⟨g, 0, none⟩) nn nn, .slice A1 lv.length c1, .slice A2 bt.length c2, .int .i64 prm]) [.slice A2 bt.length c2] (by exact HZ9.out) (by rfl) (by rfl) (by rfl) (by kernel_rfl) (Nat.le_of_ble_eq_true rfl) (by rfl) (by rfl) ?_; intro w10 hz_ hg_ hs_; have HZ10 := Lib.hid hz_; have HB10 := Lib.hid (Stb.below_grown1 HB9.out hg_ (Nat.le_trans HBS.out HRG.out) HB9.out.size); have HW10 := Lib.hid (Stb.below_grown1 HW9.out hg_ HRG.out HW9.out.size); have HG10 := Lib.hid (Kd.R_grown HG9.out hg_ (fun k hk e => hk.2 (Option.some.inj e))); have HP10 := Lib.hid (Kd.R_grown HP9.out hg_ (fun k hk e => hk.2 (Option.some.inj e))); have HQ10 := Lib.hid (Kd.R_grown HQ9.out hg_ (fun k hk e => hk.2 (Option.some.inj e))); clear HZ9 HB9 HW9 HG9 HP9 HQ9; clear hz_ hg_ hs_)))
          refine wp_region_quiet_below (by kernel_rfl) (by kernel_rfl) ?_
          repeat (go_big_quiet_step ((fail)))
          refine wpQuiet_nil ?_
          intro _ hw'
          obtain ⟨⟨dq, osq⟩, hw''⟩ := hw'
          subst hw''
          have HB11 := Lib.hid (below_then HB10.out HB10.out.size (below_regrown w10 dq osq))
          have HW11 := Lib.hid (below_then HW10.out HW10.out.size (below_regrown w10 dq osq))
          have HZ11 := Lib.hid (blk_below HZ10.out (below_regrown w10 dq osq))
          have HG11 := Lib.hid (Kd.R_below HG10.out (below_regrown w10 dq osq))
          have HP11 := Lib.hid (Kd.R_below HP10.out (below_regrown w10 dq osq))
          have HQ11 := Lib.hid (Kd.R_below HQ10.out (below_regrown w10 dq osq))
          obtain ⟨w11, hw11⟩ : ∃ w11, w11 = Sort.grow (redrawn w10 dq) osq := ⟨_, rfl⟩
          rw [← hw11] at HB11 HW11 HZ11 HG11 HP11 HQ11 ⊢
          clear hw11 HB10 HW10 HZ10 HG10 HP10 HQ10
          have HR11 := Lib.hid (HR4.out w11 HW11.out)
          have y0 := blk_cell HZ11.out 0
          have y1 := blk_cell HZ11.out 1
          have y2 := blk_cell HZ11.out 2
          have y3 := blk_cell HZ11.out 3
          have y4 := blk_cell HZ11.out 4
          have y5 := blk_cell HZ11.out 5
          go_wp2_with (first | (at_builtin; go_must (refine Kd.R_append kV (w0 := w) w.heap.size rfl _ _ 51 55 (.agg #[.int .i64 0, .int .i64 0, .slice none 0 0, .slice none 0 0, .slice none 0 0, .int .i64 0]) 96 rfl Try.underlying51 infoV rfl (by decide) (by decide) (.slice A7 0 c7) _ (⟨(n : Int), (n : Int), ac, lv, bt, prm⟩ : Iv) [.int .i64 (n : Int), .int .i64 (n : Int), .slice (some ⟨g, 0, none⟩) nn nn, .slice A1 lv.length c1, .slice A2 bt.length c2, .int .i64 prm] (fun _ => True) (fun k => w4.heap.size ≤ k ∧ k ≠ R) rfl rfl (k55_mkM _ _ _ (⟨(n : Int), (n : Int), ac, lv, bt, prm⟩ : Iv) HG11.out HP11.out HQ11.out) (fun k hk => ⟨trivial, fun e => absurd (HR11.out.1 k e.symm) (Nat.not_lt.2 hk.1)⟩) (fun _ _ => trivial) (by exact Kd.R_mono HR11.out (fun _ _ => trivial)) (by exact HB11.out) (by exact HB11.out.size) ?hl ?_; (case hl => have h1 := HOL.out; have h2 := HNI.out; have h3 := HL.out; simp only [List.length_nil]; omega); intro v12 w12 ho hb hg hat; have HO12 := Lib.hid ho; have HB12 := Lib.hid hb; clear ho hb hg hat)))
          go_roundw
          case rel => exact ⟨n + 1, _, by go_num, Lib.hid (by have := HNI.out; omega), Lib.hid HOUT2.out.symm, Lib.hid (Nat.le_trans (addI_len _ _) (by have := HOL.out; omega)), by rw [addI_nil]; exact HO12, HB12⟩
          case measure => have := HNI.out; simp only [intOf]; omega
        · obtain ⟨L, hL⟩ : ∃ L, out.length = L + 1 := ⟨out.length - 1, by omega⟩
          have HLE := Lib.hid hL
          obtain ⟨g7, c7, rfl, _⟩ := Kd.R_form HO4.out h0
          obtain ⟨y, hy⟩ : ∃ y, out[L]? = some y := ⟨out[L]'(by omega), List.getElem?_eq_getElem (by omega)⟩
          have HY := Lib.hid hy
          have HGD : Hid (out.getD (L : Int).toNat z55 = y) := Lib.hid (by rw [Int.toNat_natCast, List.getD_eq_getElem?_getD, hy]; rfl)
          obtain ⟨Lm, hLm⟩ : ∃ Lm, Lm = out.length := ⟨_, rfl⟩
          have HLM := Lib.hid hLm
          rw [← hLm] at HO4 HR4 hL ⊢
          have hls : (Lm : Int) - 1 = L := by omega
          have hl1 : decide (L < Lm) = true := decide_eq_true (by omega)
          have hlI : (L : Int) < Lm := by omega
          have hlr : Lm ≤ 41 := by have := HOL.out; omega
          have hw : IntKind.i64.wrap (L : Int) = L := by rw [Go.IntKind.wrap_i64]; omega
          have hl0 : (0 : Int) ≤ L := by omega
          have hl00 : decide ((0 : Int) ≤ (L : Int)) = true := decide_eq_true hl0
          clear hL hLm h0 hy HO4
          go_upto_region 12 with (first | (refine gate_ (.store 33 (.tmp 46) (.tmp 43)) rfl ?_; go_must (refine Stb.store_list rfl rfl 33 (.tmp 46) (.tmp 43) rfl (cur' := #[.int .i64 (n : Int), .int .i64 (n : Int), .slice (some ⟨g, 0, none⟩) nn nn, .slice A1 lv.length c1, .slice none 0 0, .int .i64 prm]) [.slice A1 lv.length c1] (by exact HZ8.out) (by rfl) (by rfl) (by rfl) (by kernel_rfl) (Nat.le_of_ble_eq_true rfl) (by rfl) (by rfl) ?_; intro w9 hz_ hg_ hs_; have HZ9 := Lib.hid hz_; have HB9 := Lib.hid (Stb.below_grown1 HB8.out hg_ (Nat.le_trans HBS.out HRG.out) HB8.out.size); have HW9 := Lib.hid (Stb.below_grown1 HW8.out hg_ HRG.out HW8.out.size); have HG9 := Lib.hid (Kd.R_grown HG8.out hg_ (fun k hk e => hk.2 (Option.some.inj e))); have HP9 := Lib.hid (Kd.R_grown HV1.out hg_ (fun k hk e => hk.2 (Option.some.inj e))); have HQ9 := Lib.hid (Kd.R_grown HV2.out hg_ (fun k hk e => hk.2 (Option.some.inj e))); clear HZ8 HB8 HW8 HG8 HV1 HV2; clear hz_ hg_ hs_)) | (refine gate_ (.store 33 (.tmp 47) (.tmp 44)) rfl ?_; go_must (refine Stb.store_list rfl rfl 33 (.tmp 47) (.tmp 44) rfl (cur' := #[.int .i64 (n : Int), .int .i64 (n : Int), .slice (some ⟨g, 0, none⟩) nn nn, .slice A1 lv.length c1, .slice A2 bt.length c2, .int .i64 prm]) [.slice A2 bt.length c2] (by exact HZ9.out) (by rfl) (by rfl) (by rfl) (by kernel_rfl) (Nat.le_of_ble_eq_true rfl) (by rfl) (by rfl) ?_; intro w10 hz_ hg_ hs_; have HZ10 := Lib.hid hz_; have HB10 := Lib.hid (Stb.below_grown1 HB9.out hg_ (Nat.le_trans HBS.out HRG.out) HB9.out.size); have HW10 := Lib.hid (Stb.below_grown1 HW9.out hg_ HRG.out HW9.out.size); have HG10 := Lib.hid (Kd.R_grown HG9.out hg_ (fun k hk e => hk.2 (Option.some.inj e))); have HP10 := Lib.hid (Kd.R_grown HP9.out hg_ (fun k hk e => hk.2 (Option.some.inj e))); have HQ10 := Lib.hid (Kd.R_grown HQ9.out hg_ (fun k hk e => hk.2 (Option.some.inj e))); clear HZ9 HB9 HW9 HG9 HP9 HQ9; clear hz_ hg_ hs_)))
          have HR10 := Lib.hid (HR4.out w10 HW10.out)
          obtain ⟨cc, hcl, hM, hcc, hfz⟩ := Kd.R_elem HR10.out z55 (L : Int) hl0 hlI
          rw [HGD.out] at hM
          obtain ⟨v2, v3, v4, rfl, r2, r3, r4⟩ := k55_openM hM
          obtain ⟨B2, q2, rfl⟩ := Kd.R_slice r2
          obtain ⟨B3, q3, rfl⟩ := Kd.R_slice r3
          obtain ⟨B4, q4, rfl⟩ := Kd.R_slice r4
          rw [Int.toNat_natCast] at hcc
          have e2 : w10.cell? ⟨g7, L * 6 + 2, none⟩ = some (.slice B2 y.f2.length q2) := hcc 2 _ rfl
          have e3 : w10.cell? ⟨g7, L * 6 + 3, none⟩ = some (.slice B3 y.f3.length q3) := hcc 3 _ rfl
          have e4 : w10.cell? ⟨g7, L * 6 + 4, none⟩ = some (.slice B4 y.f4.length q4) := hcc 4 _ rfl
          have HM10 := Lib.hid hM
          obtain ⟨b2, hb2⟩ : ∃ b2, b2 = decide (y.f2 = ac) := ⟨_, rfl⟩
          obtain ⟨b3, hb3⟩ : ∃ b3, b3 = decide (y.f3 = lv) := ⟨_, rfl⟩
          obtain ⟨b4, hb4⟩ : ∃ b4, b4 = decide (y.f4 = bt) := ⟨_, rfl⟩
          have HB2 := Lib.hid hb2
          have HB3 := Lib.hid hb3
          have HB4 := Lib.hid hb4
          have HLK : Hid (likeB y (⟨(n : Int), (n : Int), ac, lv, bt, prm⟩ : Iv) = (b2 && (b3 && b4))) := Lib.hid (by rw [hb2, hb3, hb4]; rfl)
          clear hb2 hb3 hb4
          have T2 : Hid (∀ dd os, Calls Try.prog 55 #[.slice B2 y.f2.length q2, .slice (some ⟨g, 0, none⟩) nn nn] (Sort.grow (redrawn w10 dd) os) fun e w' => e = .returned (.bool b2) ∧ Below (Sort.grow (redrawn w10 dd) os).heap.size (Sort.grow (redrawn w10 dd) os) w') := Lib.hid (fun dd os => by rw [HB2.out]; exact eq_calls _ _ _ _ _ (Kd.R_below r2 (below_regrown w10 dd os)) (Kd.R_below HG10.out (below_regrown w10 dd os)))
          have T3 : Hid (∀ dd os, Calls Try.prog 55 #[.slice B3 y.f3.length q3, .slice A1 lv.length c1] (Sort.grow (redrawn w10 dd) os) fun e w' => e = .returned (.bool b3) ∧ Below (Sort.grow (redrawn w10 dd) os).heap.size (Sort.grow (redrawn w10 dd) os) w') := Lib.hid (fun dd os => by rw [HB3.out]; exact eq_calls _ _ _ _ _ (Kd.R_below r3 (below_regrown w10 dd os)) (Kd.R_below HP10.out (below_regrown w10 dd os)))
          have T4 : Hid (∀ dd os, Calls Try.prog 55 #[.slice B4 y.f4.length q4, .slice A2 bt.length c2] (Sort.grow (redrawn w10 dd) os) fun e w' => e = .returned (.bool b4) ∧ Below (Sort.grow (redrawn w10 dd) os).heap.size (Sort.grow (redrawn w10 dd) os) w') := Lib.hid (fun dd os => by rw [HB4.out]; exact eq_calls _ _ _ _ _ (Kd.R_below r4 (below_regrown w10 dd os)) (Kd.R_below HQ10.out (below_regrown w10 dd os)))
          have z2 := cell_regrown e2
          have z3 := cell_regrown e3
          have z4 := cell_regrown e4
          have x2 := cell_regrown (blk_cell HZ10.out 2)
          have x3 := cell_regrown (blk_cell HZ10.out 3)
          have x4 := cell_regrown (blk_cell HZ10.out 4)
          clear e2 e3 e4 hcl hM hcc hfz r2 r3 r4 HR10 HB2 HB3 HB4
          cases b2 with
          | false =>
            have HUN : Hid (likeB y (⟨(n : Int), (n : Int), ac, lv, bt, prm⟩ : Iv) = false) := Lib.hid HLK.out
            refine wp_region_quiet_below (by kernel_rfl) (by kernel_rfl) ?_
            repeat (go_big_quiet_step ((first | (go_at_call 55; with_reducible exact Calls.regrown_of (T2.out _ _)) | (go_at_call 55; with_reducible exact Calls.regrown_of (T3.out _ _)) | (go_at_call 55; with_reducible exact Calls.regrown_of (T4.out _ _)))))
            refine wpQuiet_nil ?_
            intro _ hw'
            obtain ⟨⟨dq, osq⟩, hw''⟩ := hw'
            subst hw''
            have HB11 := Lib.hid (below_then HB10.out HB10.out.size (below_regrown w10 dq osq))
            have HW11 := Lib.hid (below_then HW10.out HW10.out.size (below_regrown w10 dq osq))
            have HZ11 := Lib.hid (blk_below HZ10.out (below_regrown w10 dq osq))
            have HG11 := Lib.hid (Kd.R_below HG10.out (below_regrown w10 dq osq))
            have HP11 := Lib.hid (Kd.R_below HP10.out (below_regrown w10 dq osq))
            have HQ11 := Lib.hid (Kd.R_below HQ10.out (below_regrown w10 dq osq))
            obtain ⟨w11, hw11⟩ : ∃ w11, w11 = Sort.grow (redrawn w10 dq) osq := ⟨_, rfl⟩
            rw [← hw11] at HB11 HW11 HZ11 HG11 HP11 HQ11 ⊢
            clear hw11 HB10 HW10 HZ10 HG10 HP10 HQ10
            have HR11 := Lib.hid (HR4.out w11 HW11.out)
            clear z2 z3 z4 x2 x3 x4 T2 T3 T4
            have y0 := blk_cell HZ11.out 0
            have y1 := blk_cell HZ11.out 1
            have y2 := blk_cell HZ11.out 2
            have y3 := blk_cell HZ11.out 3
            have y4 := blk_cell HZ11.out 4
            have y5 := blk_cell HZ11.out 5
            go_wp2_with (first | (at_builtin; go_must (refine Kd.R_append kV (w0 := w) w.heap.size rfl _ _ 51 55 (.agg #[.int .i64 0, .int .i64 0, .slice none 0 0, .slice none 0 0, .slice none 0 0, .int .i64 0]) 96 rfl Try.underlying51 infoV rfl (by decide) (by decide) (.slice (some ⟨g7, 0, none⟩) Lm c7) _ (⟨(n : Int), (n : Int), ac, lv, bt, prm⟩ : Iv) [.int .i64 (n : Int), .int .i64 (n : Int), .slice (some ⟨g, 0, none⟩) nn nn, .slice A1 lv.length c1, .slice A2 bt.length c2, .int .i64 prm] (fun _ => True) (fun k => w4.heap.size ≤ k ∧ k ≠ R) rfl rfl (k55_mkM _ _ _ (⟨(n : Int), (n : Int), ac, lv, bt, prm⟩ : Iv) HG11.out HP11.out HQ11.out) (fun k hk => ⟨trivial, fun e => absurd (HR11.out.1 k e.symm) (Nat.not_lt.2 hk.1)⟩) (fun _ _ => trivial) (by exact Kd.R_mono HR11.out (fun _ _ => trivial)) (by exact HB11.out) (by exact HB11.out.size) ?hl ?_; (case hl => have h1 := HOL.out; have h2 := HNI.out; have h3 := HL.out; have h4 := HLM.out; omega); intro v12 w12 ho hb hg hat; have HO12 := Lib.hid ho; have HB12 := Lib.hid hb; clear ho hb hg hat)))
            go_roundw
            case rel => exact ⟨n + 1, _, by go_num, Lib.hid (by have := HNI.out; omega), Lib.hid HOUT2.out.symm, Lib.hid (Nat.le_trans (addI_len _ _) (by have := HOL.out; omega)), by rw [addI_unlike HLE.out HY.out HUN.out]; exact HO12, HB12⟩
            case measure => have := HNI.out; simp only [intOf]; omega
          | true =>
            cases b3 with
            | false =>
              have HUN : Hid (likeB y (⟨(n : Int), (n : Int), ac, lv, bt, prm⟩ : Iv) = false) := Lib.hid HLK.out
              refine wp_region_quiet_below (by kernel_rfl) (by kernel_rfl) ?_
              repeat (go_big_quiet_step ((first | (go_at_call 55; with_reducible exact Calls.regrown_of (T2.out _ _)) | (go_at_call 55; with_reducible exact Calls.regrown_of (T3.out _ _)) | (go_at_call 55; with_reducible exact Calls.regrown_of (T4.out _ _)))))
              refine wpQuiet_nil ?_
              intro _ hw'
              obtain ⟨⟨dq, osq⟩, hw''⟩ := hw'
              subst hw''
              have HB11 := Lib.hid (below_then HB10.out HB10.out.size (below_regrown w10 dq osq))
              have HW11 := Lib.hid (below_then HW10.out HW10.out.size (below_regrown w10 dq osq))
              have HZ11 := Lib.hid (blk_below HZ10.out (below_regrown w10 dq osq))
              have HG11 := Lib.hid (Kd.R_below HG10.out (below_regrown w10 dq osq))
              have HP11 := Lib.hid (Kd.R_below HP10.out (below_regrown w10 dq osq))
              have HQ11 := Lib.hid (Kd.R_below HQ10.out (below_regrown w10 dq osq))
              obtain ⟨w11, hw11⟩ : ∃ w11, w11 = Sort.grow (redrawn w10 dq) osq := ⟨_, rfl⟩
              rw [← hw11] at HB11 HW11 HZ11 HG11 HP11 HQ11 ⊢
              clear hw11 HB10 HW10 HZ10 HG10 HP10 HQ10
              have HR11 := Lib.hid (HR4.out w11 HW11.out)
              clear z2 z3 z4 x2 x3 x4 T2 T3 T4
              have y0 := blk_cell HZ11.out 0
              have y1 := blk_cell HZ11.out 1
              have y2 := blk_cell HZ11.out 2
              have y3 := blk_cell HZ11.out 3
              have y4 := blk_cell HZ11.out 4
              have y5 := blk_cell HZ11.out 5
              go_wp2_with (first | (at_builtin; go_must (refine Kd.R_append kV (w0 := w) w.heap.size rfl _ _ 51 55 (.agg #[.int .i64 0, .int .i64 0, .slice none 0 0, .slice none 0 0, .slice none 0 0, .int .i64 0]) 96 rfl Try.underlying51 infoV rfl (by decide) (by decide) (.slice (some ⟨g7, 0, none⟩) Lm c7) _ (⟨(n : Int), (n : Int), ac, lv, bt, prm⟩ : Iv) [.int .i64 (n : Int), .int .i64 (n : Int), .slice (some ⟨g, 0, none⟩) nn nn, .slice A1 lv.length c1, .slice A2 bt.length c2, .int .i64 prm] (fun _ => True) (fun k => w4.heap.size ≤ k ∧ k ≠ R) rfl rfl (k55_mkM _ _ _ (⟨(n : Int), (n : Int), ac, lv, bt, prm⟩ : Iv) HG11.out HP11.out HQ11.out) (fun k hk => ⟨trivial, fun e => absurd (HR11.out.1 k e.symm) (Nat.not_lt.2 hk.1)⟩) (fun _ _ => trivial) (by exact Kd.R_mono HR11.out (fun _ _ => trivial)) (by exact HB11.out) (by exact HB11.out.size) ?hl ?_; (case hl => have h1 := HOL.out; have h2 := HNI.out; have h3 := HL.out; have h4 := HLM.out; omega); intro v12 w12 ho hb hg hat; have HO12 := Lib.hid ho; have HB12 := Lib.hid hb; clear ho hb hg hat)))
              go_roundw
              case rel => exact ⟨n + 1, _, by go_num, Lib.hid (by have := HNI.out; omega), Lib.hid HOUT2.out.symm, Lib.hid (Nat.le_trans (addI_len _ _) (by have := HOL.out; omega)), by rw [addI_unlike HLE.out HY.out HUN.out]; exact HO12, HB12⟩
              case measure => have := HNI.out; simp only [intOf]; omega
            | true =>
              cases b4 with
              | false =>
                have HUN : Hid (likeB y (⟨(n : Int), (n : Int), ac, lv, bt, prm⟩ : Iv) = false) := Lib.hid HLK.out
                refine wp_region_quiet_below (by kernel_rfl) (by kernel_rfl) ?_
                repeat (go_big_quiet_step ((first | (go_at_call 55; with_reducible exact Calls.regrown_of (T2.out _ _)) | (go_at_call 55; with_reducible exact Calls.regrown_of (T3.out _ _)) | (go_at_call 55; with_reducible exact Calls.regrown_of (T4.out _ _)))))
                refine wpQuiet_nil ?_
                intro _ hw'
                obtain ⟨⟨dq, osq⟩, hw''⟩ := hw'
                subst hw''
                have HB11 := Lib.hid (below_then HB10.out HB10.out.size (below_regrown w10 dq osq))
                have HW11 := Lib.hid (below_then HW10.out HW10.out.size (below_regrown w10 dq osq))
                have HZ11 := Lib.hid (blk_below HZ10.out (below_regrown w10 dq osq))
                have HG11 := Lib.hid (Kd.R_below HG10.out (below_regrown w10 dq osq))
                have HP11 := Lib.hid (Kd.R_below HP10.out (below_regrown w10 dq osq))
                have HQ11 := Lib.hid (Kd.R_below HQ10.out (below_regrown w10 dq osq))
                obtain ⟨w11, hw11⟩ : ∃ w11, w11 = Sort.grow (redrawn w10 dq) osq := ⟨_, rfl⟩
                rw [← hw11] at HB11 HW11 HZ11 HG11 HP11 HQ11 ⊢
                clear hw11 HB10 HW10 HZ10 HG10 HP10 HQ10
                have HR11 := Lib.hid (HR4.out w11 HW11.out)
                clear z2 z3 z4 x2 x3 x4 T2 T3 T4
                have y0 := blk_cell HZ11.out 0
                have y1 := blk_cell HZ11.out 1
                have y2 := blk_cell HZ11.out 2
                have y3 := blk_cell HZ11.out 3
                have y4 := blk_cell HZ11.out 4
                have y5 := blk_cell HZ11.out 5
                go_wp2_with (first | (at_builtin; go_must (refine Kd.R_append kV (w0 := w) w.heap.size rfl _ _ 51 55 (.agg #[.int .i64 0, .int .i64 0, .slice none 0 0, .slice none 0 0, .slice none 0 0, .int .i64 0]) 96 rfl Try.underlying51 infoV rfl (by decide) (by decide) (.slice (some ⟨g7, 0, none⟩) Lm c7) _ (⟨(n : Int), (n : Int), ac, lv, bt, prm⟩ : Iv) [.int .i64 (n : Int), .int .i64 (n : Int), .slice (some ⟨g, 0, none⟩) nn nn, .slice A1 lv.length c1, .slice A2 bt.length c2, .int .i64 prm] (fun _ => True) (fun k => w4.heap.size ≤ k ∧ k ≠ R) rfl rfl (k55_mkM _ _ _ (⟨(n : Int), (n : Int), ac, lv, bt, prm⟩ : Iv) HG11.out HP11.out HQ11.out) (fun k hk => ⟨trivial, fun e => absurd (HR11.out.1 k e.symm) (Nat.not_lt.2 hk.1)⟩) (fun _ _ => trivial) (by exact Kd.R_mono HR11.out (fun _ _ => trivial)) (by exact HB11.out) (by exact HB11.out.size) ?hl ?_; (case hl => have h1 := HOL.out; have h2 := HNI.out; have h3 := HL.out; have h4 := HLM.out; omega); intro v12 w12 ho hb hg hat; have HO12 := Lib.hid ho; have HB12 := Lib.hid hb; clear ho hb hg hat)))
                go_roundw
                case rel => exact ⟨n + 1, _, by go_num, Lib.hid (by have := HNI.out; omega), Lib.hid HOUT2.out.symm, Lib.hid (Nat.le_trans (addI_len _ _) (by have := HOL.out; omega)), by rw [addI_unlike HLE.out HY.out HUN.out]; exact HO12, HB12⟩
                case measure => have := HNI.out; simp only [intOf]; omega
              | true =>
                have HUN : Hid (likeB y (⟨(n : Int), (n : Int), ac, lv, bt, prm⟩ : Iv) = true) := Lib.hid HLK.out
                refine wp_region_quiet_below (by kernel_rfl) (by kernel_rfl) ?_
                repeat (go_big_quiet_step ((first | (go_at_call 55; with_reducible exact Calls.regrown_of (T2.out _ _)) | (go_at_call 55; with_reducible exact Calls.regrown_of (T3.out _ _)) | (go_at_call 55; with_reducible exact Calls.regrown_of (T4.out _ _)))))
                refine wpQuiet_nil ?_
                intro _ hw'
                obtain ⟨⟨dq, osq⟩, hw''⟩ := hw'
                subst hw''
                have HB11 := Lib.hid (below_then HB10.out HB10.out.size (below_regrown w10 dq osq))
                have HW11 := Lib.hid (below_then HW10.out HW10.out.size (below_regrown w10 dq osq))
                have HZ11 := Lib.hid (blk_below HZ10.out (below_regrown w10 dq osq))
                have HG11 := Lib.hid (Kd.R_below HG10.out (below_regrown w10 dq osq))
                have HP11 := Lib.hid (Kd.R_below HP10.out (below_regrown w10 dq osq))
                have HQ11 := Lib.hid (Kd.R_below HQ10.out (below_regrown w10 dq osq))
                obtain ⟨w11, hw11⟩ : ∃ w11, w11 = Sort.grow (redrawn w10 dq) osq := ⟨_, rfl⟩
                rw [← hw11] at HB11 HW11 HZ11 HG11 HP11 HQ11 ⊢
                clear hw11 HB10 HW10 HZ10 HG10 HP10 HQ10
                have HR11 := Lib.hid (HR4.out w11 HW11.out)
                clear z2 z3 z4 x2 x3 x4 T2 T3 T4
                have ym := blk_cell (blk_below HM4.out HW11.out) 0
                obtain ⟨cc, hcl, hM, hcc, hfz⟩ := Kd.R_elem HR11.out z55 (L : Int) hl0 hlI
                rw [HGD.out] at hM
                obtain ⟨v2, v3, v4, rfl, r2, r3, r4⟩ := k55_openM hM
                have HCC := Lib.hid hcc
                have HM' : Hid (kV.M w11 w.heap.size (fun k => k < w4.heap.size ∧ k ≠ g7) ({ y with f1 := (n : Int) } : Iv) [.int .i64 y.f0, .int .i64 (n : Int), v2, v3, v4, .int .i64 y.f5]) := Lib.hid (k55_mkM _ _ _ ({ y with f1 := (n : Int) } : Iv) r2 r3 r4)
                clear hcl hM hcc hfz r2 r3 r4
                go_wp2_with (first | (refine gate_ (.store 3 (.tmp 88) (.tmp 86)) rfl ?_; go_must (refine Kd.R_store kV (w0 := w) w.heap.size rfl rfl 3 (.tmp 88) (.tmp 86) rfl 55 (L : Int) 1 out ({ y with f1 := (n : Int) } : Iv) (.int .i64 (n : Int)) [.int .i64 (n : Int)] [.int .i64 y.f0, .int .i64 y.f1, v2, v3, v4, .int .i64 y.f5] (fun k => k < w4.heap.size) (fun k => k < w4.heap.size ∧ k ≠ g7) (g := g7) (n := Lm) (cap := c7) (o' := L * 6 + 1) (by rfl) (by rfl) (by rfl) (by rfl) (by kernel_rfl) (fun q hq => by simp only [List.mem_singleton] at hq; subst hq; rfl) (by exact HR11.out) (by exact hl0) (by exact hlI) rfl (by exact HCC.out) (Nat.le_of_ble_eq_true rfl) (by exact HM'.out) (fun k hk => hk) (by exact HB11.out) ?_; intro w12 ho hb hg; have HO12 := Lib.hid (Kd.R_mono ho (fun _ _ => trivial)); have HB12 := Lib.hid hb; clear ho hb hg)))
                go_roundw
                case rel => exact ⟨n + 1, _, by go_num, Lib.hid (by have := HNI.out; omega), Lib.hid HOUT2.out.symm, Lib.hid (Nat.le_trans (addI_len _ _) (by have := HOL.out; omega)), by rw [addI_like HLE.out HY.out HUN.out]; exact HO12, HB12⟩
                case measure => have := HNI.out; simp only [intOf]; omega
    · obtain rfl : n = ms.length := by omega
      have hlt : decide (ms.length < ms.length) = false := decide_eq_false (Nat.lt_irrefl _)
      have hltI : decide ((ms.length : Int) < (ms.length : Int)) = false := decide_eq_false (Int.lt_irrefl _)
      clear h hn
      rw [List.take_of_length_le (Nat.le_refl _)] at HOUT
      have HF := Lib.hid HO.out
      have HL3 := Lib.hid HOL.out
      rw [HOUT.out] at HF HL3
      obtain ⟨A7, c7, rfl⟩ := Kd.R_slice HO.out
      go_wp2_with fail
      go_ret2
      exact ⟨_, rfl, HF.out, Nat.le_trans HL3.out HL.out, HB.out⟩
end Go.Proofs.Ytnpphmgibgfjoaa.IvA
/- The law's fixed question of layer 19. -/
set_option linter.unusedSimpArgs false
namespace Go.Proofs.Ytnpphmgibgfjoaa.IvK
open Go Go.RowKit Go.Proofs.YtnpphmgibgfjoaaW.PrintWords Go.Proofs.YtnpphmgibgfjoaaW.PrintLast Go.Proofs.YtnpphmgibgfjoaaW.PrintMore Mem PAll KW MixP MixW StrP AtA Srt Grp Sl Dsc AtB Roo Cho MayP Awk UpsP ApP Fnd PlF PlU PlA Chr PlL PlN PlW PlK McW ApY ApW MpC MpW IvC IvA
open CrP hiding Od
set_option maxHeartbeats 4000000 in
theorem enough_calls (g2 q2 g3 q3 g4 q4 : Nat) (w : World) (h0 : w.cell? ⟨g2, 0, none⟩ = some (.int .i64 7)) (h1 : w.cell? ⟨g2, 1, none⟩ = some (.int .i64 (-1))) (h2 : w.cell? ⟨g3, 0, none⟩ = some (.int .i64 3)) (h3 : w.cell? ⟨g3, 1, none⟩ = some (.int .i64 0)) :
    Calls Try.prog 50 #[.agg #[.int .i64 0, .int .i64 0, .slice (some ⟨g2, 0, none⟩) 2 q2, .slice (some ⟨g3, 0, none⟩) 2 q3, .slice (some ⟨g4, 0, none⟩) 2 q4, .int .i64 7], .int .i64 1] w fun e w' => e = .returned (.bool true) ∧ Below w.heap.size w w' := by
  have HB := Lib.hid (below_alloc (Below.refl w.heap.size w) (.cells #[.int .i64 0, .int .i64 0, .slice (some ⟨g2, 0, none⟩) 2 q2, .slice (some ⟨g3, 0, none⟩) 2 q3, .slice (some ⟨g4, 0, none⟩) 2 q4, .int .i64 7] 55))
  have c0 := cell_alloc h0 (.cells #[.int .i64 0, .int .i64 0, .slice (some ⟨g2, 0, none⟩) 2 q2, .slice (some ⟨g3, 0, none⟩) 2 q3, .slice (some ⟨g4, 0, none⟩) 2 q4, .int .i64 7] 55)
  have c1 := cell_alloc h1 (.cells #[.int .i64 0, .int .i64 0, .slice (some ⟨g2, 0, none⟩) 2 q2, .slice (some ⟨g3, 0, none⟩) 2 q3, .slice (some ⟨g4, 0, none⟩) 2 q4, .int .i64 7] 55)
  have c2 := cell_alloc h2 (.cells #[.int .i64 0, .int .i64 0, .slice (some ⟨g2, 0, none⟩) 2 q2, .slice (some ⟨g3, 0, none⟩) 2 q3, .slice (some ⟨g4, 0, none⟩) 2 q4, .int .i64 7] 55)
  have c3 := cell_alloc h3 (.cells #[.int .i64 0, .int .i64 0, .slice (some ⟨g2, 0, none⟩) 2 q2, .slice (some ⟨g3, 0, none⟩) 2 q3, .slice (some ⟨g4, 0, none⟩) 2 q4, .int .i64 7] 55)
  have HBK : Hid ((w.alloc (.cells #[.int .i64 0, .int .i64 0, .slice (some ⟨g2, 0, none⟩) 2 q2, .slice (some ⟨g3, 0, none⟩) 2 q3, .slice (some ⟨g4, 0, none⟩) 2 q4, .int .i64 7] 55)).heap[w.heap.size]? = some (.cells #[.int .i64 0, .int .i64 0, .slice (some ⟨g2, 0, none⟩) 2 q2, .slice (some ⟨g3, 0, none⟩) 2 q3, .slice (some ⟨g4, 0, none⟩) 2 q4, .int .i64 7] 55 (0, 0))) := Lib.hid (blk_new _ _)
  have y2 := blk_cell HBK.out 2
  have y3 := blk_cell HBK.out 3
  clear h0 h1 h2 h3
  go_enter Try.func50, Try.ntmps50
  go_wp2_with fail
  go_loop [5, 11] (fun n' i' => (n' = .int .i64 0 ∧ i' = .int .i64 0) ∨ (n' = .int .i64 1 ∧ i' = .int .i64 1) ∨ (n' = .int .i64 1 ∧ i' = .int .i64 2)) (fun _ i' => (2 - intOf i').toNat)
  case atStart => exact .inl ⟨rfl, rfl⟩
  case round =>
    rcases hrel with ⟨rfl, rfl⟩ | ⟨rfl, rfl⟩ | ⟨rfl, rfl⟩
    · go_wp2_with fail
      go_round
      case rel => exact .inr (.inl ⟨rfl, rfl⟩)
      case measure => simp [intOf]
    · go_wp2_with fail
      go_round
      case rel => exact .inr (.inr ⟨rfl, rfl⟩)
      case measure => simp [intOf]
    · go_wp2_with fail
      go_ret
      exact ⟨rfl, HB.out⟩
set_option maxHeartbeats 4000000 in
theorem placeA_calls (g2 q2 g3 q3 g4 q4 : Nat) (w : World) (h0 : w.cell? ⟨g2, 0, none⟩ = some (.int .i64 7)) (h1 : w.cell? ⟨g2, 1, none⟩ = some (.int .i64 (-1))) (h2 : w.cell? ⟨g3, 0, none⟩ = some (.int .i64 3)) (h3 : w.cell? ⟨g3, 1, none⟩ = some (.int .i64 0)) :
    Calls Try.prog 51 #[.agg #[.int .i64 0, .int .i64 0, .slice (some ⟨g2, 0, none⟩) 2 q2, .slice (some ⟨g3, 0, none⟩) 2 q3, .slice (some ⟨g4, 0, none⟩) 2 q4, .int .i64 7], .int .i64 7, .int .i64 3] w fun e w' => e = .returned (.int .i64 0) ∧ Below w.heap.size w w' := by
  have HB := Lib.hid (below_alloc (Below.refl w.heap.size w) (.cells #[.int .i64 0, .int .i64 0, .slice (some ⟨g2, 0, none⟩) 2 q2, .slice (some ⟨g3, 0, none⟩) 2 q3, .slice (some ⟨g4, 0, none⟩) 2 q4, .int .i64 7] 55))
  have c0 := cell_alloc h0 (.cells #[.int .i64 0, .int .i64 0, .slice (some ⟨g2, 0, none⟩) 2 q2, .slice (some ⟨g3, 0, none⟩) 2 q3, .slice (some ⟨g4, 0, none⟩) 2 q4, .int .i64 7] 55)
  have c1 := cell_alloc h1 (.cells #[.int .i64 0, .int .i64 0, .slice (some ⟨g2, 0, none⟩) 2 q2, .slice (some ⟨g3, 0, none⟩) 2 q3, .slice (some ⟨g4, 0, none⟩) 2 q4, .int .i64 7] 55)
  have c2 := cell_alloc h2 (.cells #[.int .i64 0, .int .i64 0, .slice (some ⟨g2, 0, none⟩) 2 q2, .slice (some ⟨g3, 0, none⟩) 2 q3, .slice (some ⟨g4, 0, none⟩) 2 q4, .int .i64 7] 55)
  have c3 := cell_alloc h3 (.cells #[.int .i64 0, .int .i64 0, .slice (some ⟨g2, 0, none⟩) 2 q2, .slice (some ⟨g3, 0, none⟩) 2 q3, .slice (some ⟨g4, 0, none⟩) 2 q4, .int .i64 7] 55)
  have HBK : Hid ((w.alloc (.cells #[.int .i64 0, .int .i64 0, .slice (some ⟨g2, 0, none⟩) 2 q2, .slice (some ⟨g3, 0, none⟩) 2 q3, .slice (some ⟨g4, 0, none⟩) 2 q4, .int .i64 7] 55)).heap[w.heap.size]? = some (.cells #[.int .i64 0, .int .i64 0, .slice (some ⟨g2, 0, none⟩) 2 q2, .slice (some ⟨g3, 0, none⟩) 2 q3, .slice (some ⟨g4, 0, none⟩) 2 q4, .int .i64 7] 55 (0, 0))) := Lib.hid (blk_new _ _)
  have y2 := blk_cell HBK.out 2
  have y3 := blk_cell HBK.out 3
  clear h0 h1 h2 h3
  go_enter Try.func51, Try.ntmps51
  go_wp2_with fail
  go_loop [12] (fun i' => i' = .int .i64 0) (fun i' => (2 - intOf i').toNat)
  case atStart => exact rfl
  case round =>
    obtain rfl := hrel
    · go_wp2_with fail
      go_ret
      exact ⟨rfl, HB.out⟩
set_option maxHeartbeats 4000000 in
theorem placeB_calls (g2 q2 g3 q3 g4 q4 : Nat) (w : World) (h0 : w.cell? ⟨g2, 0, none⟩ = some (.int .i64 7)) (h1 : w.cell? ⟨g2, 1, none⟩ = some (.int .i64 (-1))) (h2 : w.cell? ⟨g3, 0, none⟩ = some (.int .i64 3)) (h3 : w.cell? ⟨g3, 1, none⟩ = some (.int .i64 0)) :
    Calls Try.prog 51 #[.agg #[.int .i64 0, .int .i64 0, .slice (some ⟨g2, 0, none⟩) 2 q2, .slice (some ⟨g3, 0, none⟩) 2 q3, .slice (some ⟨g4, 0, none⟩) 2 q4, .int .i64 7], .int .i64 7, .int .i64 4] w fun e w' => e = .returned (.int .i64 (-1)) ∧ Below w.heap.size w w' := by
  have HB := Lib.hid (below_alloc (Below.refl w.heap.size w) (.cells #[.int .i64 0, .int .i64 0, .slice (some ⟨g2, 0, none⟩) 2 q2, .slice (some ⟨g3, 0, none⟩) 2 q3, .slice (some ⟨g4, 0, none⟩) 2 q4, .int .i64 7] 55))
  have c0 := cell_alloc h0 (.cells #[.int .i64 0, .int .i64 0, .slice (some ⟨g2, 0, none⟩) 2 q2, .slice (some ⟨g3, 0, none⟩) 2 q3, .slice (some ⟨g4, 0, none⟩) 2 q4, .int .i64 7] 55)
  have c1 := cell_alloc h1 (.cells #[.int .i64 0, .int .i64 0, .slice (some ⟨g2, 0, none⟩) 2 q2, .slice (some ⟨g3, 0, none⟩) 2 q3, .slice (some ⟨g4, 0, none⟩) 2 q4, .int .i64 7] 55)
  have c2 := cell_alloc h2 (.cells #[.int .i64 0, .int .i64 0, .slice (some ⟨g2, 0, none⟩) 2 q2, .slice (some ⟨g3, 0, none⟩) 2 q3, .slice (some ⟨g4, 0, none⟩) 2 q4, .int .i64 7] 55)
  have c3 := cell_alloc h3 (.cells #[.int .i64 0, .int .i64 0, .slice (some ⟨g2, 0, none⟩) 2 q2, .slice (some ⟨g3, 0, none⟩) 2 q3, .slice (some ⟨g4, 0, none⟩) 2 q4, .int .i64 7] 55)
  have HBK : Hid ((w.alloc (.cells #[.int .i64 0, .int .i64 0, .slice (some ⟨g2, 0, none⟩) 2 q2, .slice (some ⟨g3, 0, none⟩) 2 q3, .slice (some ⟨g4, 0, none⟩) 2 q4, .int .i64 7] 55)).heap[w.heap.size]? = some (.cells #[.int .i64 0, .int .i64 0, .slice (some ⟨g2, 0, none⟩) 2 q2, .slice (some ⟨g3, 0, none⟩) 2 q3, .slice (some ⟨g4, 0, none⟩) 2 q4, .int .i64 7] 55 (0, 0))) := Lib.hid (blk_new _ _)
  have y2 := blk_cell HBK.out 2
  have y3 := blk_cell HBK.out 3
  clear h0 h1 h2 h3
  go_enter Try.func51, Try.ntmps51
  go_wp2_with fail
  go_loop [12] (fun i' => i' = .int .i64 0 ∨ i' = .int .i64 1 ∨ i' = .int .i64 2) (fun i' => (2 - intOf i').toNat)
  case atStart => exact .inl rfl
  case round =>
    rcases hrel with rfl | rfl | rfl
    · go_wp2_with fail
      go_round
      case rel => exact .inr (.inl rfl)
      case measure => simp [intOf]
    · go_wp2_with fail
      go_round
      case rel => exact .inr (.inr rfl)
      case measure => simp [intOf]
    · go_wp2_with fail
      go_ret
      exact ⟨rfl, HB.out⟩
def oneM : Mp := ⟨0, ⟨1, 1, 1, 0⟩, [eight]⟩
theorem eight_boot : (slots [eight] (pgX 0) (2 : Nat) (domL 0) 2 0 []).map bootO = [1, 0] := by decide +kernel
theorem one_ivs : ivs 0 2 0 [oneM] = [⟨0, 0, [7, -1], [3, 0], [1, 0], 7⟩] := by
  show addI [] (ivl 0 2 0 oneM) = _
  rw [addI_nil]
  show [(⟨0, 0, (slots [eight] (pgX 0) (2 : Nat) (domL 0) 2 0 []).map aO, (slots [eight] (pgX 0) (2 : Nat) (domL 0) 2 0 []).map lifeO, (slots [eight] (pgX 0) (2 : Nat) (domL 0) 2 0 []).map bootO, primA ((slots [eight] (pgX 0) (2 : Nat) (domL 0) 2 0 []).map aO)⟩ : Iv)] = _
  rw [eight_act, eight_life, eight_boot]
  rfl
theorem one_chain : Chain 1 1 1 0 [oneM] where
  pos := Nat.zero_lt_one
  each := by
    intro i x hi
    match i, hi with
    | 0, hi =>
      obtain rfl := Option.some.inj hi
      exact ⟨rfl, rfl, eight_may⟩
    | i + 1, hi => cases hi
theorem one_CM {w : World} {g h : Nat} (ho : w.heap[h]? = some (.cells (aggO eight) 40 (0, 0))) (hm : w.heap[g]? = some (.cells #[.int .i64 0, .int .i64 1, .int .i64 1, .int .i64 1, .int .i64 0, .slice (some ⟨h, 0, none⟩) 1 1] 26 (0, 0))) : kM.C w (some ⟨g, 0, none⟩) [oneM].length [oneM] := by
  refine ⟨rfl, by show 1 ≤ 9223372036854775807; decide, fun _ => ⟨_, rfl, fun j p hj => ?_⟩⟩
  match j, hj with
  | 0, hj =>
    obtain rfl := Option.some.inj hj
    refine ⟨_, rfl, k26_mk w oneM (A5 := some ⟨h, 0, none⟩) (c5 := 1) (Nat.le_refl 1) (one_C ho), fun i u hu => ?_⟩
    rw [add_plain, blk_cell hm]
    match i, hu with
    | 0, hu => exact hu
    | 1, hu => exact hu
    | 2, hu => exact hu
    | 3, hu => exact hu
    | 4, hu => exact hu
    | 5, hu => exact hu
    | i + 6, hu => cases hu
  | j + 1, hj => cases hj
set_option maxHeartbeats 4000000 in
set_option maxRecDepth 100000 in
theorem awake19_calls (w : World) : Calls Try.prog 24 #[] w fun e w' => e = .returned (.bool true) ∧ Below w.heap.size w w' := by
  have HBA := Lib.hid (below_alloc (below_alloc (below_alloc (Below.refl w.heap.size w) (.cells (aggO eight) 40)) (.cells #[.int .i64 0, .int .i64 1, .int .i64 1, .int .i64 1, .int .i64 0, .slice (some ⟨w.heap.size, 0, none⟩) 1 1] 26)) (.cells #[.int .i64 0, .int .i64 1, .int .i64 1, .int .i64 1, .int .i64 0, .slice (some ⟨w.heap.size, 0, none⟩) 1 1] 26))
  have HS1 : Hid ((((w.alloc (.cells (aggO eight) 40)).alloc (.cells #[.int .i64 0, .int .i64 1, .int .i64 1, .int .i64 1, .int .i64 0, .slice (some ⟨w.heap.size, 0, none⟩) 1 1] 26)).alloc (.cells #[.int .i64 0, .int .i64 1, .int .i64 1, .int .i64 1, .int .i64 0, .slice (some ⟨w.heap.size, 0, none⟩) 1 1] 26)).heap[w.heap.size]? = some (.cells (aggO eight) 40 (0, 0))) := Lib.hid (blk_below (blk_new _ _) (below_alloc (below_alloc (Below.refl _ _) _) _))
  have HM1 : Hid ((((w.alloc (.cells (aggO eight) 40)).alloc (.cells #[.int .i64 0, .int .i64 1, .int .i64 1, .int .i64 1, .int .i64 0, .slice (some ⟨w.heap.size, 0, none⟩) 1 1] 26)).heap[w.heap.size + 1]? = some (.cells #[.int .i64 0, .int .i64 1, .int .i64 1, .int .i64 1, .int .i64 0, .slice (some ⟨w.heap.size, 0, none⟩) 1 1] 26 (0, 0)))) := Lib.hid (by have h := blk_new (w.alloc (.cells (aggO eight) 40)) (.cells #[.int .i64 0, .int .i64 1, .int .i64 1, .int .i64 1, .int .i64 0, .slice (some ⟨w.heap.size, 0, none⟩) 1 1] 26); simp only [World.alloc, Array.size_push] at h ⊢; exact h)
  have HM2 : Hid ((((w.alloc (.cells (aggO eight) 40)).alloc (.cells #[.int .i64 0, .int .i64 1, .int .i64 1, .int .i64 1, .int .i64 0, .slice (some ⟨w.heap.size, 0, none⟩) 1 1] 26)).alloc (.cells #[.int .i64 0, .int .i64 1, .int .i64 1, .int .i64 1, .int .i64 0, .slice (some ⟨w.heap.size, 0, none⟩) 1 1] 26)).heap[w.heap.size + 2]? = some (.cells #[.int .i64 0, .int .i64 1, .int .i64 1, .int .i64 1, .int .i64 0, .slice (some ⟨w.heap.size, 0, none⟩) 1 1] 26 (0, 0))) := Lib.hid (by have h := blk_new ((w.alloc (.cells (aggO eight) 40)).alloc (.cells #[.int .i64 0, .int .i64 1, .int .i64 1, .int .i64 1, .int .i64 0, .slice (some ⟨w.heap.size, 0, none⟩) 1 1] 26)) (.cells #[.int .i64 0, .int .i64 1, .int .i64 1, .int .i64 1, .int .i64 0, .slice (some ⟨w.heap.size, 0, none⟩) 1 1] 26); simp only [World.alloc, Array.size_push] at h ⊢; exact h)
  have T := Lib.hid (All_ok 1 1 1 0 (some ⟨w.heap.size + 2, 0, none⟩) 1 [oneM] 0 2 _ (one_CM HS1.out HM2.out) one_chain (by decide) (by decide) (by decide))
  rw [one_ivs] at T
  have m0 := blk_cell HM1.out 0
  have m1 := blk_cell HM1.out 1
  have m2 := blk_cell HM1.out 2
  have m3 := blk_cell HM1.out 3
  have m4 := blk_cell HM1.out 4
  have m5 := blk_cell HM1.out 5
  go_enter Try.func24, Try.ntmps24
  go_wp2_with fail
  refine T.out.mono ?_
  rintro e w3 ⟨v, rfl, hr, _, hb⟩
  have HB3 := Lib.hid (below_then HBA.out HBA.out.size hb)
  obtain ⟨g7, c7, rfl, _⟩ := Kd.R_form hr (by decide)
  obtain ⟨cc, hcl, hM, hcc, hfz⟩ := Kd.R_elem hr z55 0 (Int.le_refl 0) (by decide)
  obtain ⟨v2, v3, v4, rfl, r2, r3, r4⟩ := k55_openM hM
  obtain ⟨g2, q2, rfl, _⟩ := Kd.R_form r2 (by decide)
  obtain ⟨g3, q3, rfl, _⟩ := Kd.R_form r3 (by decide)
  obtain ⟨g4, q4, rfl, _⟩ := Kd.R_form r4 (by decide)
  have a0 : w3.cell? ⟨g2, 0, none⟩ = some (.int .i64 7) := cells_R r2 0 (by decide)
  have a1 : w3.cell? ⟨g2, 1, none⟩ = some (.int .i64 (-1)) := cells_R r2 1 (by decide)
  have a2 : w3.cell? ⟨g3, 0, none⟩ = some (.int .i64 3) := cells_R r3 0 (by decide)
  have a3 : w3.cell? ⟨g3, 1, none⟩ = some (.int .i64 0) := cells_R r3 1 (by decide)
  have c0 : w3.cell? ⟨g7, 0, none⟩ = some (.int .i64 0) := hcc 0 _ rfl
  have c1 : w3.cell? ⟨g7, 1, none⟩ = some (.int .i64 0) := hcc 1 _ rfl
  have c2 : w3.cell? ⟨g7, 2, none⟩ = some (.slice (some ⟨g2, 0, none⟩) 2 q2) := hcc 2 _ rfl
  have c3 : w3.cell? ⟨g7, 3, none⟩ = some (.slice (some ⟨g3, 0, none⟩) 2 q3) := hcc 3 _ rfl
  have c4 : w3.cell? ⟨g7, 4, none⟩ = some (.slice (some ⟨g4, 0, none⟩) 2 q4) := hcc 4 _ rfl
  have c5 : w3.cell? ⟨g7, 5, none⟩ = some (.int .i64 7) := hcc 5 _ rfl
  have K : Hid (∀ W, Below w3.heap.size w3 W → (W.cell? ⟨g2, 0, none⟩ = some (.int .i64 7) ∧ W.cell? ⟨g2, 1, none⟩ = some (.int .i64 (-1)) ∧ W.cell? ⟨g3, 0, none⟩ = some (.int .i64 3) ∧ W.cell? ⟨g3, 1, none⟩ = some (.int .i64 0)) ∧ W.cell? ⟨g7, 0, none⟩ = some (.int .i64 0) ∧ W.cell? ⟨g7, 1, none⟩ = some (.int .i64 0) ∧ W.cell? ⟨g7, 2, none⟩ = some (.slice (some ⟨g2, 0, none⟩) 2 q2) ∧ W.cell? ⟨g7, 3, none⟩ = some (.slice (some ⟨g3, 0, none⟩) 2 q3) ∧ W.cell? ⟨g7, 4, none⟩ = some (.slice (some ⟨g4, 0, none⟩) 2 q4) ∧ W.cell? ⟨g7, 5, none⟩ = some (.int .i64 7)) := Lib.hid (fun W hW => ⟨⟨pw_cell_below hW a0, pw_cell_below hW a1, pw_cell_below hW a2, pw_cell_below hW a3⟩, pw_cell_below hW c0, pw_cell_below hW c1, pw_cell_below hW c2, pw_cell_below hW c3, pw_cell_below hW c4, pw_cell_below hW c5⟩)
  clear hcl hM hcc hfz r2 r3 r4 hr hb T HBA HS1 HM1 HM2 m0 m1 m2 m3 m4 m5 a0 a1 a2 a3
  simp only [List.length_cons, List.length_nil, Nat.zero_add, Nat.reduceAdd]
  go_wp2_with fail
  obtain ⟨⟨a0, a1, a2, a3⟩, _⟩ := K.out w3 (Below.refl _ _)
  refine (enough_calls g2 q2 g3 q3 g4 q4 _ a0 a1 a2 a3).mono ?_
  rintro e w5 ⟨rfl, hb⟩
  have HB5 := Lib.hid hb
  clear hb a0 a1 a2 a3 c0 c1 c2 c3 c4 c5
  obtain ⟨⟨a0, a1, a2, a3⟩, c0, c1, c2, c3, c4, c5⟩ := K.out w5 HB5.out
  have T := Lib.hid (placeA_calls g2 q2 g3 q3 g4 q4 _ a0 a1 a2 a3)
  clear a0 a1 a2 a3
  go_wp2_with fail
  refine T.out.mono ?_
  rintro e w6 ⟨rfl, hb⟩
  have HB6 := Lib.hid (below_then HB5.out HB5.out.size hb)
  clear hb c0 c1 c2 c3 c4 c5 T
  obtain ⟨⟨a0, a1, a2, a3⟩, c0, c1, c2, c3, c4, c5⟩ := K.out w6 HB6.out
  have T := Lib.hid (placeB_calls g2 q2 g3 q3 g4 q4 _ a0 a1 a2 a3)
  clear a0 a1 a2 a3
  go_wp2_with fail
  refine T.out.mono ?_
  rintro e w7 ⟨rfl, hb⟩
  have HB7 := Lib.hid (below_then HB6.out HB6.out.size hb)
  clear hb c0 c1 c2 c3 c4 c5 T
  go_wp2_with fail
  go_ret
  exact ⟨rfl, below_then HB3.out HB3.out.size HB7.out⟩
end Go.Proofs.Ytnpphmgibgfjoaa.IvK
/- Intervals, one behind the other. -/
namespace Go.Proofs.Ytnpphmgibgfjoaa.IvP
open Go Go.RowKit Go.Proofs.YtnpphmgibgfjoaaW.PrintWords PAll AtA MpW PlA PlL PlW IvC IvA
open CrP hiding Od
structure Cov (out : List Iv) (N : Nat) : Prop where
  pos : 0 < out.length
  first : ∀ y : Iv, out[0]? = some y → y.f0 = 0
  last : ∀ y : Iv, out[out.length - 1]? = some y → y.f1 = (N : Int) - 1
  each : ∀ (i : Nat) (y : Iv), out[i]? = some y → y.f0 ≤ y.f1
  step : ∀ (i : Nat) (y z : Iv), out[i]? = some y → out[i + 1]? = some z → z.f0 = y.f1 + 1 ∧ likeB y z = false
theorem cov_one {x : Iv} (h0 : x.f0 = 0) (h1 : x.f1 = 0) : Cov [x] 1 where
  pos := Nat.zero_lt_one
  first := by rintro y hy; obtain rfl := Option.some.inj hy; exact h0
  last := by rintro y hy; obtain rfl := Option.some.inj hy; rw [h1]; rfl
  each := by
    intro i y hy
    match i, hy with
    | 0, hy => obtain rfl := Option.some.inj hy; omega
    | i + 1, hy => cases hy
  step := by
    intro i y z _ hz
    cases i <;> cases hz
theorem cov_add {out : List Iv} {N : Nat} {x : Iv} (h : Cov out N) (h0 : x.f0 = N) (h1 : x.f1 = N) : Cov (addI out x) (N + 1) := by
  obtain ⟨L, hL⟩ : ∃ L, out.length = L + 1 := ⟨out.length - 1, by have := h.pos; omega⟩
  obtain ⟨y, hy⟩ : ∃ y, out[L]? = some y := ⟨out[L]'(by omega), List.getElem?_eq_getElem (by omega)⟩
  have hyl := h.last y (by rw [hL]; exact hy)
  have hye := h.each L y hy
  cases hk : likeB y x with
  | true =>
    rw [addI_like hL hy hk]
    have hg : ∀ i, (out.set L { y with f1 := x.f0 })[i]? = if i = L then some { y with f1 := x.f0 } else out[i]? := by
      intro i
      rw [List.getElem?_set]
      by_cases e : L = i
      · subst e; rw [if_pos rfl, if_pos rfl, if_pos (by omega)]
      · rw [if_neg e, if_neg (fun h => e h.symm)]
    refine ⟨by rw [List.length_set]; exact h.pos, ?_, ?_, ?_, ?_⟩
    · intro z hz
      rw [hg] at hz
      split at hz
      · rename_i e
        obtain rfl := Option.some.inj hz
        exact h.first y (by rw [e]; exact hy)
      · exact h.first z hz
    · intro z hz
      rw [hg, List.length_set, hL, if_pos (by omega)] at hz
      obtain rfl := Option.some.inj hz
      show x.f0 = _
      rw [h0]; omega
    · intro i z hz
      rw [hg] at hz
      split at hz
      · obtain rfl := Option.some.inj hz
        show y.f0 ≤ x.f0
        rw [h0]; omega
      · exact h.each i z hz
    · intro i a b ha hb
      rw [hg] at ha hb
      have hi : i + 1 ≤ L := by
        split at hb
        · omega
        · have := (List.getElem?_eq_some_iff.1 hb).1; omega
      rw [if_neg (by omega)] at ha
      split at hb
      · rename_i e
        obtain rfl := Option.some.inj hb
        exact h.step i a y ha (by rw [e]; exact hy)
      · exact h.step i a b ha hb
  | false =>
    rw [addI_unlike hL hy hk]
    refine ⟨by rw [List.length_append, List.length_singleton]; omega, ?_, ?_, ?_, ?_⟩
    · intro z hz
      rw [List.getElem?_append_left (by omega)] at hz
      exact h.first z hz
    · intro z hz
      rw [List.length_append, List.length_singleton, Nat.add_sub_cancel, List.getElem?_append_right (Nat.le_refl _), Nat.sub_self] at hz
      obtain rfl := Option.some.inj hz
      rw [h1]; omega
    · intro i z hz
      rcases Nat.lt_or_ge i out.length with hi | hi
      · rw [List.getElem?_append_left hi] at hz
        exact h.each i z hz
      · rw [List.getElem?_append_right hi] at hz
        have h2 := (List.getElem?_eq_some_iff.1 hz).1
        rw [List.length_singleton] at h2
        have e : i - out.length = 0 := by omega
        rw [e] at hz
        obtain rfl := Option.some.inj hz
        rw [h0, h1]; exact Int.le_refl _
    · intro i a b ha hb
      rcases Nat.lt_or_ge (i + 1) out.length with hi | hi
      · rw [List.getElem?_append_left (by omega)] at ha
        rw [List.getElem?_append_left hi] at hb
        exact h.step i a b ha hb
      · rw [List.getElem?_append_right hi] at hb
        have h2 := (List.getElem?_eq_some_iff.1 hb).1
        rw [List.length_singleton] at h2
        have e : i + 1 - out.length = 0 := by omega
        rw [e] at hb
        obtain rfl := Option.some.inj hb
        have e2 : i = L := by omega
        subst e2
        rw [List.getElem?_append_left (by omega), hy] at ha
        obtain rfl := Option.some.inj ha
        exact ⟨by rw [h0]; omega, hk⟩
theorem cov_ivs {k m p d pg : Int} {n : Nat} {ms : List Mp} (h : Chain k m p d ms) : Cov (ivs pg n d ms) ms.length := by
  have key : ∀ j, j < ms.length → Cov (ivs pg n d (ms.take (j + 1))) (j + 1) := by
    intro j
    induction j with
    | zero =>
      intro hj
      have hx : ms[0]? = some ms[0] := List.getElem?_eq_getElem hj
      rw [ivs_succ hx]
      have e := (h.each 0 _ hx).1
      exact cov_one (by show ms[0].f0 = 0; rw [e]; rfl) (by show ms[0].f0 = 0; rw [e]; rfl)
    | succ j ih =>
      intro hj
      have hx : ms[j + 1]? = some ms[j + 1] := List.getElem?_eq_getElem hj
      rw [ivs_succ hx]
      have e := (h.each (j + 1) _ hx).1
      exact cov_add (ih (by omega)) e e
  have h1 := key (ms.length - 1) (by have := h.pos; omega)
  have e : ms.length - 1 + 1 = ms.length := by have := h.pos; omega
  rw [e, List.take_of_length_le (Nat.le_refl _)] at h1
  exact h1
theorem like_symm (a b : Iv) : likeB a b = (decide (b.f2 = a.f2) && (decide (b.f3 = a.f3) && decide (b.f4 = a.f4))) := by
  unfold likeB
  rw [Bool.eq_iff_iff]
  simp only [Bool.and_eq_true, decide_eq_true_eq]
  exact ⟨fun ⟨x, y, z⟩ => ⟨x.symm, y.symm, z.symm⟩, fun ⟨x, y, z⟩ => ⟨x.symm, y.symm, z.symm⟩⟩
end Go.Proofs.Ytnpphmgibgfjoaa.IvP
/- IntervalCovers: what the row asks for. -/
set_option linter.unusedSimpArgs false
namespace Go.Proofs.Ytnpphmgibgfjoaa.LCv
open Go Go.RowKit Go.Proofs.YtnpphmgibgfjoaaW.PrintWords Go.Proofs.YtnpphmgibgfjoaaW.PrintLast Go.Proofs.YtnpphmgibgfjoaaW.PrintMore Mem PAll KW MixP MixW StrP AtA Srt Grp Sl Dsc AtB Roo Cho MayP Awk UpsP UpsO ApP Fnd PlF PlU PlA Chr PlL PlN PlW PlK McW ApY ApW MpC MpW IvC IvA IvK IvP IntG
open CrP hiding Od
theorem ints_R {b1 b2 : Nat} {k1 k2 : Nat → Prop} (u v : Value) (xs ys : List Int) (w : World) (hx : kI.R 3 w b1 k1 u xs) (hy : kI.R 3 w b2 k2 v ys) :
    Calls Try.prog 17 #[u, v] w fun e w' => e = .returned (.bool (decide (xs = ys))) ∧ Below w.heap.size w w' := by
  obtain ⟨A, c, rfl, hc, hC⟩ := Kd.R_reads hx
  obtain ⟨B, c', rfl, hc', hC'⟩ := Kd.R_reads hy
  exact ints_any A B c c' xs ys w hC hc hC' hc'
theorem maps_nn {k m p d : Int} (h : mapsB k m p d = true) : ∃ n : Nat, k + m = n ∧ (decide ((0 : Int) ≤ 0) && decide (0 < p)) = true := by
  unfold mapsB poolB at h
  simp only [Bool.and_eq_true, decide_eq_true_eq] at h
  refine ⟨(k + m).toNat, by omega, ?_⟩
  simp only [Bool.and_eq_true, decide_eq_true_eq]
  omega
set_option maxHeartbeats 8000000 in
set_option maxRecDepth 100000 in
theorem covers_calls (k m p d : Int) (A : Option Addr) (c : Nat) (xs : List Chg) (w : World) (hx : kC.C w A xs.length xs) (hcap : xs.length ≤ c) :
    Calls Try.prog 7 #[.agg #[.int .i64 k, .int .i64 m, .int .i64 p, .int .i64 d], .slice A xs.length c] w fun e w' => e = .returned (.bool true) ∧ Below w.heap.size w w' := by
  have HB1 := Lib.hid (below_alloc (Below.refl w.heap.size w) (.cells #[.int .i64 k, .int .i64 m, .int .i64 p, .int .i64 d] 23))
  have HP1 : Hid ((w.alloc (.cells #[.int .i64 k, .int .i64 m, .int .i64 p, .int .i64 d] 23)).heap[w.heap.size]? = some (.cells #[.int .i64 k, .int .i64 m, .int .i64 p, .int .i64 d] 23 (0, 0))) := Lib.hid (blk_new _ _)
  have T := Lib.hid (maps_calls k m p d A c xs _ (Kd.C_alloc hx (.cells #[.int .i64 k, .int .i64 m, .int .i64 p, .int .i64 d] 23)) hcap)
  clear hx hcap
  have c0 := blk_cell HP1.out 0
  have c1 := blk_cell HP1.out 1
  have c2 := blk_cell HP1.out 2
  have c3 := blk_cell HP1.out 3
  go_enter Try.func7, Try.ntmps7
  go_wp2_with fail
  refine T.out.mono ?_
  rintro e w2 ⟨hb, ⟨_, rfl⟩ | ⟨hmb, v, ms, rfl, hr, hch, hl⟩⟩
  · have HB2 := Lib.hid (below_then HB1.out HB1.out.size hb)
    clear hb c0 c1 c2 c3 T HP1
    go_wp2_with fail
    refine (awake19_calls _).mono ?_
    rintro e w3 ⟨rfl, hb⟩
    have HB3 := Lib.hid (below_then HB2.out HB2.out.size hb)
    clear hb
    go_wp2_with fail
    go_ret
    exact ⟨rfl, HB3.out⟩
  have HB2 := Lib.hid (below_then HB1.out HB1.out.size hb)
  obtain ⟨nn, hkm, hpg⟩ := maps_nn hmb
  obtain ⟨A5, c5, rfl, hc5, hC5⟩ := Kd.R_reads hr
  have TA := Lib.hid (All_ok k m p d A5 c5 ms 0 nn w2 hC5 hch hl hkm hpg)
  have HCV0 := Lib.hid (cov_ivs (pg := 0) (n := nn) hch)
  have hp0 := hch.pos
  have HL41 := Lib.hid hl
  clear hb c0 c1 c2 c3 T HP1 hkm hpg hC5 hr hch hmb hc5
  obtain ⟨N, hN⟩ : ∃ N, N = ms.length := ⟨_, rfl⟩
  rw [← hN] at TA HCV0 hp0 HL41 hl ⊢
  clear hN
  go_wp2_with fail
  refine TA.out.mono ?_
  rintro e w3 ⟨v, rfl, hr, hl2, hb⟩
  obtain ⟨out, ho⟩ : ∃ out, out = ivs 0 nn d ms := ⟨_, rfl⟩
  rw [← ho] at hr hl2 HCV0
  have HB3 := Lib.hid (below_then HB2.out HB2.out.size hb)
  clear hb ho TA
  have HCV := HCV0
  clear HCV0
  obtain ⟨g7, c7, rfl, _⟩ := Kd.R_form hr HCV.out.pos
  have HR := Lib.hid hr
  obtain ⟨Lm, hLm⟩ : ∃ Lm, Lm = out.length := ⟨_, rfl⟩
  have HLM := Lib.hid hLm
  rw [← hLm] at HR hl2 ⊢
  have HL41b := Lib.hid hl2
  obtain ⟨L, hL⟩ : ∃ L, Lm = L + 1 := ⟨Lm - 1, by have := HCV.out.pos; omega⟩
  obtain ⟨y0, hy0⟩ : ∃ y, out[0]? = some y := ⟨out[0]'HCV.out.pos, List.getElem?_eq_getElem HCV.out.pos⟩
  obtain ⟨yL, hyL⟩ : ∃ y, out[L]? = some y := ⟨out[L]'(by omega), List.getElem?_eq_getElem (by omega)⟩
  have e0 := HCV.out.first y0 hy0
  have eL := HCV.out.last yL (by rw [← hLm, hL]; exact hyL)
  obtain ⟨cc, _, hM, hcc, _⟩ := Kd.R_elem HR.out z55 (0 : Int) (Int.le_refl 0) (by omega)
  have hg0 : out.getD (0 : Int).toNat z55 = y0 := by show out.getD 0 _ = y0; rw [List.getD_eq_getElem?_getD, hy0]; rfl
  rw [hg0] at hM
  obtain ⟨v2, v3, v4, rfl, _⟩ := k55_openM hM
  have x0 : w3.cell? ⟨g7, 0, none⟩ = some (.int .i64 0) := by rw [← e0]; exact hcc 0 _ rfl
  obtain ⟨cd, _, hM2, hcd, _⟩ := Kd.R_elem HR.out z55 (L : Int) (by omega) (by omega)
  have hgL : out.getD (L : Int).toNat z55 = yL := by rw [Int.toNat_natCast, List.getD_eq_getElem?_getD, hyL]; rfl
  rw [hgL] at hM2
  obtain ⟨u2, u3, u4, rfl, _⟩ := k55_openM hM2
  rw [Int.toNat_natCast] at hcd
  have xL : w3.cell? ⟨g7, L * 6 + 1, none⟩ = some (.int .i64 ((N : Int) - 1)) := by rw [← eL]; exact hcd 1 _ rfl
  obtain ⟨K, hK⟩ : ∃ K : Nat, N = K + 1 := ⟨N - 1, by omega⟩
  have hK2 : (N : Int) - 1 = K := by omega
  rw [hK2] at xL
  have HYB : Hid (∀ (j : Nat) (y : Iv), out[j]? = some y → 0 ≤ y.f1 + 1 ∧ y.f1 + 1 ≤ 100) := Lib.hid (by
    have hN41 := hl
    have hcv := HCV.out
    have up : ∀ (t j : Nat) (y : Iv), j + t + 1 = out.length → out[j]? = some y → y.f1 ≤ (N : Int) - 1 := by
      intro t
      induction t with
      | zero => intro j y hj hy; rw [hcv.last y (by rw [← hj]; exact hy)]; exact Int.le_refl _
      | succ t ih =>
        intro j y hj hy
        obtain ⟨q, hq⟩ : ∃ q, out[j + 1]? = some q := ⟨out[j + 1]'(by omega), List.getElem?_eq_getElem (by omega)⟩
        have h1 := ih (j + 1) q (by omega) hq
        have h2 := hcv.step j y q hy hq
        have h3 := hcv.each _ q hq
        omega
    have dn : ∀ (j : Nat) (y : Iv), out[j]? = some y → 0 ≤ y.f0 := by
      intro j
      induction j with
      | zero => intro y hy; rw [hcv.first y hy]; exact Int.le_refl _
      | succ j ih =>
        intro y hy
        have hjl := (List.getElem?_eq_some_iff.1 hy).1
        obtain ⟨q, hq⟩ : ∃ q, out[j]? = some q := ⟨out[j]'(by omega), List.getElem?_eq_getElem (by omega)⟩
        have h1 := ih q hq
        have h2 := hcv.step j q y hq hy
        have h3 := hcv.each _ q hq
        omega
    intro j y hy
    have hjl := (List.getElem?_eq_some_iff.1 hy).1
    have h1 := up (out.length - 1 - j) j y (by omega) hy
    have h2 := dn j y hy
    have h3 := hcv.each _ y hy
    omega)
  have q1 : ((Lm : Int) == 0) = false := by simp; omega
  have q2 : decide (Lm = 0) = false := decide_eq_false (by omega)
  have q3 : (0 : Int) < Lm := by omega
  have q4 : 0 < Lm := by omega
  have q5 : (Lm : Int) - 1 = L := by omega
  have q6 : IntKind.i64.wrap (L : Int) = L := by rw [Go.IntKind.wrap_i64]; omega
  have q7 : IntKind.i64.wrap (K : Int) = K := by rw [Go.IntKind.wrap_i64]; omega
  have q8 : (L : Int) < Lm := by omega
  have q9 : (0 : Int) ≤ L := by omega
  have qa : decide (L < Lm) = true := decide_eq_true (by omega)
  have hlr : Lm ≤ 41 := hl2
  have hlN : N ≤ 41 := hl
  clear hy0 hyL e0 eL hcc hcd hM hM2 hg0 hgL hK hL hLm hr hl hl2
  go_wp2_with fail
  clear x0 xL q1 q2 q5 q6 q7 q8 q9 qa hK2 hp0
  have HB0 := Lib.hid (Below.refl w3.heap.size w3)
  go_loopw [9] (fun i' wr => ∃ i : Nat, i' = .int .i64 i ∧ Hid (i ≤ Lm) ∧ Hid (Below w3.heap.size w3 wr)) (fun i' _ => (Lm - intOf i').toNat)
  case atStart => exact ⟨0, rfl, Lib.hid (Nat.zero_le _), HB0⟩
  case round =>
    obtain ⟨i, rfl, HI, HB⟩ := hrel
    clear HB0
    have hi := HI.out
    by_cases h : i < Lm
    · have hlt : decide (i < Lm) = true := decide_eq_true h
      have hltI : decide ((i : Int) < (Lm : Int)) = true := decide_eq_true (by omega)
      have i0 : (0 : Int) ≤ i := by omega
      have i1 : (i : Int) < Lm := by omega
      have i2 : i < 41 := by omega
      have i3 : (i : Int) < 41 := by omega
      have HIL := Lib.hid h
      have HRv := Lib.hid (Kd.R_below HR.out HB.out)
      obtain ⟨z, hzz⟩ : ∃ z, out[i]? = some z := ⟨out[i]'(by rw [← HLM.out]; exact h), List.getElem?_eq_getElem (by rw [← HLM.out]; exact h)⟩
      have HGZ : Hid (out.getD (i : Int).toNat z55 = z) := Lib.hid (by rw [Int.toNat_natCast, List.getD_eq_getElem?_getD, hzz]; rfl)
      obtain ⟨cz, _, hMz, hcz, _⟩ := Kd.R_elem HRv.out z55 (i : Int) i0 i1
      rw [HGZ.out] at hMz
      obtain ⟨v2, v3, v4, rfl, r2, r3, r4⟩ := k55_openM hMz
      obtain ⟨D2, r2_, rfl⟩ := Kd.R_slice r2
      obtain ⟨D3, r3_, rfl⟩ := Kd.R_slice r3
      obtain ⟨D4, r4_, rfl⟩ := Kd.R_slice r4
      rw [Int.toNat_natCast] at hcz
      obtain ⟨wv, hwv⟩ : ∃ wv, wv = wr := ⟨_, rfl⟩
      rw [← hwv] at HB HRv hcz r2 r3 r4 hMz ⊢
      clear hwv
      obtain ⟨zt, hzt⟩ : ∃ zt, zt = z.f1 := ⟨_, rfl⟩
      have g0 : wv.cell? ⟨g7, i * 6, none⟩ = some (.int .i64 z.f0) := hcz 0 _ rfl
      have g1 : wv.cell? ⟨g7, i * 6 + 1, none⟩ = some (.int .i64 zt) := by rw [hzt]; exact hcz 1 _ rfl
      have g2 : wv.cell? ⟨g7, i * 6 + 2, none⟩ = some (.slice D2 (z).f2.length r2_) := hcz 2 _ rfl
      have g3 : wv.cell? ⟨g7, i * 6 + 3, none⟩ = some (.slice D3 (z).f3.length r3_) := hcz 3 _ rfl
      have g4 : wv.cell? ⟨g7, i * 6 + 4, none⟩ = some (.slice D4 (z).f4.length r4_) := hcz 4 _ rfl
      have hle : decide (zt < z.f0) = false := by rw [hzt]; exact decide_eq_false (by have := HCV.out.each i z hzz; omega)
      have z0 := cell_regrown g0
      have z1 := cell_regrown g1
      have z2 := cell_regrown g2
      have z3 := cell_regrown g3
      have z4 := cell_regrown g4
      clear hcz hMz g0 g1 g2 g3 g4 h hi
      rcases Nat.eq_zero_or_pos i with hi0 | hi0
      · clear r2 r3 r4 hzz hzt
        have hz0 : decide (0 < i) = false := decide_eq_false (by omega)
        have hz1 : decide ((0 : Int) < (i : Int)) = false := decide_eq_false (by omega)
        clear hi0
        go_wp2_with fail
        refine wp_region_quiet_below (by kernel_rfl) (by kernel_rfl) ?_
        simp only [List.append_eq, List.cons_append, List.nil_append]
        repeat (go_big_quiet_step ((fail)))
        refine wpQuiet_nil ?_
        intro _ hw'
        obtain ⟨⟨dq, osq⟩, hw''⟩ := hw'
        subst hw''
        have HB5 := Lib.hid (below_then HB.out HB.out.size (below_regrown wv dq osq))
        obtain ⟨w5, hw5⟩ : ∃ w5, w5 = Sort.grow (redrawn wv dq) osq := ⟨_, rfl⟩
        rw [← hw5] at HB5 ⊢
        clear hw5
        go_wp2_with fail
        go_roundw
        case rel => exact ⟨i + 1, by go_num, Lib.hid (by have := HIL.out; omega), HB5⟩
        case measure => have := HIL.out; simp only [intOf]; omega
      · have hz0 : decide (0 < i) = true := decide_eq_true (by omega)
        have hz1 : decide ((0 : Int) < (i : Int)) = true := decide_eq_true (by omega)
        obtain ⟨j, hj⟩ : ∃ j, i = j + 1 := ⟨i - 1, by omega⟩
        obtain ⟨y, hy⟩ : ∃ y, out[j]? = some y := ⟨out[j]'(by have := HIL.out; have := HLM.out; omega), List.getElem?_eq_getElem (by have := HIL.out; have := HLM.out; omega)⟩
        obtain ⟨s1, s2⟩ := HCV.out.step j y z hy (by rw [← hj]; exact hzz)
        have hji : (i : Int) - 1 = j := by omega
        have hj0 : (0 : Int) ≤ j := by omega
        have hj1 : (j : Int) < Lm := by have := HIL.out; have := HLM.out; omega
        have hj2 : decide (j < Lm) = true := decide_eq_true (by have := HIL.out; have := HLM.out; omega)
        have hj3 : IntKind.i64.wrap (j : Int) = j := by have := HL41.out; have := HLM.out; have := HIL.out; rw [Go.IntKind.wrap_i64]; omega
        have HGY : Hid (out.getD (j : Int).toNat z55 = y) := Lib.hid (by rw [Int.toNat_natCast, List.getD_eq_getElem?_getD, hy]; rfl)
        obtain ⟨cy, _, hMy, hcy, _⟩ := Kd.R_elem HRv.out z55 (j : Int) hj0 hj1
        rw [HGY.out] at hMy
        obtain ⟨v2, v3, v4, rfl, p2, p3, p4⟩ := k55_openM hMy
        obtain ⟨B2, q2, rfl⟩ := Kd.R_slice p2
        obtain ⟨B3, q3, rfl⟩ := Kd.R_slice p3
        obtain ⟨B4, q4, rfl⟩ := Kd.R_slice p4
        rw [Int.toNat_natCast] at hcy
        have f1 : wv.cell? ⟨g7, j * 6 + 1, none⟩ = some (.int .i64 y.f1) := hcy 1 _ rfl
        have f2 : wv.cell? ⟨g7, j * 6 + 2, none⟩ = some (.slice B2 (y).f2.length q2) := hcy 2 _ rfl
        have f3 : wv.cell? ⟨g7, j * 6 + 3, none⟩ = some (.slice B3 (y).f3.length q3) := hcy 3 _ rfl
        have f4 : wv.cell? ⟨g7, j * 6 + 4, none⟩ = some (.slice B4 (y).f4.length q4) := hcy 4 _ rfl
        obtain ⟨b2, hb2⟩ : ∃ b2, b2 = decide (z.f2 = y.f2) := ⟨_, rfl⟩
        obtain ⟨b3, hb3⟩ : ∃ b3, b3 = decide (z.f3 = y.f3) := ⟨_, rfl⟩
        obtain ⟨b4, hb4⟩ : ∃ b4, b4 = decide (z.f4 = y.f4) := ⟨_, rfl⟩
        have HB2 := Lib.hid hb2
        have HB3 := Lib.hid hb3
        have HB4 := Lib.hid hb4
        rw [like_symm, ← hb2, ← hb3, ← hb4] at s2
        clear hb2 hb3 hb4
        have T2 : Hid (∀ dd os, Calls Try.prog 17 #[.slice D2 (z).f2.length r2_, .slice B2 (y).f2.length q2] (Sort.grow (redrawn wv dd) os) fun e w' => e = .returned (.bool b2) ∧ Below (Sort.grow (redrawn wv dd) os).heap.size (Sort.grow (redrawn wv dd) os) w') := Lib.hid (fun dd os => by rw [HB2.out]; exact ints_R _ _ _ _ _ (Kd.R_below r2 (below_regrown wv dd os)) (Kd.R_below p2 (below_regrown wv dd os)))
        have T3 : Hid (∀ dd os, Calls Try.prog 17 #[.slice D3 (z).f3.length r3_, .slice B3 (y).f3.length q3] (Sort.grow (redrawn wv dd) os) fun e w' => e = .returned (.bool b3) ∧ Below (Sort.grow (redrawn wv dd) os).heap.size (Sort.grow (redrawn wv dd) os) w') := Lib.hid (fun dd os => by rw [HB3.out]; exact ints_R _ _ _ _ _ (Kd.R_below r3 (below_regrown wv dd os)) (Kd.R_below p3 (below_regrown wv dd os)))
        have T4 : Hid (∀ dd os, Calls Try.prog 17 #[.slice D4 (z).f4.length r4_, .slice B4 (y).f4.length q4] (Sort.grow (redrawn wv dd) os) fun e w' => e = .returned (.bool b4) ∧ Below (Sort.grow (redrawn wv dd) os).heap.size (Sort.grow (redrawn wv dd) os) w') := Lib.hid (fun dd os => by rw [HB4.out]; exact ints_R _ _ _ _ _ (Kd.R_below r4 (below_regrown wv dd os)) (Kd.R_below p4 (below_regrown wv dd os)))
        have zf1 := cell_regrown f1
        have zf2 := cell_regrown f2
        have zf3 := cell_regrown f3
        have zf4 := cell_regrown f4
        rw [s1] at z0
        obtain ⟨yt, hyt⟩ : ∃ yt, yt = y.f1 := ⟨_, rfl⟩
        rw [← hyt] at zf1 z0
        have hyw : IntKind.i64.wrap (yt + 1) = yt + 1 := by have := HYB.out j y hy; rw [Go.IntKind.wrap_i64]; omega
        have hyb := HYB.out j y hy
        rw [← hyt] at hyb
        obtain ⟨hyb1, hyb2⟩ := hyb
        have hle2 : decide (zt < yt + 1) = false := by rw [hyt, ← s1, hzt]; exact decide_eq_false (by have := HCV.out.each _ _ hzz; omega)
        have HS2 := Lib.hid s2
        clear hy hcy hMy p2 p3 p4 r2 r3 r4 f1 f2 f3 f4 s1 s2 hi0 hj hyt hzz hzt hle
        go_wp2_with fail
        cases b2 with
        | false =>
          refine wp_region_quiet_below (by kernel_rfl) (by kernel_rfl) ?_
          simp only [List.append_eq, List.cons_append, List.nil_append]
          repeat (go_big_quiet_step ((first | (go_at_call 17; with_reducible exact Calls.regrown_of (T2.out _ _)) | (go_at_call 17; with_reducible exact Calls.regrown_of (T3.out _ _)) | (go_at_call 17; with_reducible exact Calls.regrown_of (T4.out _ _)))))
          refine wpQuiet_nil ?_
          intro _ hw'
          obtain ⟨⟨dq, osq⟩, hw''⟩ := hw'
          subst hw''
          have HB5 := Lib.hid (below_then HB.out HB.out.size (below_regrown wv dq osq))
          obtain ⟨w5, hw5⟩ : ∃ w5, w5 = Sort.grow (redrawn wv dq) osq := ⟨_, rfl⟩
          rw [← hw5] at HB5 ⊢
          clear hw5
          go_wp2_with fail
          go_roundw
          case rel => exact ⟨i + 1, by go_num, Lib.hid (by have := HIL.out; omega), HB5⟩
          case measure => have := HIL.out; simp only [intOf]; omega
        | true =>
          cases b3 with
          | false =>
            refine wp_region_quiet_below (by kernel_rfl) (by kernel_rfl) ?_
            simp only [List.append_eq, List.cons_append, List.nil_append]
            repeat (go_big_quiet_step ((first | (go_at_call 17; with_reducible exact Calls.regrown_of (T2.out _ _)) | (go_at_call 17; with_reducible exact Calls.regrown_of (T3.out _ _)) | (go_at_call 17; with_reducible exact Calls.regrown_of (T4.out _ _)))))
            refine wpQuiet_nil ?_
            intro _ hw'
            obtain ⟨⟨dq, osq⟩, hw''⟩ := hw'
            subst hw''
            have HB5 := Lib.hid (below_then HB.out HB.out.size (below_regrown wv dq osq))
            obtain ⟨w5, hw5⟩ : ∃ w5, w5 = Sort.grow (redrawn wv dq) osq := ⟨_, rfl⟩
            rw [← hw5] at HB5 ⊢
            clear hw5
            go_wp2_with fail
            go_roundw
            case rel => exact ⟨i + 1, by go_num, Lib.hid (by have := HIL.out; omega), HB5⟩
            case measure => have := HIL.out; simp only [intOf]; omega
          | true =>
            cases b4 with
            | false =>
              refine wp_region_quiet_below (by kernel_rfl) (by kernel_rfl) ?_
              simp only [List.append_eq, List.cons_append, List.nil_append]
              repeat (go_big_quiet_step ((first | (go_at_call 17; with_reducible exact Calls.regrown_of (T2.out _ _)) | (go_at_call 17; with_reducible exact Calls.regrown_of (T3.out _ _)) | (go_at_call 17; with_reducible exact Calls.regrown_of (T4.out _ _)))))
              refine wpQuiet_nil ?_
              intro _ hw'
              obtain ⟨⟨dq, osq⟩, hw''⟩ := hw'
              subst hw''
              have HB5 := Lib.hid (below_then HB.out HB.out.size (below_regrown wv dq osq))
              obtain ⟨w5, hw5⟩ : ∃ w5, w5 = Sort.grow (redrawn wv dq) osq := ⟨_, rfl⟩
              rw [← hw5] at HB5 ⊢
              clear hw5
              go_wp2_with fail
              go_roundw
              case rel => exact ⟨i + 1, by go_num, Lib.hid (by have := HIL.out; omega), HB5⟩
              case measure => have := HIL.out; simp only [intOf]; omega
            | true => exact absurd HS2.out (by decide)
    · obtain rfl : i = Lm := by omega
      have hlt : decide (i < i) = false := decide_eq_false (Nat.lt_irrefl _)
      have hltI : decide ((i : Int) < (i : Int)) = false := decide_eq_false (Int.lt_irrefl _)
      clear h hi
      go_wp2_with fail
      refine (awake19_calls _).mono ?_
      rintro e wa ⟨rfl, hb⟩
      have HBa := Lib.hid (below_then HB.out HB.out.size hb)
      clear hb
      go_wp2_with fail
      go_ret
      exact ⟨rfl, below_then HB3.out HB3.out.size HBa.out⟩
theorem walkCovers (cs0 : Array Value) (x0 : S23) (A1 : Option Addr) (c1 : Nat) (x1 : List Chg) (w : World) (h0 : k23.K w x0 cs0.toList) (_ : goodP x0) (l1 : x1.length ≤ c1) (h1 : kC.C w A1 x1.length x1) (_ : (∀ x ∈ x1, goodC x) ∧ x1.length * 64 ≤ reachBytes) :
    Calls Try.prog 7 #[.agg cs0, .slice A1 x1.length c1] w fun e w' => e = .returned (.bool true) ∧ Below w.heap.size w w' := by
  have e : cs0 = #[.int .i64 x0.f0, .int .i64 x0.f1, .int .i64 x0.f2, .int .i64 x0.f3] := by rw [← Array.toArray_toList (xs := cs0), k23_open h0]
  subst e
  exact covers_calls _ _ _ _ A1 c1 x1 w h1 l1
end Go.Proofs.Ytnpphmgibgfjoaa.LCv
/- Each epoch is in one interval, and two intervals one behind the other are unlike: IntervalCovers is true of every pool and every changes. -/
namespace Go.Proofs.Ytnpphmgibgfjoaa.intervalCovers
open Go.ChangeShapes Go.WideShapes Go.ChangeAt Go.RowKit Go.Proofs.Ytnpphmgibgfjoaa.Opns
open Go.ChangeMaps (open_string shut_string)
set_option linter.unusedVariables false
theorem own : ownKnob Try.prog.godebug = none := by kernel_rfl
theorem laidOut : laidOutB Try.prog = true := by kernel_rfl
set_option maxRecDepth 100000 in
theorem lifted (os : Os) (started : os.Started) (H : Type) (enc : TypeId × Value → H) :
    ReturnsInHanded {} Try.checked os 7 .any (Rows.intervalCoversSpec.pre6 enc Try.prog Try.f7 Rows.intervalCoversRow.domain false) (Rows.intervalCoversSpec.post enc Try.prog Try.f7 false true false false) := by
  refine returnsInHanded_of_change_sized (C := Try.checked) own started (by kernel_rfl) Try.func7
    (ChangeSpec.witness6 (enc := enc) (C := Try.checked) false ⟨#[], #[.agg #[.int .i64 0, .int .i64 0, .int .i64 0, .int .i64 0], .slice none 0 0], []⟩ 8 (by kernel_rfl) (by kernel_rfl) (by kernel_rfl) (by kernel_rfl)) ?_
  intro W base args ds gs before hval0 hW hcnd hsz0 _
  have hsz : (DataW.weightsEach Try.prog (Try.f7.params.toList ++ Rows.intervalCoversSpec.plain.varTypes Try.prog) (ds ++ gs)).all (· ≤ reachBytes) = true := hsz0
  have hval : ∀ (j : Nat) t v, Try.f7.params[j]? = some t → args[j]? = some v → Value.okWide Try.prog W .any base t v := hval0
  have hW' := hW
  obtain ⟨p, q, hA0, hV, rfl, hfz, hnd⟩ := hW
  have hA : DataW.TrodAll enc Try.prog W 0 (fun _ => true) true Try.f7.params.toList args.toList ds p := hA0
  rw [Try.params7] at hA hval hsz
  obtain ⟨v0, vs0, d0, ds0, p0, q0, hargs, rfl, rfl, h0, r0⟩ := trodAll_cons hA
  obtain ⟨v1, vs1, d1, ds1, p1, q1, rfl, rfl, rfl, h1, r1⟩ := trodAll_cons r0
  obtain ⟨rfl, rfl, rfl⟩ := trodAll_nil r1
  obtain rfl : args = #[v0, v1] := by cases args; simp_all
  obtain ⟨rfl, rfl⟩ := trodVars_none hV
  have m0 := weigh (j := 0) (t := 23) hsz rfl rfl
  have k0 := h0
  have lt0 : ∀ x ∈ p0, x.block < W.heap.size := by obtain ⟨m, hm⟩ := k0; exact DataW.trod_lt m _ _ _ hm
  obtain ⟨cs0, rfl⟩ := okw_struct Try.underlying23 (hval 0 23 v0 rfl rfl)
  obtain ⟨x0, c0, g0, b0⟩ := arg_agg UpsO.opens_P h0 m0
  have m1 := weigh (j := 1) (t := 47) hsz rfl rfl
  have k1 := h1
  have lt1 : ∀ x ∈ p1, x.block < W.heap.size := by obtain ⟨m, hm⟩ := k1; exact DataW.trod_lt m _ _ _ hm
  obtain ⟨A1, len1, cap1, rfl⟩ := okWide_slice Try.underlying47 (hval 1 47 v1 rfl rfl)
  obtain ⟨x1, rfl, l1, c1, g1, b1⟩ := arg_slice MpC.opens_Cs h1 m1
  clear hA0 hval0 hsz0 hsz
  refine (LCv.walkCovers cs0 x0 A1 cap1 x1 W c0 g0 l1 c1 g1).mono fun e W' ⟨he, bel⟩ => ?_
  subst he
  exact ⟨_, rfl, _, _, _, [], _, [], hW', trodAll_mk1 (shut_bool Try.underlying4 _), (trodAll_cons_mk (Below.trod laidOut (by kernel_rfl) (of_decide_eq_true (by kernel_rfl)) k0 bel lt0) (trodAll_cons_mk (Below.trod laidOut (by kernel_rfl) (of_decide_eq_true (by kernel_rfl)) k1 bel lt1) trodAll_mk0)), rfl, bel.frame _, fun h => by cases h⟩
theorem over : Rows.intervalCoversRow.holds Try.pinned (OpenSpec.ofChange Rows.intervalCoversSpec) :=
  OpenClaim.holds_of_wide 7 Try.f7 rfl rfl rfl rfl rfl rfl rfl ⟨rfl, rfl, rfl, rfl, rfl⟩ rfl rfl rfl rfl rfl (by kernel_rfl) Try.func7 (by kernel_rfl)
    (of_decide_eq_true (by kernel_rfl)) (by unfold Func.isWrapper; first | (rw [if_pos (by decide +kernel)]; kernel_rfl) | (rw [if_neg (by decide +kernel)]; exact ⟨rfl, rfl⟩))
    (fun os started H enc _ => lifted os started H enc)
theorem proved : Rows.IntervalCoversSaid := over
#print axioms proved
end Go.Proofs.Ytnpphmgibgfjoaa.intervalCovers
