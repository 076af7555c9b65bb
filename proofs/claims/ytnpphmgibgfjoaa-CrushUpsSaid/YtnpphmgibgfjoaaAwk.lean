import Derived.Test.YtnpphmgibgfjoaaMayP
/- crush.Choose of every rule; the only OSD is found. -/
namespace Go.Proofs.Ytnpphmgibgfjoaa.Awk
open Go Go.RowKit Go.Proofs.YtnpphmgibgfjoaaW.PrintWords Go.Proofs.YtnpphmgibgfjoaaW.PrintMore Mem PAll KW MixP MixW StrP StrW AtA Srt Grp Sl Dsc AtB Roo Rep Cho MayP
open CrP hiding Od
def choB (ok : Bool) (dm want : Int) : Bool := ok && (domB dm && (decide (1 ≤ want) && decide (want ≤ 32)))
set_option maxHeartbeats 8000000 in
set_option maxRecDepth 100000 in
theorem Choose_bad (ep k m p d : Int) (A : Option Addr) (c : Nat) (l : List Od) (dm want x : Int) (w : World) (hx : kO.C w A l.length l) (hwf : WfL l) (hn : choB (mayB ep k m p d l) dm want = false) :
    Calls Try.prog 15 #[.agg (boxM ep k m p d A c l), .agg #[.int .i64 dm, .int .i64 want], .int .u32 x] w fun e w' => e = .returned (.tuple #[.slice none 0 0, .int .i64 1]) ∧ Below w.heap.size w w' := by
  have HBA := Lib.hid (below_alloc (below_alloc (Below.refl w.heap.size w) (.cells (boxM ep k m p d A c l) 26)) (.cells #[.int .i64 dm, .int .i64 want] 28))
  have HC1 := Lib.hid (Kd.C_alloc (Kd.C_alloc hx (.cells (boxM ep k m p d A c l) 26)) (.cells #[.int .i64 dm, .int .i64 want] 28))
  have HU1 : Hid (((w.alloc (.cells (boxM ep k m p d A c l) 26)).alloc (.cells #[.int .i64 dm, .int .i64 want] 28)).heap[w.heap.size + 1]? = some (.cells #[.int .i64 dm, .int .i64 want] 28 (0, 0))) := Lib.hid (by have h := blk_new (w.alloc (.cells (boxM ep k m p d A c l) 26)) (.cells #[.int .i64 dm, .int .i64 want] 28); simp only [World.alloc, Array.size_push] at h ⊢; exact h)
  have T := Lib.hid (fun c0 w0 h0 => check_calls ep k m p d A c0 l w0 h0 hwf)
  have TO := Lib.hid (of_calls dm)
  unfold choB at hn
  obtain ⟨mb, hmb⟩ : ∃ mb, mb = mayB ep k m p d l := ⟨_, rfl⟩
  obtain ⟨db, hdb⟩ : ∃ db, db = domB dm := ⟨_, rfl⟩
  obtain ⟨kf, hkf⟩ : ∃ kf, kf = fnL (domL dm) := ⟨_, rfl⟩
  rw [← hmb, ← hdb] at hn
  have HMB := Lib.hid hmb.symm
  have HN := Lib.hid hn
  have HOF : Hid (ofV dm = if db = true then .func (.func kf) #[] #[] else .nilFunc) := Lib.hid (by unfold ofV; rw [← hdb, hkf])
  have hq1 := eql_func_nil
  have hq2 := eql_nil_nil
  clear hx hwf hn hmb hdb hkf
  unfold boxM at *
  cases mb with
  | false =>
    cases db with
    | false =>
      go_enter Try.func15, Try.ntmps15
      go_wp2_with fail
      refine (TO.out _).mono ?_
      rintro e w0 ⟨rfl, rfl⟩
      rw [HOF.out, if_neg Bool.false_ne_true]
      go_wp2_with fail
      refine (T.out c _ HC1.out).mono ?_
      rintro e w1 ⟨rfl, hb⟩
      rw [HMB.out]
      have HB2 := Lib.hid (below_then HBA.out HBA.out.size hb)
      clear hb
      go_wp2_with fail
      go_ret2
      exact ⟨rfl, HB2.out⟩
    | true =>
      go_enter Try.func15, Try.ntmps15
      go_wp2_with fail
      refine (TO.out _).mono ?_
      rintro e w0 ⟨rfl, rfl⟩
      rw [HOF.out, if_pos trivial]
      go_wp2_with fail
      refine (T.out c _ HC1.out).mono ?_
      rintro e w1 ⟨rfl, hb⟩
      rw [HMB.out]
      have HB2 := Lib.hid (below_then HBA.out HBA.out.size hb)
      clear hb
      go_wp2_with fail
      go_ret2
      exact ⟨rfl, HB2.out⟩
  | true =>
    cases db with
    | false =>
      go_enter Try.func15, Try.ntmps15
      go_wp2_with fail
      refine (TO.out _).mono ?_
      rintro e w0 ⟨rfl, rfl⟩
      rw [HOF.out, if_neg Bool.false_ne_true]
      go_wp2_with fail
      refine (T.out c _ HC1.out).mono ?_
      rintro e w1 ⟨rfl, hb⟩
      rw [HMB.out]
      have HB2 := Lib.hid (below_then HBA.out HBA.out.size hb)
      clear hb
      go_wp2_with fail
      go_ret2
      exact ⟨rfl, HB2.out⟩
    | true =>
      by_cases h1 : want < 1
      · have b1 : decide (want < 1) = true := decide_eq_true h1
        clear h1
        go_enter Try.func15, Try.ntmps15
        go_wp2_with fail
        refine (TO.out _).mono ?_
        rintro e w0 ⟨rfl, rfl⟩
        rw [HOF.out, if_pos trivial]
        go_wp2_with fail
        refine (T.out c _ HC1.out).mono ?_
        rintro e w1 ⟨rfl, hb⟩
        rw [HMB.out]
        have HB2 := Lib.hid (below_then HBA.out HBA.out.size hb)
        have u1 := blk_cell (blk_below HU1.out hb) 1
        clear hb
        go_wp2_with fail
        go_ret2
        exact ⟨rfl, HB2.out⟩
      · have b1 : decide (want < 1) = false := decide_eq_false h1
        have h2 : 32 < want := by
          have e := HN.out
          rw [decide_eq_true (show 1 ≤ want by omega)] at e
          have : ¬ want ≤ 32 := by
            intro h
            rw [decide_eq_true h] at e
            cases e
          omega
        have b2 : decide (32 < want) = true := decide_eq_true h2
        clear h1 h2
        go_enter Try.func15, Try.ntmps15
        go_wp2_with fail
        refine (TO.out _).mono ?_
        rintro e w0 ⟨rfl, rfl⟩
        rw [HOF.out, if_pos trivial]
        go_wp2_with fail
        refine (T.out c _ HC1.out).mono ?_
        rintro e w1 ⟨rfl, hb⟩
        rw [HMB.out]
        have HB2 := Lib.hid (below_then HBA.out HBA.out.size hb)
        have u1 := blk_cell (blk_below HU1.out hb) 1
        clear hb
        go_wp2_with fail
        go_ret2
        exact ⟨rfl, HB2.out⟩
/-! ### the only OSD is found -/
def seven : Od := ⟨7, false, true, 5, 0, 0, 0, 0⟩
theorem seven_places : places [seven] 3 2 3 2 0 [] = [7, -1] := by decide +kernel
theorem seven_room : room 1 [seven] = 1 := by decide +kernel
theorem seven_may : mayB 0 1 1 1 0 [seven] = true := by
  have hg : AtA.Good [seven] [seven].length := fun i o hi ho => by
    obtain rfl : i = 0 := by simp at hi; omega
    obtain rfl : seven = o := by simpa using ho
    exact ⟨by decide, fun j _ hj => absurd hj (Nat.not_lt_zero _)⟩
  unfold mayB
  rw [goodB_yes hg]
  decide
theorem seven_C {w : World} {g : Nat} (h : w.heap[g]? = some (.cells (aggO seven) 40 (0, 0))) : kO.C w (some ⟨g, 0, none⟩) [seven].length [seven] := by
  refine ⟨rfl, by decide, fun _ => ⟨_, rfl, fun j p hj => ?_⟩⟩
  match j, hj with
  | 0, hj =>
    obtain rfl := Option.some.inj hj
    refine ⟨_, rfl, k40_mkM w 0 (fun _ => True) _, fun i u hu => ?_⟩
    rw [add_plain, blk_cell h]
    match i, hu with
    | 0, hu => exact hu
    | 1, hu => exact hu
    | 2, hu => exact hu
    | 3, hu => exact hu
    | 4, hu => exact hu
    | 5, hu => exact hu
    | 6, hu => exact hu
    | 7, hu => exact hu
    | i + 8, hu => cases hu
  | j + 1, hj => cases hj
theorem seven_wf : WfL [seven] := fun o ho => by
  obtain rfl := List.mem_singleton.1 ho
  decide
set_option maxHeartbeats 4000000 in
set_option maxRecDepth 100000 in
theorem awake_calls (w : World) : Calls Try.prog 14 #[] w fun e w' => e = .returned (.bool true) ∧ Below w.heap.size w w' := by
  have HBA := Lib.hid (below_alloc (below_alloc (Below.refl w.heap.size w) (.cells (aggO seven) 40)) (.cells #[.int .i64 0, .int .i64 1, .int .i64 1, .int .i64 1, .int .i64 0, .slice (some ⟨w.heap.size, 0, none⟩) 1 1] 26))
  have HS1 : Hid (((w.alloc (.cells (aggO seven) 40)).alloc (.cells #[.int .i64 0, .int .i64 1, .int .i64 1, .int .i64 1, .int .i64 0, .slice (some ⟨w.heap.size, 0, none⟩) 1 1] 26)).heap[w.heap.size]? = some (.cells (aggO seven) 40 (0, 0))) := Lib.hid (blk_below (blk_new _ _) (below_alloc (Below.refl _ _) _))
  have HM1 : Hid (((w.alloc (.cells (aggO seven) 40)).alloc (.cells #[.int .i64 0, .int .i64 1, .int .i64 1, .int .i64 1, .int .i64 0, .slice (some ⟨w.heap.size, 0, none⟩) 1 1] 26)).heap[w.heap.size + 1]? = some (.cells #[.int .i64 0, .int .i64 1, .int .i64 1, .int .i64 1, .int .i64 0, .slice (some ⟨w.heap.size, 0, none⟩) 1 1] 26 (0, 0))) := Lib.hid (by have h := blk_new (w.alloc (.cells (aggO seven) 40)) (.cells #[.int .i64 0, .int .i64 1, .int .i64 1, .int .i64 1, .int .i64 0, .slice (some ⟨w.heap.size, 0, none⟩) 1 1] 26); simp only [World.alloc, Array.size_push] at h ⊢; exact h)
  have T := Lib.hid (Choose_ok 0 1 1 1 0 (some ⟨w.heap.size, 0, none⟩) 1 [seven] 0 3 2 _ (seven_C HS1.out) seven_wf seven_may (by decide) (by decide) (by decide))
  have T2 := Lib.hid (fun w1 h => Room_calls 0 1 1 1 0 (some ⟨w.heap.size, 0, none⟩) 1 [seven] 2 w1 (seven_C h) seven_wf)
  have HR : Hid (roomI (mayB 0 1 1 1 0 [seven]) 2 [seven] = 1) := Lib.hid (by rw [seven_may]; decide +kernel)
  have HP : Hid (places [seven] 3 (2 : Nat) (domL 0) 2 0 [] = [7, -1]) := Lib.hid seven_places
  unfold boxM at *
  go_enter Try.func14, Try.ntmps14
  go_wp2_with fail
  refine T.out.mono ?_
  rintro e w1 ⟨g, rfl, _, hg, hb⟩
  rw [HP.out] at hg
  have HB2 := Lib.hid (below_then HBA.out HBA.out.size hb)
  have HM2 := Lib.hid (blk_below HM1.out hb)
  have HS2 := Lib.hid (blk_below HS1.out hb)
  have g0 : w1.cell? ⟨g, 0, none⟩ = some (.int .i64 7) := blk_cell hg 0
  have g1 : w1.cell? ⟨g, 1, none⟩ = some (.int .i64 (-1)) := blk_cell hg 1
  have m0 := blk_cell HM2.out 0
  have m1 := blk_cell HM2.out 1
  have m2 := blk_cell HM2.out 2
  have m3 := blk_cell HM2.out 3
  have m4 := blk_cell HM2.out 4
  have m5 := blk_cell HM2.out 5
  clear hg hb
  go_wp2_with fail
  refine (T2.out _ HS2.out).mono ?_
  rintro e w2 ⟨rfl, hb⟩
  rw [HR.out]
  have HB3 := Lib.hid (below_then HB2.out HB2.out.size hb)
  clear hb
  go_wp2_with fail
  go_ret
  exact ⟨rfl, HB3.out⟩
theorem Choose_calls (ep k m p d : Int) (A : Option Addr) (c : Nat) (l : List Od) (dm want x : Int) (w : World) (hx : kO.C w A l.length l) (hwf : WfL l) :
    Calls Try.prog 15 #[.agg (boxM ep k m p d A c l), .agg #[.int .i64 dm, .int .i64 want], .int .u32 x] w fun e w' => ((choB (mayB ep k m p d l) dm want = true ∧ ∃ n g : Nat, want = n ∧ 1 ≤ n ∧ n ≤ 32 ∧ w.heap.size ≤ g ∧ e = .returned (.tuple #[.slice (some ⟨g, 0, none⟩) n n, .int .i64 0]) ∧ w'.heap[g]? = some (.cells (outA n (places l x n (domL dm) n 0 [])) 3 (0, 0))) ∨ (choB (mayB ep k m p d l) dm want = false ∧ e = .returned (.tuple #[.slice none 0 0, .int .i64 1]))) ∧ Below w.heap.size w w' := by
  cases h : choB (mayB ep k m p d l) dm want with
  | false =>
    refine (Choose_bad ep k m p d A c l dm want x w hx hwf h).mono ?_
    rintro e w1 ⟨rfl, hb⟩
    exact ⟨.inr ⟨rfl, rfl⟩, hb⟩
  | true =>
    unfold choB at h
    simp only [Bool.and_eq_true, decide_eq_true_eq] at h
    obtain ⟨n, hn⟩ := Int.eq_ofNat_of_zero_le (show 0 ≤ want by omega)
    subst hn
    refine (Choose_ok ep k m p d A c l dm x n w hx hwf h.1 h.2.1 (by omega) (by omega)).mono ?_
    rintro e w1 ⟨g, rfl, hg, hh, hb⟩
    exact ⟨.inl ⟨rfl, n, g, rfl, by omega, by omega, hg, rfl, hh⟩, hb⟩
theorem light_calls (ep k m p d : Int) (A : Option Addr) (c : Nat) (l : List Od) (dm want : Int) (w : World) (hx : kO.C w A l.length l) :
    Calls Try.prog 13 #[.agg (boxM ep k m p d A c l), .agg #[.int .i64 dm, .int .i64 want]] w fun e w' => e = .returned (.bool (decide (l.length ≤ 24) && decide (want ≤ 12))) ∧ Below w.heap.size w w' := by
  have HBA := Lib.hid (below_alloc (below_alloc (Below.refl w.heap.size w) (.cells (boxM ep k m p d A c l) 26)) (.cells #[.int .i64 dm, .int .i64 want] 28))
  have hm : l.length ≤ 9223372036854775807 := hx.2.1
  unfold boxM at *
  by_cases h : l.length ≤ 24
  · have hd : decide (l.length ≤ 24) = true := decide_eq_true h
    have hd2 : decide ((l.length : Int) ≤ 24) = true := decide_eq_true (by omega)
    rw [hd]
    clear h hx
    go_enter Try.func13, Try.ntmps13
    go_wp2_with fail
    go_ret
    exact ⟨rfl, HBA.out⟩
  · have hd : decide (l.length ≤ 24) = false := decide_eq_false h
    have hd2 : decide ((l.length : Int) ≤ 24) = false := decide_eq_false (by omega)
    rw [hd]
    clear h hx
    go_enter Try.func13, Try.ntmps13
    go_wp2_with fail
    go_ret
    exact ⟨rfl, HBA.out⟩
end Go.Proofs.Ytnpphmgibgfjoaa.Awk
