import Derived.Test.YtnpphmgibgfjoaaDsc
/- atlas.Check as one contract; the functions of layer 17 that lie over it. -/
namespace Go.Proofs.Ytnpphmgibgfjoaa.AtB
open Go Go.RowKit Go.Proofs.YtnpphmgibgfjoaaW.PrintWords Go.Proofs.YtnpphmgibgfjoaaW.PrintMore Mem PAll KW MixP MixW StrP StrW AtA Srt Grp Sl Dsc
open CrP hiding Od
/-- What every OSD of a list is good for: the numbers are Go's. -/
def WfL (l : List Od) : Prop := ∀ o ∈ l, (Lit.int .i64 o.f0).wf = true ∧ (Lit.int .i64 o.f6).wf = true ∧ (Lit.int .i64 o.f7).wf = true
theorem check_calls (ep k m p d : Int) (A : Option Addr) (c : Nat) (l : List Od) (w : World) (hx : kO.C w A l.length l) (hwf : WfL l) :
    Calls Try.prog 40 #[.agg (boxM ep k m p d A c l)] w fun e w' => e = .returned (.int .i64 (if mayB ep k m p d l = true then 0 else 1)) ∧ Below w.heap.size w w' := by
  cases h0 : winB ep 1048576 with
  | false =>
    have e : mayB ep k m p d l = false := by unfold mayB; rw [h0]; rfl
    rw [e]; exact check_ep ep k m p d A c l w h0
  | true =>
    cases h1 : poolB k m p d with
    | false =>
      have e : mayB ep k m p d l = false := by unfold mayB; rw [h0, h1]; rfl
      rw [e]; exact check_pool ep k m p d A c l w h0 h1
    | true =>
      by_cases h2 : l.length ≤ 64
      · have e : mayB ep k m p d l = goodB l := by unfold mayB; rw [h0, h1, decide_eq_true h2]; rfl
        rw [e]
        refine (check_loop ep k m p d A c l w h0 h1 h2 hx (fun o ho => (hwf o ho).2.1) (fun o ho => (hwf o ho).2.2)).mono ?_
        rintro e w1 ⟨rfl, hb⟩
        exact ⟨rfl, hb⟩
      · have e : mayB ep k m p d l = false := by unfold mayB; rw [h0, h1, decide_eq_false h2]; rfl
        rw [e]; exact check_many ep k m p d A c l w h0 h1 (by omega) hx.2.1
theorem may_good {ep k m p d : Int} {l : List Od} (h : mayB ep k m p d l = true) : l.length ≤ 64 ∧ goodB l = true := by
  unfold mayB at h
  simp only [Bool.and_eq_true, decide_eq_true_eq] at h
  exact ⟨h.2.2.1, h.2.2.2⟩
theorem osd_ranges {o : Od} (h : osdB o = true) : (0 ≤ o.f0 ∧ o.f0 ≤ 999) ∧ (0 ≤ o.f6 ∧ o.f6 ≤ 999) ∧ (0 ≤ o.f7 ∧ o.f7 ≤ 999) ∧ (0 ≤ o.f3 ∧ o.f3 ≤ 16777216) := by
  unfold osdB winB at h
  simp only [Bool.and_eq_true, decide_eq_true_eq] at h
  omega
theorem may_osd {ep k m p d : Int} {l : List Od} (h : mayB ep k m p d l = true) : ∀ o ∈ l, osdB o = true := by
  intro o ho
  obtain ⟨i, hi, e⟩ := List.mem_iff_getElem.1 ho
  exact ((goodB_iff.1 (may_good h).2) i o hi (by rw [List.getElem?_eq_getElem hi, e])).1
theorem may_goodL {ep k m p d : Int} {l : List Od} (h : mayB ep k m p d l = true) : GoodL l := by
  refine ⟨(may_good h).1, fun o ho => ?_, fun o ho lv => ?_⟩
  · have := osd_ranges (may_osd h o ho)
    unfold wOf
    split <;> omega
  · have := osd_ranges (may_osd h o ho)
    unfold keyN
    split
    · exact wf_range (by omega) (by omega)
    · split <;> exact wf_range (by omega) (by omega)
def descI (ok : Bool) (x r : Int) (l : List Od) : Int := if ok = true then match desc x r l with | some o => o.f0 | none => -1 else -1
theorem Descend_calls (ep k m p d : Int) (A : Option Addr) (c : Nat) (l : List Od) (x r : Int) (w : World) (hx : kO.C w A l.length l) (hwf : WfL l) :
    Calls Try.prog 20 #[.agg (boxM ep k m p d A c l), .int .u32 x, .int .u32 r] w fun e w' => e = .returned (.int .i64 (descI (mayB ep k m p d l) x r l)) ∧ Below w.heap.size w w' := by
  have HC1 := Lib.hid (Kd.C_alloc hx (.cells (boxM ep k m p d A c l) 26))
  have HB1 := Lib.hid (below_alloc (Below.refl w.heap.size w) (.cells (boxM ep k m p d A c l) 26))
  have HM1 : Hid ((w.alloc (.cells (boxM ep k m p d A c l) 26)).heap[w.heap.size]? = some (.cells (boxM ep k m p d A c l) 26 (0, 0))) := Lib.hid (blk_new _ _)
  have T := Lib.hid (check_calls ep k m p d A c l (w.alloc (.cells (boxM ep k m p d A c l) 26)) HC1.out hwf)
  obtain ⟨mb, hmb⟩ : ∃ mb, mb = mayB ep k m p d l := ⟨_, rfl⟩
  rw [← hmb] at T ⊢
  have HGL : Hid (mb = true → GoodL l) := Lib.hid (fun h => may_goodL (hmb.symm.trans h))
  clear hx hwf hmb
  unfold boxM at *
  go_enter Try.func20, Try.ntmps20
  go_wp2_with fail
  refine T.out.mono ?_
  rintro e w1 ⟨rfl, hb⟩
  have HC2 := Lib.hid (Kd.C_below HC1.out hb)
  have HB2 := Lib.hid (below_then HB1.out HB1.out.size hb)
  have HM2 := Lib.hid (blk_below HM1.out hb)
  clear hb T HC1 HB1 HM1
  cases mb with
  | false =>
    go_wp2_with fail
    go_ret
    exact ⟨rfl, HB2.out⟩
  | true =>
    have c5 := blk_cell HM2.out 5
    have T := Lib.hid (descend_calls A c l x r w1 HC2.out (HGL.out rfl))
    have HDD : Hid (descI true x r l = match desc x r l with | some o => o.f0 | none => -1) := Lib.hid rfl
    go_wp2_with fail
    refine T.out.mono ?_
    rintro e w2 ⟨rfl, hb⟩
    have HB3 := Lib.hid (below_then HB2.out HB2.out.size hb)
    clear hb T
    cases hd : desc x r l with
    | none =>
      rw [hd] at HDD
      unfold descV zeroA
      clear hd
      have HB4 := Lib.hid (below_alloc HB3.out (.cells #[.int .i64 0, .bool false, .bool false, .int .i64 0, .int .i64 0, .int .i64 0, .int .i64 0, .int .i64 0] 40))
      go_wp2_with fail
      go_ret
      exact ⟨by rw [HDD.out]; rfl, HB4.out⟩
    | some o =>
      rw [hd] at HDD
      unfold descV
      clear hd
      have HB4 := Lib.hid (below_alloc HB3.out (.cells (aggO o) 40))
      go_wp2_with fail
      go_ret
      exact ⟨by rw [HDD.out]; rfl, HB4.out⟩
end Go.Proofs.Ytnpphmgibgfjoaa.AtB
