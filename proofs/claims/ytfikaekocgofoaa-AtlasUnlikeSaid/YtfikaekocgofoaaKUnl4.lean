import Derived.Test.YtfikaekocgofoaaKUnl3
import Derived.Laws.BytesArg
import Derived.Lib.Bytes
import Derived.Test.YtfikaekocgofoaaRows
import Derived.WalkKit
import Derived.ProofKit
import Derived.OpenShut
import Derived.ShutString
import Derived.ChangeOld
import Derived.Below
import Derived.SizedLaws
import Derived.JoinedCond
import Derived.Deep.CondSized
/- Merged texts, one behind the other: AtR, AtS, AtF, AtW, AtE, EnP, Enc, LaA, AtO, LuA, LuO, RowAtlasUnlike. -/
/- The map behind a change: whatever the change. -/
set_option linter.unusedSimpArgs false
namespace Go.Proofs.Ytfikaekocgofoaa.AtR
open Go Go.RowKit Go.Proofs.YtfikaekocgofoaaW.PrintWords Go.Proofs.YtfikaekocgofoaaW.PrintLast Go.Proofs.YtfikaekocgofoaaW.PrintMore Mem PAll KW AtA AtB Sl Dsc MayP ApP Fnd PlF Roo Awk McW ApY ApZ ApW AtK AtV AtX AtD AtC AtP Ins AtQ
open CrP hiding Od
set_option maxHeartbeats 8000000 in
set_option maxRecDepth 100000 in
theorem aapply_add (ep k m p d : Int) (A : Option Addr) (c : Nat) (l : List Od) (o : Od) (w : World) (hx : kO.C w A l.length l) (hwf : WfL l) (hmay : mayB ep k m p d l = true) (hmc : osdB o = true) (hep : (ep == 1048576) = false) (he0 : 0 ≤ ep) (he1 : ep ≤ 1048576) :
    Calls Try.prog 13 #[.agg (boxM ep k m p d A c l), .agg (chA 1 o)] w fun e w' => ∃ (er : Int) (l' : List Od), applyR ep k m p d l 1 o = (er, l') ∧ Below w.heap.size w w' ∧ ((er ≠ 0 ∧ e = .returned (.tuple #[.agg zM, .int .i64 er])) ∨ (er = 0 ∧ ∃ (A' : Option Addr) (c' : Nat), e = .returned (.tuple #[.agg (boxM (ep + 1) k m p d A' c' l'), .int .i64 0]) ∧ kO.R 37 w' w.heap.size (fun _ => True) (.slice A' l'.length c') l')) := by
  have hn := hmc
  have he2' : ep < 1048576 := by have : ep ≠ 1048576 := by simpa using hep
                                 omega
  have hs1 : (w.alloc (.cells (boxM ep k m p d A c l) 28)).heap.size = w.heap.size + 1 := by simp only [World.alloc, Array.size_push]
  have hs2 : ((w.alloc (.cells (boxM ep k m p d A c l) 28)).alloc (.cells (chA 1 o) 39)).heap.size = w.heap.size + 2 := by simp only [World.alloc, Array.size_push]
  have hs3 : (((w.alloc (.cells (boxM ep k m p d A c l) 28)).alloc (.cells (chA 1 o) 39)).alloc (.cells zM 28)).heap.size = w.heap.size + 3 := by simp only [World.alloc, Array.size_push]
  have HM1 : Hid ((((w.alloc (.cells (boxM ep k m p d A c l) 28)).alloc (.cells (chA 1 o) 39)).alloc (.cells zM 28)).heap[w.heap.size]? = some (.cells (boxM ep k m p d A c l) 28 (0, 0))) := Lib.hid (blk_below (blk_new _ _) (below_alloc (below_alloc (Below.refl _ _) _) _))
  have HG1 : Hid ((((w.alloc (.cells (boxM ep k m p d A c l) 28)).alloc (.cells (chA 1 o) 39)).alloc (.cells zM 28)).heap[w.heap.size + 1]? = some (.cells (chA 1 o) 39 (0, 0))) := Lib.hid (by
    have h := blk_new (w.alloc (.cells (boxM ep k m p d A c l) 28)) (.cells (chA 1 o) 39)
    rw [hs1] at h
    exact blk_below h (below_alloc (Below.refl _ _) _))
  have HR1 : Hid ((((w.alloc (.cells (boxM ep k m p d A c l) 28)).alloc (.cells (chA 1 o) 39)).alloc (.cells zM 28)).heap[w.heap.size + 2]? = some (.cells zM 28 (0, 0))) := Lib.hid (by
    have h := blk_new ((w.alloc (.cells (boxM ep k m p d A c l) 28)).alloc (.cells (chA 1 o) 39)) (.cells zM 28)
    rw [hs2] at h
    exact h)
  have HB1 := Lib.hid (below_alloc (below_alloc (below_alloc (Below.refl w.heap.size w) (.cells (boxM ep k m p d A c l) 28)) (.cells (chA 1 o) 39)) (.cells zM 28))
  have HC1 := Lib.hid (Kd.C_below hx HB1.out)
  obtain ⟨w1, hw1⟩ : ∃ w1, w1 = (((w.alloc (.cells (boxM ep k m p d A c l) 28)).alloc (.cells (chA 1 o) 39)).alloc (.cells zM 28)) := ⟨_, rfl⟩
  have HWN := Lib.hid hw1
  rw [← hw1] at HM1 HG1 HR1 HB1 HC1 hs3
  have HSZ := Lib.hid hs3
  have TM := Lib.hid (check_calls ep k m p d A c l w1 HC1.out hwf)
  obtain ⟨mb, hmb⟩ : ∃ mb, mb = mayB ep k m p d l := ⟨_, rfl⟩
  obtain ⟨cb, hcb⟩ : ∃ cb, cb = mayC 1 o := ⟨_, rfl⟩
  rw [← hmb] at TM
  have TC := Lib.hid (fun w1 => checkc_calls 1 o w1)
  rw [← hcb] at TC
  have HN := Lib.hid hn
  obtain rfl : mb = true := by rw [hmb]; exact hmay
  obtain rfl : cb = true := by rw [hcb]; exact hmc
  have he : (ep == 1048576) = false := hep
  have he2 : decide (ep = 1048576) = false := by simpa using hep
  have TAD := Lib.hid (fun W hW => add_calls ep k m p d A c l o W hW hwf hmay hmc he0 he2')
  clear hx hwf hn hmb hcb hw1 hs1 hs2 hs3 hmay hmc hep he0 he1 he2'
  unfold boxM chA at *
  go_enter Try.func13, Try.ntmps13
  go_wp2_with fail
  rw [← HWN.out]
  refine TM.out.mono ?_
  rintro e w2 ⟨rfl, hb⟩
  have HS1 : Hid (w.heap.size + 3 ≤ w1.heap.size) := Lib.hid (by have := HSZ.out; omega)
  have HB2 := Lib.hid (below_then HB1.out HB1.out.size hb)
  have HM2 := Lib.hid (blk_below HM1.out hb)
  have HG2 := Lib.hid (blk_below HG1.out hb)
  have HR2 := Lib.hid (blk_below HR1.out hb)
  have HC2 := Lib.hid (Kd.C_below HC1.out hb)
  have HS2 : Hid (w.heap.size + 3 ≤ w2.heap.size) := Lib.hid (Nat.le_trans HS1.out hb.size)
  clear hb HB1 HM1 HG1 HR1 HC1 HS1
  clear TM HWN HSZ
  simp only [if_true, if_false, Bool.false_eq_true]
  have c0 := blk_cell HG2.out 0
  have c1 := blk_cell HG2.out 1
  have c2 := blk_cell HG2.out 2
  have c3 := blk_cell HG2.out 3
  have c4 := blk_cell HG2.out 4
  have c5 := blk_cell HG2.out 5
  have c6 := blk_cell HG2.out 6
  have c7 := blk_cell HG2.out 7
  have c8 := blk_cell HG2.out 8
  go_wp2_with fail
  refine (TC.out _).mono ?_
  rintro e w3 ⟨rfl, hb⟩
  have HB3 := Lib.hid (below_then HB2.out HB2.out.size hb)
  have HM3 := Lib.hid (blk_below HM2.out hb)
  have HG3 := Lib.hid (blk_below HG2.out hb)
  have HR3 := Lib.hid (blk_below HR2.out hb)
  have HC3 := Lib.hid (Kd.C_below HC2.out hb)
  have HS3 : Hid (w.heap.size + 3 ≤ w3.heap.size) := Lib.hid (Nat.le_trans HS2.out hb.size)
  clear hb HB2 HM2 HG2 HR2 HC2 HS2
  clear TC c0 c1 c2 c3 c4 c5 c6 c7 c8
  simp only [if_true, if_false, Bool.false_eq_true]
  have m0 := blk_cell HM3.out 0
  have m1 := blk_cell HM3.out 1
  have m2 := blk_cell HM3.out 2
  have m3 := blk_cell HM3.out 3
  have m4 := blk_cell HM3.out 4
  have m5 := blk_cell HM3.out 5
  have c0 := blk_cell HG3.out 0
  have c1 := blk_cell HG3.out 1
  have c2 := blk_cell HG3.out 2
  have c3 := blk_cell HG3.out 3
  have c4 := blk_cell HG3.out 4
  have c5 := blk_cell HG3.out 5
  have c6 := blk_cell HG3.out 6
  have c7 := blk_cell HG3.out 7
  have c8 := blk_cell HG3.out 8
  go_wp2_with fail
  refine (TAD.out _ HC3.out).mono ?_
  rintro e w4 ⟨er, l', hap, hb, ⟨hne, rfl⟩ | ⟨rfl, A7, cp7, rfl, hr⟩⟩
  · have HAP := Lib.hid hap
    have HNE := Lib.hid hne
    clear hap hne
    have HB4 := Lib.hid (below_then HB3.out HB3.out.size hb)
    have HM4 := Lib.hid (blk_below HM3.out hb)
    have HG4 := Lib.hid (blk_below HG3.out hb)
    have HR4 := Lib.hid (blk_below HR3.out hb)
    have HC4 := Lib.hid (Kd.C_below HC3.out hb)
    have HS4 : Hid (w.heap.size + 3 ≤ w4.heap.size) := Lib.hid (Nat.le_trans HS3.out hb.size)
    clear hb HB3 HM3 HG3 HR3 HC3 HS3
    clear TAD m0 m1 m2 m3 m4 m5 c0 c1 c2 c3 c4 c5 c6 c7 c8
    unfold zM
    go_wp2_with (first | (refine gate_ (.store 28 (.tmp 4) (.tmp 29)) rfl ?_; go_must (refine Stb.store_list rfl rfl 28 (.tmp 4) (.tmp 29) rfl (cur' := zM) [.int .i64 0, .int .i64 0, .int .i64 0, .int .i64 0, .int .i64 0, .slice none 0 0] (by exact HR4.out) (by rfl) (by rfl) (by rfl) (by kernel_rfl) (Nat.le_of_ble_eq_true rfl) (by rfl) (by rfl) ?_; intro wf hz_ hg_ hs_; have HF := Lib.hid hz_; have HBF := Lib.hid (Stb.below_grown1 HB4.out hg_ (Nat.le_add_right _ 2) HB4.out.size); clear hz_ hg_ hs_)))
    refine bodyPost_ret (results_ct rfl _ _ (w.heap.size + 2) 28 zM (0, 0) _ rfl HF.out Try.underlying28 rfl (by kernel_rfl)) rfl ?_
    exact ⟨er, l', HAP.out, HBF.out, .inl ⟨HNE.out, rfl⟩⟩
  · have HAP := Lib.hid hap
    have HO4 := Lib.hid (Kd.R_lower (Kd.R_mono (Kd.R_bound hr) (fun k hk => (by have := HS3.out; omega : k ≠ w.heap.size + 2))) HB3.out.size)
    clear hap hr
    have HB4 := Lib.hid (below_then HB3.out HB3.out.size hb)
    have HM4 := Lib.hid (blk_below HM3.out hb)
    have HG4 := Lib.hid (blk_below HG3.out hb)
    have HR4 := Lib.hid (blk_below HR3.out hb)
    have HC4 := Lib.hid (Kd.C_below HC3.out hb)
    have HS4 : Hid (w.heap.size + 3 ≤ w4.heap.size) := Lib.hid (Nat.le_trans HS3.out hb.size)
    clear hb HB3 HM3 HG3 HR3 HC3 HS3
    clear TAD m0 m1 m2 m3 m4 m5 c0 c1 c2 c3 c4 c5 c6 c8
    go_wp2_with (first | (refine gate_ (.store 28 (.tmp 4) (.tmp 29)) rfl ?_; go_must (refine Stb.store_list rfl rfl 28 (.tmp 4) (.tmp 29) rfl (cur' := #[.int .i64 (ep + 1), .int .i64 k, .int .i64 m, .int .i64 p, .int .i64 d, .slice A7 l'.length cp7]) [.int .i64 (ep + 1), .int .i64 k, .int .i64 m, .int .i64 p, .int .i64 d, .slice A7 l'.length cp7] (by exact HR4.out) (by rfl) (by rfl) (by rfl) (by kernel_rfl) (Nat.le_of_ble_eq_true rfl) (by rfl) (by rfl) ?_; intro wf hz_ hg_ hs_; have HF := Lib.hid hz_; have HBF := Lib.hid (Stb.below_grown1 HB4.out hg_ (Nat.le_add_right _ 2) HB4.out.size); have HWF := Lib.hid (Kd.R_grown HO4.out hg_ (fun k hk e => hk (Option.some.inj e))); clear hz_ hg_ hs_)))
    refine bodyPost_ret (results_ct rfl _ _ (w.heap.size + 2) 28 #[.int .i64 (ep + 1), .int .i64 k, .int .i64 m, .int .i64 p, .int .i64 d, .slice A7 l'.length cp7] (0, 0) _ rfl HF.out Try.underlying28 rfl (by kernel_rfl)) rfl ?_
    exact ⟨0, l', HAP.out, HBF.out, .inr ⟨rfl, A7, cp7, rfl, Kd.R_mono HWF.out (fun _ _ => trivial)⟩⟩
/-- What a change comes to, whoever reckons it. -/
def Ans (ep k m p d : Int) (l : List Od) (kd : Int) (o : Od) (er : Int) (l' : List Od) : Prop :=
  ((mayB ep k m p d l && (mayC kd o && !(ep == 1048576))) = false ∧ er = 1) ∨
  ((mayB ep k m p d l && (mayC kd o && !(ep == 1048576))) = true ∧ kd = 1 ∧ applyR ep k m p d l 1 o = (er, l')) ∨
  ((mayB ep k m p d l && (mayC kd o && !(ep == 1048576))) = true ∧ knownB kd = true ∧ ((findO l o.f0 = none ∧ er = 4) ∨ ∃ (j : Nat) (q : Od), l[j]? = some q ∧ findO l o.f0 = some q ∧ ((eqO (chg kd q o) q = true ∧ er = 6) ∨ (eqO (chg kd q o) q = false ∧ er = 0 ∧ l' = l.set j (chg kd q o)))))
theorem known_or {kd : Int} {o : Od} (h : mayC kd o = true) : kd = 1 ∨ knownB kd = true := by
  cases hk : knownB kd with
  | true => exact .inr rfl
  | false =>
    rw [mayC_no o hk] at h
    simp only [Bool.and_eq_true, decide_eq_true_eq] at h
    exact .inl h.1
theorem may_ep01 {ep k m p d : Int} {l : List Od} (h : mayB ep k m p d l = true) : 0 ≤ ep ∧ ep ≤ 1048576 := by
  unfold mayB winB at h
  simp only [Bool.and_eq_true, decide_eq_true_eq] at h
  exact h.1
theorem ans_one {ep k m p d : Int} {l : List Od} {kd : Int} {o : Od} {er er2 : Int} {l' l2 : List Od} (h : Ans ep k m p d l kd o er l') (h2 : Ans ep k m p d l kd o er2 l2) : er = er2 ∧ (er = 0 → l' = l2) := by
  have kn : knownB 1 = true → False := by decide
  rcases h with ⟨hb, e⟩ | ⟨hb, hk, e⟩ | ⟨hb, hk, e⟩ <;> rcases h2 with ⟨hb2, f⟩ | ⟨hb2, hk2, f⟩ | ⟨hb2, hk2, f⟩
  · subst e f; exact ⟨rfl, fun h => absurd h (by decide)⟩
  · rw [hb] at hb2; cases hb2
  · rw [hb] at hb2; cases hb2
  · rw [hb] at hb2; cases hb2
  · rw [e] at f
    injection f with f1 f2
    exact ⟨f1, fun _ => f2⟩
  · subst hk; exact (kn hk2).elim
  · rw [hb] at hb2; cases hb2
  · subst hk2; exact (kn hk).elim
  · have hm : mayB ep k m p d l = true := by simp only [Bool.and_eq_true] at hb; exact hb.1
    have ha := asc2_may hm
    rcases e with ⟨e1, e2⟩ | ⟨j, q, hj, hq, e⟩ <;> rcases f with ⟨f1, f2⟩ | ⟨i, r, hi, hr, f⟩
    · subst e2 f2; exact ⟨rfl, fun h => absurd h (by decide)⟩
    · rw [e1] at hr; cases hr
    · rw [f1] at hq; cases hq
    · rw [hq] at hr
      obtain rfl := Option.some.inj hr
      have hij : j = i := by
        rcases Nat.lt_trichotomy j i with h | h | h
        · have := ha j i q q h hj hi; omega
        · exact h
        · have := ha i j q q h hi hj; omega
      subst hij
      rcases e with ⟨e1, e2⟩ | ⟨e1, e2, e3⟩ <;> rcases f with ⟨f1, f2⟩ | ⟨f1, f2, f3⟩
      · subst e2 f2; exact ⟨rfl, fun h => absurd h (by decide)⟩
      · rw [e1] at f1; cases f1
      · rw [e1] at f1; cases f1
      · subst e2 e3 f2 f3; exact ⟨rfl, fun _ => rfl⟩
def Told (ep k m p d : Int) (l : List Od) (kd : Int) (o : Od) (w : World) (e : Ending) (w' : World) : Prop :=
  ∃ (er : Int) (l' : List Od), Ans ep k m p d l kd o er l' ∧ Below w.heap.size w w' ∧ ((er ≠ 0 ∧ e = .returned (.tuple #[.agg zM, .int .i64 er])) ∨ (er = 0 ∧ ∃ (A' : Option Addr) (c' : Nat), e = .returned (.tuple #[.agg (boxM (ep + 1) k m p d A' c' l'), .int .i64 0]) ∧ kO.R 37 w' w.heap.size (fun _ => True) (.slice A' l'.length c') l'))
theorem aapply_calls (ep k m p d : Int) (A : Option Addr) (c : Nat) (l : List Od) (kd : Int) (o : Od) (w : World) (hx : kO.C w A l.length l) (hwf : WfL l) :
    Calls Try.prog 13 #[.agg (boxM ep k m p d A c l), .agg (chA kd o)] w (Told ep k m p d l kd o w) := by
  cases hb : (mayB ep k m p d l && (mayC kd o && !(ep == 1048576))) with
  | false =>
    refine (aapply_bad ep k m p d A c l kd o w hx hwf hb).mono ?_
    rintro e w1 ⟨rfl, h⟩
    exact ⟨1, [], .inl ⟨hb, rfl⟩, h, .inl ⟨by decide, rfl⟩⟩
  | true =>
    have hb' := hb
    simp only [Bool.and_eq_true, Bool.not_eq_true'] at hb'
    obtain ⟨h1, h2, h3⟩ := hb'
    obtain ⟨he0, he1⟩ := may_ep01 h1
    rcases known_or h2 with rfl | hk
    · refine (aapply_add ep k m p d A c l o w hx hwf h1 h2 h3 he0 he1).mono ?_
      rintro e w1 ⟨er, l', ha, h⟩
      exact ⟨er, l', .inr (.inl ⟨hb, rfl, ha⟩), h⟩
    · refine (aapply_set ep k m p d A c l kd o w hx hwf hk h1 h2 h3 he0 he1).mono ?_
      rintro e w1 ⟨er, l', ha, h⟩
      exact ⟨er, l', .inr (.inr ⟨hb, hk, ha⟩), h⟩
end Go.Proofs.Ytfikaekocgofoaa.AtR
/- Changes, one behind the other; a pool's first map. -/
set_option linter.unusedSimpArgs false
namespace Go.Proofs.Ytfikaekocgofoaa.AtS
open Go Go.RowKit Go.Proofs.YtfikaekocgofoaaW.PrintWords Go.Proofs.YtfikaekocgofoaaW.PrintLast Go.Proofs.YtfikaekocgofoaaW.PrintMore Mem PAll KW AtA AtB Sl Dsc MayP ApP Fnd PlF Roo Awk McW ApY ApZ ApW AtK AtV AtX AtD AtC AtP Ins AtQ AtR
open CrP hiding Od
structure Chg where
  kd : Int
  o : Od
  deriving Inhabited
def kC : Kd Chg := Kd.iso (Kd.pair (Kd.int .i64) kO) (fun x => (x.kd, x.o))
theorem kC_open {w : World} {x : Chg} {cs : List Value} (h : kC.K w x cs) : cs = (chA x.kd x.o).toList := by
  obtain ⟨_, _, rfl, rfl, h⟩ := h
  obtain rfl := k37_open h
  rfl
theorem at_C {w : World} {A : Option Addr} {n : Nat} {xs : List Chg} (h : kC.C w A n xs) (i : Nat) (h1 : i < n) :
    ∃ ad x, xs[i]? = some x ∧ A = some ad ∧ w.cell? (ad.add (i * 9)) = some (.int .i64 x.kd) ∧ w.cell? ⟨(ad.add (i * 9)).block, (ad.add (i * 9)).off + 1, none⟩ = some (.int .i64 x.o.f0) ∧ w.cell? ⟨(ad.add (i * 9)).block, (ad.add (i * 9)).off + 2, none⟩ = some (.bool x.o.f1) ∧ w.cell? ⟨(ad.add (i * 9)).block, (ad.add (i * 9)).off + 3, none⟩ = some (.bool x.o.f2) ∧ w.cell? ⟨(ad.add (i * 9)).block, (ad.add (i * 9)).off + 4, none⟩ = some (.int .i64 x.o.f3) ∧ w.cell? ⟨(ad.add (i * 9)).block, (ad.add (i * 9)).off + 5, none⟩ = some (.int .i64 x.o.f4) ∧ w.cell? ⟨(ad.add (i * 9)).block, (ad.add (i * 9)).off + 6, none⟩ = some (.int .i64 x.o.f5) ∧ w.cell? ⟨(ad.add (i * 9)).block, (ad.add (i * 9)).off + 7, none⟩ = some (.int .i64 x.o.f6) ∧ w.cell? ⟨(ad.add (i * 9)).block, (ad.add (i * 9)).off + 8, none⟩ = some (.int .i64 x.o.f7) := by
  obtain ⟨ad, c, e, _, hK, hc0⟩ := Kd.C_get h default (i : Int) (by omega) (by omega)
  have hn : i < xs.length := by have := h.1; omega
  have hg : xs.getD (i : Int).toNat default = xs[i] := by
    rw [Int.toNat_natCast, List.getD_eq_getElem?_getD, List.getElem?_eq_getElem hn]
    rfl
  rw [hg] at hK
  have hc : ∀ j u, c[j]? = some u → w.cell? (ad.add (i * 9 + j)) = some u := hc0
  obtain rfl := kC_open hK
  exact ⟨ad, xs[i], List.getElem?_eq_getElem hn, e, hc 0 _ rfl, by rw [← add_field _ _ 1 (by omega)]; exact hc 1 _ rfl, by rw [← add_field _ _ 2 (by omega)]; exact hc 2 _ rfl, by rw [← add_field _ _ 3 (by omega)]; exact hc 3 _ rfl, by rw [← add_field _ _ 4 (by omega)]; exact hc 4 _ rfl, by rw [← add_field _ _ 5 (by omega)]; exact hc 5 _ rfl, by rw [← add_field _ _ 6 (by omega)]; exact hc 6 _ rfl, by rw [← add_field _ _ 7 (by omega)]; exact hc 7 _ rfl, by rw [← add_field _ _ 8 (by omega)]; exact hc 8 _ rfl⟩
theorem ans_may {ep k m p d : Int} {l : List Od} {kd : Int} {o : Od} {l' : List Od} (h : Ans ep k m p d l kd o 0 l') : mayB (ep + 1) k m p d l' = true := by
  rcases h with ⟨_, e⟩ | ⟨hb, hk, e⟩ | ⟨hb, hk, e⟩
  · cases e
  · have hb' := hb
    simp only [Bool.and_eq_true, Bool.not_eq_true'] at hb'
    unfold applyR at e
    rw [if_neg (by rw [← hk, hb]; decide), if_pos rfl] at e
    split at e
    · injection e with e1 _; cases e1
    · split at e
      · injection e with e1 _; cases e1
      · split at e
        · rename_i h3; injection e with _ e2; rw [← e2]; exact h3
        · injection e with e1 _; cases e1
  · have hb' := hb
    simp only [Bool.and_eq_true, Bool.not_eq_true'] at hb'
    obtain ⟨h1, h2, h3⟩ := hb'
    rcases e with ⟨_, e2⟩ | ⟨j, q, hj, _, ⟨_, e2⟩ | ⟨_, _, e3⟩⟩
    · cases e2
    · cases e2
    · rw [e3]
      exact may_set h1 h3 h2 (by have := known_cases hk; omega) hj
/-- From one map to another, change by change; what each is told. -/
inductive Stp (k m p d : Int) : List Chg → Int → List Od → List Int → Prop
  | nil : Stp k m p d [] 0 [] []
  | no {cs : List Chg} {ep : Int} {l : List Od} {es : List Int} {c : Chg} {er : Int} {l' : List Od} : Stp k m p d cs ep l es → Ans ep k m p d l c.kd c.o er l' → er ≠ 0 → Stp k m p d (cs ++ [c]) ep l (es ++ [er])
  | ok {cs : List Chg} {ep : Int} {l : List Od} {es : List Int} {c : Chg} {l' : List Od} : Stp k m p d cs ep l es → Ans ep k m p d l c.kd c.o 0 l' → Stp k m p d (cs ++ [c]) (ep + 1) l' (es ++ [0])
theorem snoc_inj {α : Type} {a b : List α} {x y : α} (h : a ++ [x] = b ++ [y]) : a = b ∧ x = y := by
  have := List.append_inj' h rfl
  exact ⟨this.1, by simpa using this.2⟩
theorem steps_one {k m p d : Int} {cs : List Chg} {ep : Int} {l : List Od} {es : List Int} (h : Stp k m p d cs ep l es) : ∀ {ep2 : Int} {l2 : List Od} {es2 : List Int}, Stp k m p d cs ep2 l2 es2 → ep = ep2 ∧ l = l2 ∧ es = es2 := by
  induction h with
  | nil =>
    intro ep2 l2 es2 h2
    generalize hc : ([] : List Chg) = cs at h2
    cases h2 with
    | nil => exact ⟨rfl, rfl, rfl⟩
    | no _ _ _ => simp at hc
    | ok _ _ => simp at hc
  | @no cs ep l es c er l' hs ha hne ih =>
    intro ep2 l2 es2 h2
    generalize hc : cs ++ [c] = cs' at h2
    cases h2 with
    | nil => simp at hc
    | no hs2 ha2 hne2 =>
      obtain ⟨rfl, rfl⟩ := snoc_inj hc
      obtain ⟨rfl, rfl, rfl⟩ := ih hs2
      obtain ⟨rfl, _⟩ := ans_one ha ha2
      exact ⟨rfl, rfl, rfl⟩
    | ok hs2 ha2 =>
      obtain ⟨rfl, rfl⟩ := snoc_inj hc
      obtain ⟨rfl, rfl, rfl⟩ := ih hs2
      exact absurd (ans_one ha ha2).1 hne
  | @ok cs ep l es c l' hs ha ih =>
    intro ep2 l2 es2 h2
    generalize hc : cs ++ [c] = cs' at h2
    cases h2 with
    | nil => simp at hc
    | no hs2 ha2 hne2 =>
      obtain ⟨rfl, rfl⟩ := snoc_inj hc
      obtain ⟨rfl, rfl, rfl⟩ := ih hs2
      exact absurd (ans_one ha ha2).1.symm hne2
    | ok hs2 ha2 =>
      obtain ⟨rfl, rfl⟩ := snoc_inj hc
      obtain ⟨rfl, rfl, rfl⟩ := ih hs2
      have := (ans_one ha ha2).2 rfl
      exact ⟨rfl, this, rfl⟩
theorem steps_may {k m p d : Int} {cs : List Chg} {ep : Int} {l : List Od} {es : List Int} (h : Stp k m p d cs ep l es) (hp : poolB k m p d = true) : mayB ep k m p d l = true := by
  induction h with
  | nil =>
    unfold mayB
    rw [hp, show goodB [] = true from goodB_yes (fun _ _ hi _ => absurd hi (Nat.not_lt_zero _))]
    rfl
  | no _ _ _ ih => exact ih
  | ok _ ha _ => exact ans_may ha
theorem steps_len {k m p d : Int} {cs : List Chg} {ep : Int} {l : List Od} {es : List Int} (h : Stp k m p d cs ep l es) : es.length = cs.length := by
  induction h with
  | nil => rfl
  | no _ _ _ ih => simp [ih]
  | ok _ _ ih => simp [ih]
abbrev firstM (k m p d : Int) : Array Value := #[.int .i64 0, .int .i64 k, .int .i64 m, .int .i64 p, .int .i64 d, .slice none 0 0]
set_option maxHeartbeats 4000000 in
set_option maxRecDepth 100000 in
theorem new_calls (k m p d : Int) (w : World) : Calls Try.prog 25 #[.agg #[.int .i64 k, .int .i64 m, .int .i64 p, .int .i64 d]] w fun e w' => e = .returned (if poolB k m p d = true then .tuple #[.agg (firstM k m p d), .int .i64 0] else .tuple #[.agg zM, .int .i64 1]) ∧ Below w.heap.size w w' := by
  have hs1 : (w.alloc (.cells #[.int .i64 k, .int .i64 m, .int .i64 p, .int .i64 d] 23)).heap.size = w.heap.size + 1 := by simp only [World.alloc, Array.size_push]
  have HP1 : Hid (((w.alloc (.cells #[.int .i64 k, .int .i64 m, .int .i64 p, .int .i64 d] 23)).alloc (.cells zM 28)).heap[w.heap.size]? = some (.cells #[.int .i64 k, .int .i64 m, .int .i64 p, .int .i64 d] 23 (0, 0))) := Lib.hid (blk_below (blk_new _ _) (below_alloc (Below.refl _ _) _))
  have HR1 : Hid (((w.alloc (.cells #[.int .i64 k, .int .i64 m, .int .i64 p, .int .i64 d] 23)).alloc (.cells zM 28)).heap[w.heap.size + 1]? = some (.cells zM 28 (0, 0))) := Lib.hid (by
    have h := blk_new (w.alloc (.cells #[.int .i64 k, .int .i64 m, .int .i64 p, .int .i64 d] 23)) (.cells zM 28)
    rw [hs1] at h
    exact h)
  have HB1 := Lib.hid (below_alloc (below_alloc (Below.refl w.heap.size w) (.cells #[.int .i64 k, .int .i64 m, .int .i64 p, .int .i64 d] 23)) (.cells zM 28))
  obtain ⟨w1, hw1⟩ : ∃ w1, w1 = ((w.alloc (.cells #[.int .i64 k, .int .i64 m, .int .i64 p, .int .i64 d] 23)).alloc (.cells zM 28)) := ⟨_, rfl⟩
  have HWN := Lib.hid hw1
  rw [← hw1] at HP1 HR1 HB1
  obtain ⟨b, hb⟩ : ∃ b, b = poolB k m p d := ⟨_, rfl⟩
  have T := Lib.hid (pool_calls k m p d w1)
  rw [← hb] at T ⊢
  clear hb hw1 hs1
  have c0 := blk_cell HP1.out 0
  have c1 := blk_cell HP1.out 1
  have c2 := blk_cell HP1.out 2
  have c3 := blk_cell HP1.out 3
  rw [HWN.out] at c0 c1 c2 c3
  go_enter Try.func25, Try.ntmps25
  go_wp2_with fail
  rw [← HWN.out]
  refine T.out.mono ?_
  rintro e w2 ⟨rfl, hb⟩
  have HB2 := Lib.hid (below_then HB1.out HB1.out.size hb)
  have HP2 := Lib.hid (blk_below HP1.out hb)
  have HR2 := Lib.hid (blk_below HR1.out hb)
  clear hb c0 c1 c2 c3 T HP1 HR1 HB1 HWN
  have c0 := blk_cell HP2.out 0
  have c1 := blk_cell HP2.out 1
  have c2 := blk_cell HP2.out 2
  have c3 := blk_cell HP2.out 3
  cases b with
  | false =>
    go_wp2_with (first | (refine gate_ (.store 28 (.tmp 2) (.tmp 7)) rfl ?_; go_must (refine Stb.store_list rfl rfl 28 (.tmp 2) (.tmp 7) rfl (cur' := zM) [.int .i64 0, .int .i64 0, .int .i64 0, .int .i64 0, .int .i64 0, .slice none 0 0] (by exact HR2.out) (by rfl) (by rfl) (by rfl) (by kernel_rfl) (Nat.le_of_ble_eq_true rfl) (by rfl) (by rfl) ?_; intro wf hz_ hg_ hs_; have HF := Lib.hid hz_; have HBF := Lib.hid (Stb.below_grown1 HB2.out hg_ (Nat.le_add_right _ 1) HB2.out.size); clear hz_ hg_ hs_)))
    refine bodyPost_ret (results_ct rfl _ _ (w.heap.size + 1) 28 zM (0, 0) _ rfl HF.out Try.underlying28 rfl (by kernel_rfl)) rfl ?_
    exact ⟨rfl, HBF.out⟩
  | true =>
    go_wp2_with (first | (refine gate_ (.store 28 (.tmp 2) (.tmp 9)) rfl ?_; go_must (refine Stb.store_list rfl rfl 28 (.tmp 2) (.tmp 9) rfl (cur' := firstM k m p d) [.int .i64 0, .int .i64 k, .int .i64 m, .int .i64 p, .int .i64 d, .slice none 0 0] (by exact HR2.out) (by rfl) (by rfl) (by rfl) (by kernel_rfl) (Nat.le_of_ble_eq_true rfl) (by rfl) (by rfl) ?_; intro wf hz_ hg_ hs_; have HF := Lib.hid hz_; have HBF := Lib.hid (Stb.below_grown1 HB2.out hg_ (Nat.le_add_right _ 1) HB2.out.size); clear hz_ hg_ hs_)))
    refine bodyPost_ret (results_ct rfl _ _ (w.heap.size + 1) 28 (firstM k m p d) (0, 0) _ rfl HF.out Try.underlying28 rfl (by kernel_rfl)) rfl ?_
    exact ⟨rfl, HBF.out⟩
end Go.Proofs.Ytfikaekocgofoaa.AtS
/- Many changes, one behind the other: atlas.Fold. -/
set_option linter.unusedSimpArgs false
namespace Go.Proofs.Ytfikaekocgofoaa.AtF
open Go Go.RowKit Go.Proofs.YtfikaekocgofoaaW.PrintWords Go.Proofs.YtfikaekocgofoaaW.PrintLast Go.Proofs.YtfikaekocgofoaaW.PrintMore Mem PAll KW AtA AtB Sl Dsc MayP ApP Fnd PlF Roo Awk McW ApY ApZ ApW AtK AtV AtX AtD AtC AtP Ins AtQ AtR AtS
open CrP hiding Od
abbrev kE : Kd Int := Kd.int .i64
theorem infoE : (Try.prog.info? 30).map (fun i => (i.zero, i.size, i.bytes)) = some (some (.int .i64 0), kE.sz, 8) := by kernel_rfl
/-- Two rows of one's own that share nothing: the map's, and what was told. -/
structure Two (w : World) (base a b : Nat) (u : Value) (l : List Od) (v : Value) (es : List Int) : Prop where
  row : kO.R 37 w base (fun k => (k ≠ a ∧ k ≠ b) ∧ some k ≠ v.ownBlock) u l
  told : kE.R 30 w base (fun k => (k ≠ a ∧ k ≠ b) ∧ some k ≠ u.ownBlock) v es
theorem Two.below {w w1 : World} {base a b : Nat} {u v : Value} {l : List Od} {es : List Int} (h : Two w base a b u l v es) (hb : Below w.heap.size w w1) : Two w1 base a b u l v es := ⟨Kd.R_below h.row hb, Kd.R_below h.told hb⟩
theorem Two.set {w w1 : World} {base a b g : Nat} {u v : Value} {l : List Od} {es : List Int} (h : Two w base a b u l v es) (hg : w.grownBy w1 (some g)) (he : g = a ∨ g = b) : Two w1 base a b u l v es :=
  ⟨Kd.R_grown h.row hg (fun k hk e => by have e2 : k = g := Option.some.inj e; rcases he with he | he; exact hk.1.1 (e2.trans he); exact hk.1.2 (e2.trans he)), Kd.R_grown h.told hg (fun k hk e => by have e2 : k = g := Option.some.inj e; rcases he with he | he; exact hk.1.1 (e2.trans he); exact hk.1.2 (e2.trans he))⟩
theorem Two.more {w w1 : World} {base a b : Nat} {u v v1 : Value} {l : List Od} {es es' : List Int} (h : Two w base a b u l v es) (hg : w.grownBy w1 v.ownBlock) (hat : v1.ownBlock = v.ownBlock ∨ ∃ k, v1.ownBlock = some k ∧ w.heap.size ≤ k) (hv : kE.R 30 w1 base (fun k => (k ≠ a ∧ k ≠ b) ∧ some k ≠ u.ownBlock) v1 es') : Two w1 base a b u l v1 es' :=
  ⟨Kd.R_after h.row hg hat, hv⟩
/-- The map's row is another one, made since. -/
theorem Two.turn {w w1 : World} {base a b : Nat} {u u1 v : Value} {l l1 : List Od} {es : List Int} (h : Two w base a b u l v es) (hb : Below w.heap.size w w1) (ha : a < w.heap.size) (hbb : b < w.heap.size) (hbase : base ≤ w.heap.size) (hr : kO.R 37 w1 w.heap.size (fun _ => True) u1 l1) : Two w1 base a b u1 l1 v es := by
  have hlt := Kd.R_lt h.told
  refine ⟨Kd.R_lower (Kd.R_mono (Kd.R_bound hr) (fun k hk => ⟨⟨by omega, by omega⟩, fun e => by have := hlt k e.symm; omega⟩)) hbase, Kd.R_mono (Kd.R_below (Kd.R_bound h.told) hb) (fun k hk => ⟨hk.1.1, fun e => ?_⟩)⟩
  have h1 := Kd.R_base hr k e.symm
  have := hk.2.2.1
  omega
theorem Two.fresh {w : World} {base a b : Nat} {u v : Value} {l : List Od} {es : List Int} (h : Two w base a b u l v es) (ha : a < w.heap.size) (hb : b < w.heap.size) : ∀ k, w.heap.size ≤ k → ((k ≠ a ∧ k ≠ b) ∧ some k ≠ u.ownBlock) :=
  fun k hk => ⟨⟨by omega, by omega⟩, fun e => by have := Kd.R_lt h.row k e.symm; omega⟩
set_option maxHeartbeats 8000000 in
set_option maxRecDepth 100000 in
theorem fold_ok (k m p d : Int) (A : Option Addr) (cc : Nat) (cs : List Chg) (w : World) (hx : kC.C w A cs.length cs) (hl : cs.length ≤ 300) (hp : poolB k m p d = true) : Calls Try.prog 9 #[.agg #[.int .i64 k, .int .i64 m, .int .i64 p, .int .i64 d], .slice A cs.length cc] w fun e w' => ∃ (ep : Int) (l : List Od) (es : List Int) (A' : Option Addr) (c' : Nat) (v : Value), e = .returned (.tuple #[.agg (boxM ep k m p d A' c' l), v, .int .i64 0]) ∧ Stp k m p d cs ep l es ∧ kO.R 37 w' w.heap.size (fun _ => True) (.slice A' l.length c') l ∧ kE.R 30 w' w.heap.size (fun _ => True) v es ∧ Below w.heap.size w w' := by
  have hs1 : (w.alloc (.cells #[.int .i64 k, .int .i64 m, .int .i64 p, .int .i64 d] 23)).heap.size = w.heap.size + 1 := by simp only [World.alloc, Array.size_push]
  have hs2 : ((w.alloc (.cells #[.int .i64 k, .int .i64 m, .int .i64 p, .int .i64 d] 23)).alloc (.cells zM 28)).heap.size = w.heap.size + 2 := by simp only [World.alloc, Array.size_push]
  have HP1 : Hid (((w.alloc (.cells #[.int .i64 k, .int .i64 m, .int .i64 p, .int .i64 d] 23)).alloc (.cells zM 28)).heap[w.heap.size]? = some (.cells #[.int .i64 k, .int .i64 m, .int .i64 p, .int .i64 d] 23 (0, 0))) := Lib.hid (blk_below (blk_new _ _) (below_alloc (Below.refl _ _) _))
  have HR1 : Hid (((w.alloc (.cells #[.int .i64 k, .int .i64 m, .int .i64 p, .int .i64 d] 23)).alloc (.cells zM 28)).heap[w.heap.size + 1]? = some (.cells zM 28 (0, 0))) := Lib.hid (by
    have h := blk_new (w.alloc (.cells #[.int .i64 k, .int .i64 m, .int .i64 p, .int .i64 d] 23)) (.cells zM 28)
    rw [hs1] at h
    exact h)
  have HB1 := Lib.hid (below_alloc (below_alloc (Below.refl w.heap.size w) (.cells #[.int .i64 k, .int .i64 m, .int .i64 p, .int .i64 d] 23)) (.cells zM 28))
  have HC1 := Lib.hid (Kd.C_below hx HB1.out)
  obtain ⟨w1, hw1⟩ : ∃ w1, w1 = ((w.alloc (.cells #[.int .i64 k, .int .i64 m, .int .i64 p, .int .i64 d] 23)).alloc (.cells zM 28)) := ⟨_, rfl⟩
  have HWN := Lib.hid hw1
  rw [← hw1] at HP1 HR1 HB1 HC1 hs2
  have HSZ := Lib.hid hs2
  have HL := Lib.hid hl
  have HC0 := Lib.hid hx
  have T := Lib.hid (new_calls k m p d w1)
  have c0 := blk_cell HP1.out 0
  have c1 := blk_cell HP1.out 1
  have c2 := blk_cell HP1.out 2
  have c3 := blk_cell HP1.out 3
  rw [HWN.out] at c0 c1 c2 c3
  rw [hp] at T
  simp only [if_true] at T
  have HPB := Lib.hid hp
  clear hx hl hw1 hs1 hs2 hp
  go_enter Try.func9, Try.ntmps9
  go_wp2_with fail
  rw [← HWN.out]
  refine T.out.mono ?_
  rintro e w2 ⟨rfl, hb⟩
  have HB2 := Lib.hid (below_then HB1.out HB1.out.size hb)
  have HR2 := Lib.hid (blk_below HR1.out hb)
  have HC2 := Lib.hid (Kd.C_below HC1.out hb)
  have HS2 : Hid (w.heap.size + 2 ≤ w2.heap.size) := Lib.hid (by have := HSZ.out; have := hb.size; omega)
  clear hb c0 c1 c2 c3 T HP1 HR1 HB1 HC1 HWN HSZ
  unfold firstM
  have HM3 : Hid ((w2.alloc (.cells (firstM k m p d) 28)).heap[w2.heap.size]? = some (.cells (firstM k m p d) 28 (0, 0))) := Lib.hid (blk_new _ _)
  have HR3 := Lib.hid (blk_alloc HR2.out (.cells (firstM k m p d) 28))
  have HB3 := Lib.hid (below_alloc HB2.out (.cells (firstM k m p d) 28))
  have HC3 := Lib.hid (Kd.C_alloc HC2.out (.cells (firstM k m p d) 28))
  obtain ⟨w3, hw3⟩ : ∃ w3, w3 = w2.alloc (.cells (firstM k m p d) 28) := ⟨_, rfl⟩
  obtain ⟨g7, hg7⟩ : ∃ g7, g7 = w2.heap.size := ⟨_, rfl⟩
  have HW3 := Lib.hid hw3
  have HG7 : Hid (w.heap.size + 2 ≤ g7) := Lib.hid (by rw [hg7]; exact HS2.out)
  have hg7' := Lib.hid hg7
  rw [← hw3] at HM3 HR3 HB3 HC3
  rw [← hg7] at HM3
  have HT3 : Hid (Two w3 w.heap.size (w.heap.size + 1) g7 (.slice none 0 0) [] (.slice none 0 0) []) := Lib.hid ⟨Kd.R_nil _ _ _ _ _, Kd.R_nil _ _ _ _ _⟩
  clear hw3 hg7 HR2 HB2 HC2 HS2
  go_wp2_with fail
  unfold firstM at HM3 HW3
  rw [← HW3.out, ← hg7'.out]
  clear HW3 hg7'
  go_loopw [9, 25] (fun v9 i' wr => ∃ (n : Nat) (ep : Int) (l : List Od) (es : List Int) (A1 : Option Addr) (c1 : Nat), i' = .int .i64 n ∧ Hid (n ≤ cs.length) ∧ Hid (Stp k m p d (cs.take n) ep l es) ∧ Hid (wr.heap[g7]? = some (.cells #[.int .i64 ep, .int .i64 k, .int .i64 m, .int .i64 p, .int .i64 d, .slice A1 l.length c1] 28 (0, 0))) ∧ Hid (Two wr w.heap.size (w.heap.size + 1) g7 (.slice A1 l.length c1) l v9 es) ∧ Hid (wr.heap[w.heap.size + 1]? = some (.cells zM 28 (0, 0))) ∧ Hid (Below w.heap.size w wr)) (fun _ i' _ => (cs.length - intOf i').toNat)
  case atStart => exact ⟨0, 0, [], [], none, 0, rfl, Lib.hid (Nat.zero_le _), Lib.hid Stp.nil, HM3, HT3, HR3, HB3⟩
  case round =>
    obtain ⟨n, ep, l, es, A1, c1, rfl, HNL, HST, HM, HT, HR, HB⟩ := hrel
    have hn := HNL.out
    have hl3 := HL.out
    by_cases h : n < cs.length
    · have hlt : decide (n < cs.length) = true := decide_eq_true h
      have hltI : decide ((n : Int) < (cs.length : Int)) = true := decide_eq_true (by omega)
      have i0 : (0 : Int) ≤ n := by omega
      have i1 : (n : Int) < cs.length := by omega
      have i2 : n < 300 := by omega
      have i3 : (n : Int) < 300 := by omega
      have HNI := Lib.hid h
      obtain ⟨ac, c, hc, hA, b0, b1, b2, b3, b4, b5, b6, b7, b8⟩ := at_C (Kd.C_below HC0.out HB.out) n h
      subst hA
      have HTK : Hid (cs.take (n + 1) = cs.take n ++ [c]) := Lib.hid (by obtain ⟨q1, q2⟩ := List.getElem?_eq_some_iff.1 hc; rw [List.take_succ_eq_append_getElem q1, q2])
      have HMB : Hid (mayB ep k m p d l = true) := Lib.hid (steps_may HST.out HPB.out)
      have HEP := Lib.hid (may_ep01 HMB.out)
      have HEL : Hid (es.length ≤ n) := Lib.hid (by rw [steps_len HST.out]; have := List.length_take_le n cs; omega)
      clear hc hn h
      obtain ⟨wv, hwv⟩ : ∃ wv, wv = wr.alloc (.cells #[.int .i64 c.kd, .int .i64 c.o.f0, .bool c.o.f1, .bool c.o.f2, .int .i64 c.o.f3, .int .i64 c.o.f4, .int .i64 c.o.f5, .int .i64 c.o.f6, .int .i64 c.o.f7] 39) := ⟨_, rfl⟩
      have HBA := Lib.hid (below_alloc (Below.refl wr.heap.size wr) (.cells #[.int .i64 c.kd, .int .i64 c.o.f0, .bool c.o.f1, .bool c.o.f2, .int .i64 c.o.f3, .int .i64 c.o.f4, .int .i64 c.o.f5, .int .i64 c.o.f6, .int .i64 c.o.f7] 39))
      have HCV : Hid ((wr.alloc (.cells #[.int .i64 c.kd, .int .i64 c.o.f0, .bool c.o.f1, .bool c.o.f2, .int .i64 c.o.f3, .int .i64 c.o.f4, .int .i64 c.o.f5, .int .i64 c.o.f6, .int .i64 c.o.f7] 39)).heap[wr.heap.size]? = some (.cells #[.int .i64 c.kd, .int .i64 c.o.f0, .bool c.o.f1, .bool c.o.f2, .int .i64 c.o.f3, .int .i64 c.o.f4, .int .i64 c.o.f5, .int .i64 c.o.f6, .int .i64 c.o.f7] 39 (0, 0))) := Lib.hid (blk_new _ _)
      have HBV := Lib.hid (below_alloc HB.out (.cells #[.int .i64 c.kd, .int .i64 c.o.f0, .bool c.o.f1, .bool c.o.f2, .int .i64 c.o.f3, .int .i64 c.o.f4, .int .i64 c.o.f5, .int .i64 c.o.f6, .int .i64 c.o.f7] 39))
      have HMV := Lib.hid (blk_alloc HM.out (.cells #[.int .i64 c.kd, .int .i64 c.o.f0, .bool c.o.f1, .bool c.o.f2, .int .i64 c.o.f3, .int .i64 c.o.f4, .int .i64 c.o.f5, .int .i64 c.o.f6, .int .i64 c.o.f7] 39))
      have HRV := Lib.hid (blk_alloc HR.out (.cells #[.int .i64 c.kd, .int .i64 c.o.f0, .bool c.o.f1, .bool c.o.f2, .int .i64 c.o.f3, .int .i64 c.o.f4, .int .i64 c.o.f5, .int .i64 c.o.f6, .int .i64 c.o.f7] 39))
      have HTV := Lib.hid (HT.out.below HBA.out)
      have HGL : Hid (g7 < wr.heap.size) := Lib.hid (blk_lt HM.out)
      have HRL : Hid (w.heap.size + 1 < wr.heap.size) := Lib.hid (blk_lt HR.out)
      have HWV := Lib.hid hwv
      rw [← hwv] at HBA HCV HBV HMV HRV HTV
      have TA := Lib.hid (aapply_calls ep k m p d A1 c1 l c.kd c.o wv (Kd.R_reads' HTV.out.row).2.2 (wf_may HMB.out))
      unfold boxM chA at TA
      clear hwv HB HM HR HT
      have m0 := blk_cell HMV.out 0
      have m1 := blk_cell HMV.out 1
      have m2 := blk_cell HMV.out 2
      have m3 := blk_cell HMV.out 3
      have m4 := blk_cell HMV.out 4
      have m5 := blk_cell HMV.out 5
      have e0 := blk_cell HCV.out 0
      have e1 := blk_cell HCV.out 1
      have e2 := blk_cell HCV.out 2
      have e3 := blk_cell HCV.out 3
      have e4 := blk_cell HCV.out 4
      have e5 := blk_cell HCV.out 5
      have e6 := blk_cell HCV.out 6
      have e7 := blk_cell HCV.out 7
      have e8 := blk_cell HCV.out 8
      rw [HWV.out] at m0 m1 m2 m3 m4 m5 e0 e1 e2 e3 e4 e5 e6 e7 e8
      go_wp2_with fail
      rw [← HWV.out]
      refine TA.out.mono ?_
      rintro e w4 ⟨er, l', ha, hb, hres⟩
      have HAN := Lib.hid ha
      have HB4 := Lib.hid (below_then HBV.out HBV.out.size hb)
      have HM4 := Lib.hid (blk_below HMV.out hb)
      have HR4 := Lib.hid (blk_below HRV.out hb)
      have HT4 := Lib.hid (HTV.out.below hb)
      have HGL4 : Hid (g7 < w4.heap.size) := Lib.hid (blk_lt HM4.out)
      have HRL4 : Hid (w.heap.size + 1 < w4.heap.size) := Lib.hid (blk_lt HR4.out)
      have HGV : Hid (g7 < wv.heap.size ∧ w.heap.size + 1 < wv.heap.size) := Lib.hid ⟨blk_lt HMV.out, blk_lt HRV.out⟩
      have HBW := Lib.hid hb
      clear ha hb m0 m1 m2 m3 m4 m5 e0 e1 e2 e3 e4 e5 e6 e7 e8 TA HMV HRV HCV b0 b1 b2 b3 b4 b5 b6 b7 b8
      rcases hres with ⟨hne, rfl⟩ | ⟨rfl, A2, c2, rfl, hr2⟩
      · have q1 : (er == 0) = false := by simpa using hne
        have q2 : decide (er = 0) = false := decide_eq_false hne
        have HST2 : Hid (Stp k m p d (cs.take (n + 1)) ep l (es ++ [er])) := Lib.hid (by rw [HTK.out]; exact Stp.no HST.out HAN.out hne)
        clear hne
        have HB5 := Lib.hid (below_alloc HB4.out (.cells zM 28))
        have HM5 := Lib.hid (blk_alloc HM4.out (.cells zM 28))
        have HR5 := Lib.hid (blk_alloc HR4.out (.cells zM 28))
        have HT5 := Lib.hid (HT4.out.below (below_alloc (Below.refl _ _) (.cells zM 28)))
        obtain ⟨w5, hw5⟩ : ∃ w5, w5 = w4.alloc (.cells zM 28) := ⟨_, rfl⟩
        have HW5 := Lib.hid hw5
        rw [← hw5] at HB5 HM5 HR5 HT5
        have HGL5 : Hid (g7 < w5.heap.size) := Lib.hid (blk_lt HM5.out)
        have HRL5 : Hid (w.heap.size + 1 < w5.heap.size) := Lib.hid (blk_lt HR5.out)
        have HAT : Hid ((∀ v9 : Value, Two w5 w.heap.size (w.heap.size + 1) g7 (.slice A1 l.length c1) l v9 es → some g7 ≠ v9.ownBlock ∧ some (w.heap.size + 1) ≠ v9.ownBlock)) := Lib.hid (fun v9 hT => ⟨fun e => (hT.told.1 _ e.symm).1.2 rfl, fun e => (hT.told.1 _ e.symm).1.1 rfl⟩)
        clear HB4 HM4 HR4 HT4 HW5
        subst hw5
        have HATX : Hid (some g7 ≠ Value.ownBlock u9 ∧ some (w.heap.size + 1) ≠ Value.ownBlock u9) := Lib.hid ⟨fun e => (HT5.out.told.1 _ e.symm).1.2 rfl, fun e => (HT5.out.told.1 _ e.symm).1.1 rfl⟩
        go_wp2_with (first | (at_builtin; go_must (refine Kd.R_append kE (w0 := w) w.heap.size rfl _ _ 29 30 (.int .i64 0) 8 rfl Try.underlying29 infoE rfl (by decide) (by decide) _ _ er [.int .i64 er] (fun k => (k ≠ w.heap.size + 1 ∧ k ≠ g7) ∧ some k ≠ (Value.slice A1 l.length c1).ownBlock) (fun _ => False) rfl (by first | rfl | (simp only [World.alloc, Array.size_push]; rfl)) rfl (fun _ hk => hk.elim) (HT5.out.fresh HRL5.out HGL5.out) (by exact HT5.out.told) (by exact HB5.out) (by exact HB5.out.size) ?hl ?_; (case hl => have h1 := HNL.out; have h2 := HL.out; have h3 := HEL.out; omega); intro v12 w12 ho hb hg hat; have HT12 := Lib.hid (HT5.out.more hg hat ho); have HB12 := Lib.hid hb; have HM12 := Lib.hid (blk_grown HM5.out hg ((by have h1 := HATX.out; exact h1.1))); have HR12 := Lib.hid (blk_grown HR5.out hg ((by have h1 := HATX.out; exact h1.2))); clear ho hb hg hat)))
        go_roundw
        case rel => exact ⟨n + 1, _, _, _, _, _, by go_num, Lib.hid (by have := HNI.out; omega), Lib.hid HST2.out, HM12, HT12, HR12, HB12⟩
        case measure => have := HNI.out; simp only [intOf]; omega
      · have HST2 : Hid (Stp k m p d (cs.take (n + 1)) (ep + 1) l' (es ++ [0])) := Lib.hid (by rw [HTK.out]; exact Stp.ok HST.out HAN.out)
        have HT5a := Lib.hid (HTV.out.turn HBW.out HGV.out.2 HGV.out.1 HBV.out.size hr2)
        clear hr2
        have HBN := Lib.hid (below_alloc (Below.refl w4.heap.size w4) (.cells #[.int .i64 (ep + 1), .int .i64 k, .int .i64 m, .int .i64 p, .int .i64 d, .slice A2 l'.length c2] 28))
        have HB5 := Lib.hid (below_alloc HB4.out (.cells #[.int .i64 (ep + 1), .int .i64 k, .int .i64 m, .int .i64 p, .int .i64 d, .slice A2 l'.length c2] 28))
        have HM5 := Lib.hid (blk_alloc HM4.out (.cells #[.int .i64 (ep + 1), .int .i64 k, .int .i64 m, .int .i64 p, .int .i64 d, .slice A2 l'.length c2] 28))
        have HR5 := Lib.hid (blk_alloc HR4.out (.cells #[.int .i64 (ep + 1), .int .i64 k, .int .i64 m, .int .i64 p, .int .i64 d, .slice A2 l'.length c2] 28))
        have HN5 : Hid ((w4.alloc (.cells #[.int .i64 (ep + 1), .int .i64 k, .int .i64 m, .int .i64 p, .int .i64 d, .slice A2 l'.length c2] 28)).heap[w4.heap.size]? = some (.cells #[.int .i64 (ep + 1), .int .i64 k, .int .i64 m, .int .i64 p, .int .i64 d, .slice A2 l'.length c2] 28 (0, 0))) := Lib.hid (blk_new _ _)
        have HT5 := Lib.hid (HT5a.out.below HBN.out)
        obtain ⟨w5, hw5⟩ : ∃ w5, w5 = w4.alloc (.cells #[.int .i64 (ep + 1), .int .i64 k, .int .i64 m, .int .i64 p, .int .i64 d, .slice A2 l'.length c2] 28) := ⟨_, rfl⟩
        have HW5 := Lib.hid hw5
        rw [← hw5] at HB5 HM5 HR5 HN5 HT5
        have m0 := blk_cell HN5.out 0
        have m1 := blk_cell HN5.out 1
        have m2 := blk_cell HN5.out 2
        have m3 := blk_cell HN5.out 3
        have m4 := blk_cell HN5.out 4
        have m5 := blk_cell HN5.out 5
        clear HB4 HM4 HR4 HT4 HT5a HBN HW5
        subst hw5
        unfold boxM
        have HATX : Hid (some g7 ≠ Value.ownBlock u9 ∧ some (w.heap.size + 1) ≠ Value.ownBlock u9) := Lib.hid ⟨fun e => (HT5.out.told.1 _ e.symm).1.2 rfl, fun e => (HT5.out.told.1 _ e.symm).1.1 rfl⟩
        go_wp2_with (first | (refine gate_ (.store 28 (.tmp 7) (.tmp 37)) rfl ?_; go_must (refine Stb.store_list rfl rfl 28 (.tmp 7) (.tmp 37) rfl (cur' := #[.int .i64 (ep + 1), .int .i64 k, .int .i64 m, .int .i64 p, .int .i64 d, .slice A2 l'.length c2]) [.int .i64 (ep + 1), .int .i64 k, .int .i64 m, .int .i64 p, .int .i64 d, .slice A2 l'.length c2] (by exact HM5.out) (by rfl) (by rfl) (by rfl) (by kernel_rfl) (Nat.le_of_ble_eq_true rfl) (by rfl) (by rfl) ?_; intro w6 hz_ hg_ hs_; have HM6 := Lib.hid hz_; have HR6 := Lib.hid (blk_grown HR5.out hg_ (fun e => by injection e with e; have := HG7.out; omega)); have HT6 := Lib.hid (HT5.out.set hg_ (.inr rfl)); have HB6 := Lib.hid (Stb.below_grown1 HB5.out hg_ (Nat.le_of_succ_le (Nat.le_of_succ_le HG7.out)) HB5.out.size); have HGL6 : Hid (g7 < w6.heap.size) := Lib.hid (blk_lt hz_); have HRL6 : Hid (w.heap.size + 1 < w6.heap.size) := Lib.hid (blk_lt HR6.out); clear hz_ hg_ hs_)) | (at_builtin; go_must (refine Kd.R_append kE (w0 := w) w.heap.size rfl _ _ 29 30 (.int .i64 0) 8 rfl Try.underlying29 infoE rfl (by decide) (by decide) _ _ 0 [.int .i64 0] (fun k => (k ≠ w.heap.size + 1 ∧ k ≠ g7) ∧ some k ≠ (Value.slice A2 l'.length c2).ownBlock) (fun _ => False) rfl (by first | rfl | (simp only [World.alloc, Array.size_push]; rfl)) rfl (fun _ hk => hk.elim) (HT6.out.fresh HRL6.out HGL6.out) (by exact HT6.out.told) (by exact HB6.out) (by exact HB6.out.size) ?hl ?_; (case hl => have h1 := HNL.out; have h2 := HL.out; have h3 := HEL.out; omega); intro v12 w12 ho hb hg hat; have HT12 := Lib.hid (HT6.out.more hg hat ho); have HB12 := Lib.hid hb; have HM12 := Lib.hid (blk_grown HM6.out hg ((by have h1 := HATX.out; exact h1.1))); have HR12 := Lib.hid (blk_grown HR6.out hg ((by have h1 := HATX.out; exact h1.2))); clear ho hb hg hat)))
        go_roundw
        case rel => exact ⟨n + 1, _, _, _, _, _, by go_num, Lib.hid (by have := HNI.out; omega), Lib.hid HST2.out, HM12, HT12, HR12, HB12⟩
        case measure => have := HNI.out; simp only [intOf]; omega
    · obtain rfl : n = cs.length := by omega
      have hlt : decide (cs.length < cs.length) = false := decide_eq_false (Nat.lt_irrefl _)
      have hltI : decide ((cs.length : Int) < (cs.length : Int)) = false := decide_eq_false (Int.lt_irrefl _)
      clear h hn
      rw [List.take_of_length_le (Nat.le_refl _)] at HST
      have m0 := blk_cell HM.out 0
      have m1 := blk_cell HM.out 1
      have m2 := blk_cell HM.out 2
      have m3 := blk_cell HM.out 3
      have m4 := blk_cell HM.out 4
      have m5 := blk_cell HM.out 5
      go_wp2_with (first | (refine gate_ (.store 28 (.tmp 4) (.tmp 43)) rfl ?_; go_must (refine Stb.store_list rfl rfl 28 (.tmp 4) (.tmp 43) rfl (cur' := #[.int .i64 ep, .int .i64 k, .int .i64 m, .int .i64 p, .int .i64 d, .slice A1 l.length c1]) [.int .i64 ep, .int .i64 k, .int .i64 m, .int .i64 p, .int .i64 d, .slice A1 l.length c1] (by exact HR.out) (by rfl) (by rfl) (by rfl) (by kernel_rfl) (Nat.le_of_ble_eq_true rfl) (by rfl) (by rfl) ?_; intro wf hz_ hg_ hs_; have HF := Lib.hid hz_; have HBF := Lib.hid (Stb.below_grown1 HB.out hg_ (Nat.le_add_right _ 1) HB.out.size); have HTF := Lib.hid (HT.out.set hg_ (.inl rfl)); clear hz_ hg_ hs_)))
      obtain ⟨A9, c9, hv9⟩ := Kd.R_slice HTF.out.told
      subst hv9
      refine bodyPost_ret (results_ctt rfl _ _ (w.heap.size + 1) 28 #[.int .i64 ep, .int .i64 k, .int .i64 m, .int .i64 p, .int .i64 d, .slice A1 l.length c1] (0, 0) _ rfl HF.out Try.underlying28 rfl (by kernel_rfl)) rfl ?_
      exact ⟨ep, l, es, A1, c1, _, rfl, HST.out, Kd.R_mono HTF.out.row (fun _ _ => trivial), Kd.R_mono HTF.out.told (fun _ _ => trivial), HBF.out⟩
end Go.Proofs.Ytfikaekocgofoaa.AtF
/- The law's fixed question of layer 13. -/
set_option linter.unusedSimpArgs false
namespace Go.Proofs.Ytfikaekocgofoaa.AtW
open Go Go.RowKit Go.Proofs.YtfikaekocgofoaaW.PrintWords Go.Proofs.YtfikaekocgofoaaW.PrintLast Go.Proofs.YtfikaekocgofoaaW.PrintMore Mem PAll KW AtA AtB Sl Dsc MayP ApP Fnd PlF Roo Awk McW ApY ApZ ApW AtK AtV AtX AtD AtC AtP Ins AtQ AtR AtS AtF
open CrP hiding Od
def oA : Od := ⟨3, false, false, 0, 0, 0, 0, 0⟩
def oB : Od := ⟨3, false, false, 0, 7, 1, 0, 0⟩
def oC : Od := ⟨9, false, false, 0, 0, 0, 0, 0⟩
def oU : Od := ⟨3, true, false, 0, 7, 1, 0, 0⟩
def threeC : List Chg := [⟨1, oA⟩, ⟨2, oB⟩, ⟨3, oC⟩]
theorem pool_yes : poolB 2 1 4 0 = true := by decide
theorem good_0 : goodB [] = true := goodB_yes (fun _ _ hi _ => absurd hi (Nat.not_lt_zero _))
theorem good_1 {o : Od} (h : osdB o = true) : goodB [o] = true := goodB_yes (fun i q hi hq => by
  obtain rfl : i = 0 := by simp at hi; omega
  obtain rfl : o = q := by simpa using hq
  exact ⟨h, fun j _ hj => absurd hj (Nat.not_lt_zero _)⟩)
theorem may_0 : mayB 0 2 1 4 0 [] = true := by unfold mayB; rw [good_0]; decide
theorem may_1 : mayB 1 2 1 4 0 [oA] = true := by unfold mayB; rw [good_1 (by decide)]; decide
theorem ans_1 : Ans 0 2 1 4 0 [] 1 oA 0 [oA] := by
  have hb : (mayB 0 2 1 4 0 [] && (mayC 1 oA && !((0 : Int) == 1048576))) = true := by rw [may_0]; decide
  refine .inr (.inl ⟨hb, rfl, ?_⟩)
  unfold applyR
  rw [if_neg (by rw [hb]; decide), if_pos rfl, if_neg (by decide), if_neg (by decide)]
  rw [show insA oA [] = [oA] from rfl, show (0 : Int) + 1 = 1 from rfl, if_pos may_1]
theorem ans_2 : Ans 1 2 1 4 0 [oA] 2 oB 0 [oU] := by
  have hb : (mayB 1 2 1 4 0 [oA] && (mayC 2 oB && !((1 : Int) == 1048576))) = true := by rw [may_1]; decide
  exact .inr (.inr ⟨hb, by decide,   .inr ⟨0, oA, rfl, rfl, .inr ⟨by decide, rfl, rfl⟩⟩⟩)
theorem ans_3 : Ans 2 2 1 4 0 [oU] 3 oC 4 [] := by
  have hb : (mayB 2 2 1 4 0 [oU] && (mayC 3 oC && !((2 : Int) == 1048576))) = true := by rw [show mayB 2 2 1 4 0 [oU] = true from ans_may ans_2]; decide
  exact .inr (.inr ⟨hb, by decide, .inl ⟨rfl, rfl⟩⟩)
theorem three_steps : Stp 2 1 4 0 threeC 2 [oU] [0, 0, 4] :=
  Stp.no (cs := [⟨1, oA⟩, ⟨2, oB⟩]) (es := [0, 0]) (Stp.ok (cs := [⟨1, oA⟩]) (es := [0]) (Stp.ok (cs := []) (es := []) Stp.nil ans_1) ans_2) ans_3 (by decide)
theorem three_C {w : World} {g : Nat} (h : w.heap[g]? = some (.cells #[.int .i64 1, .int .i64 3, .bool false, .bool false, .int .i64 0, .int .i64 0, .int .i64 0, .int .i64 0, .int .i64 0, .int .i64 2, .int .i64 3, .bool false, .bool false, .int .i64 0, .int .i64 7, .int .i64 1, .int .i64 0, .int .i64 0, .int .i64 3, .int .i64 9, .bool false, .bool false, .int .i64 0, .int .i64 0, .int .i64 0, .int .i64 0, .int .i64 0] 39 (0, 0))) : kC.C w (some ⟨g, 0, none⟩) threeC.length threeC := by
  refine ⟨rfl, by show 3 ≤ 9223372036854775807; decide, fun _ => ⟨_, rfl, fun j p hj => ?_⟩⟩
  have mk : ∀ c : Chg, kC.K w c (chA c.kd c.o).toList := fun c => ⟨[.int .i64 c.kd], (aggO c.o).toList, rfl, rfl, k37_mkM w 0 (fun _ => True) c.o⟩
  have fin : ∀ (b : Nat) (cs : List Value), cs.length = 9 → (∀ i u, cs[i]? = some u → (#[.int .i64 1, .int .i64 3, .bool false, .bool false, .int .i64 0, .int .i64 0, .int .i64 0, .int .i64 0, .int .i64 0, .int .i64 2, .int .i64 3, .bool false, .bool false, .int .i64 0, .int .i64 7, .int .i64 1, .int .i64 0, .int .i64 0, .int .i64 3, .int .i64 9, .bool false, .bool false, .int .i64 0, .int .i64 0, .int .i64 0, .int .i64 0, .int .i64 0] : Array Value)[b + i]? = some u) → ∀ i u, cs[i]? = some u → w.cell? ((⟨g, 0, none⟩ : Addr).add (b + i)) = some u := by
    intro b cs _ hc i u hu
    rw [add_plain, blk_cell h]
    exact hc i u hu
  match j, hj with
  | 0, hj =>
    obtain rfl := Option.some.inj hj
    exact ⟨_, rfl, mk ⟨1, oA⟩, fin 0 _ rfl (by intro i u hu; match i, hu with | 0, hu => exact hu | 1, hu => exact hu | 2, hu => exact hu | 3, hu => exact hu | 4, hu => exact hu | 5, hu => exact hu | 6, hu => exact hu | 7, hu => exact hu | 8, hu => exact hu | i + 9, hu => cases hu)⟩
  | 1, hj =>
    obtain rfl := Option.some.inj hj
    exact ⟨_, rfl, mk ⟨2, oB⟩, fin 9 _ rfl (by intro i u hu; match i, hu with | 0, hu => exact hu | 1, hu => exact hu | 2, hu => exact hu | 3, hu => exact hu | 4, hu => exact hu | 5, hu => exact hu | 6, hu => exact hu | 7, hu => exact hu | 8, hu => exact hu | i + 9, hu => cases hu)⟩
  | 2, hj =>
    obtain rfl := Option.some.inj hj
    exact ⟨_, rfl, mk ⟨3, oC⟩, fin 18 _ rfl (by intro i u hu; match i, hu with | 0, hu => exact hu | 1, hu => exact hu | 2, hu => exact hu | 3, hu => exact hu | 4, hu => exact hu | 5, hu => exact hu | 6, hu => exact hu | 7, hu => exact hu | 8, hu => exact hu | i + 9, hu => cases hu)⟩
  | j + 3, hj => cases hj
theorem cells_E {w : World} {g n c base : Nat} {ok : Nat → Prop} {xs : List Int} (h : kE.R 30 w base ok (.slice (some ⟨g, 0, none⟩) n c) xs) : ∀ j, j < xs.length → w.cell? ⟨g, j, none⟩ = some (.int .i64 (xs.getD j 0)) := by
  intro j hj
  obtain ⟨hn, _, hC⟩ := Kd.R_reads' h
  have hr : ReadsOf (Value.int .i64) (0 : Int) w (some ⟨g, 0, none⟩) xs.length xs := Kd.reads_of_C hC
  obtain ⟨ad, e, hc⟩ := hr.2.2 (by omega)
  injection e with e
  subst e
  have h2 := hc j hj
  rw [show (⟨g, 0, none⟩ : Addr).add j = ⟨g, j, none⟩ by unfold Addr.add; split <;> simp_all] at h2
  exact h2
set_option maxHeartbeats 8000000 in
set_option maxRecDepth 100000 in
theorem awake13_calls (w : World) : Calls Try.prog 8 #[] w fun e w' => e = .returned (.bool true) ∧ Below w.heap.size w w' := by
  have HB1 := Lib.hid (below_alloc (Below.refl w.heap.size w) (.cells #[.int .i64 1, .int .i64 3, .bool false, .bool false, .int .i64 0, .int .i64 0, .int .i64 0, .int .i64 0, .int .i64 0, .int .i64 2, .int .i64 3, .bool false, .bool false, .int .i64 0, .int .i64 7, .int .i64 1, .int .i64 0, .int .i64 0, .int .i64 3, .int .i64 9, .bool false, .bool false, .int .i64 0, .int .i64 0, .int .i64 0, .int .i64 0, .int .i64 0] 39))
  have T := Lib.hid (fold_ok 2 1 4 0 (some ⟨w.heap.size, 0, none⟩) 3 threeC (w.alloc (.cells #[.int .i64 1, .int .i64 3, .bool false, .bool false, .int .i64 0, .int .i64 0, .int .i64 0, .int .i64 0, .int .i64 0, .int .i64 2, .int .i64 3, .bool false, .bool false, .int .i64 0, .int .i64 7, .int .i64 1, .int .i64 0, .int .i64 0, .int .i64 3, .int .i64 9, .bool false, .bool false, .int .i64 0, .int .i64 0, .int .i64 0, .int .i64 0, .int .i64 0] 39)) (three_C (blk_new _ _)) (by decide) pool_yes)
  have e3 : threeC.length = 3 := rfl
  rw [e3] at T
  clear e3
  go_enter Try.func8, Try.ntmps8
  go_wp2_with fail
  refine T.out.mono ?_
  rintro e w2 ⟨ep, l, es, A', c', v, rfl, hs, hr, ht, hb⟩
  obtain ⟨rfl, rfl, rfl⟩ := steps_one hs three_steps
  have HB2 := Lib.hid (below_then HB1.out HB1.out.size hb)
  obtain ⟨gt, ct, rfl, _⟩ := Kd.R_form ht (by decide)
  have x2 : w2.cell? ⟨gt, 2, none⟩ = some (.int .i64 4) := cells_E ht 2 (by decide)
  have HX := Lib.hid x2
  have HC2 := Lib.hid (Kd.R_reads' hr).2.2
  clear hs hr ht hb T x2 HB1
  unfold boxM
  simp only [List.length_cons, List.length_nil, Nat.zero_add, Nat.reduceAdd]
  have HM3 : Hid ((w2.alloc (.cells #[.int .i64 2, .int .i64 2, .int .i64 1, .int .i64 4, .int .i64 0, .slice A' 1 c'] 28)).heap[w2.heap.size]? = some (.cells #[.int .i64 2, .int .i64 2, .int .i64 1, .int .i64 4, .int .i64 0, .slice A' 1 c'] 28 (0, 0))) := Lib.hid (blk_new _ _)
  have HB3 := Lib.hid (below_alloc HB2.out (.cells #[.int .i64 2, .int .i64 2, .int .i64 1, .int .i64 4, .int .i64 0, .slice A' 1 c'] 28))
  have TF := Lib.hid (aFind_calls 2 2 1 4 0 A' c' [oU] 3 _ (Kd.C_alloc HC2.out (.cells #[.int .i64 2, .int .i64 2, .int .i64 1, .int .i64 4, .int .i64 0, .slice A' 1 c'] 28)))
  rw [show descV (findO [oU] 3) = .tuple #[.agg #[.int .i64 3, .bool true, .bool false, .int .i64 0, .int .i64 7, .int .i64 1, .int .i64 0, .int .i64 0], .bool true] from rfl] at TF
  unfold boxM at TF
  have m0 := blk_cell HM3.out 0
  have m1 := blk_cell HM3.out 1
  have m2 := blk_cell HM3.out 2
  have m3 := blk_cell HM3.out 3
  have m4 := blk_cell HM3.out 4
  have m5 := blk_cell HM3.out 5
  go_wp2_with fail
  refine TF.out.mono ?_
  rintro e w4 ⟨rfl, hb⟩
  have HB4 := Lib.hid (below_then HB3.out HB3.out.size hb)
  have HM4 := Lib.hid (blk_below HM3.out hb)
  have HX4 := Lib.hid (pw_cell_below hb (cell_alloc HX.out (.cells #[.int .i64 2, .int .i64 2, .int .i64 1, .int .i64 4, .int .i64 0, .slice A' 1 c'] 28)))
  clear hb m0 m1 m2 m3 m4 m5 TF HB3 HM3 HX
  have HB5 := Lib.hid (below_alloc HB4.out (.cells #[.int .i64 3, .bool true, .bool false, .int .i64 0, .int .i64 7, .int .i64 1, .int .i64 0, .int .i64 0] 37))
  have HO5 : Hid ((w4.alloc (.cells #[.int .i64 3, .bool true, .bool false, .int .i64 0, .int .i64 7, .int .i64 1, .int .i64 0, .int .i64 0] 37)).heap[w4.heap.size]? = some (.cells #[.int .i64 3, .bool true, .bool false, .int .i64 0, .int .i64 7, .int .i64 1, .int .i64 0, .int .i64 0] 37 (0, 0))) := Lib.hid (blk_new _ _)
  have m0 := blk_cell (blk_alloc HM4.out (.cells #[.int .i64 3, .bool true, .bool false, .int .i64 0, .int .i64 7, .int .i64 1, .int .i64 0, .int .i64 0] 37)) 0
  have x2 := cell_alloc HX4.out (.cells #[.int .i64 3, .bool true, .bool false, .int .i64 0, .int .i64 7, .int .i64 1, .int .i64 0, .int .i64 0] 37)
  have y1 := blk_cell HO5.out 1
  have y4 := blk_cell HO5.out 4
  go_wp2_with fail
  go_ret
  exact ⟨rfl, HB5.out⟩
end Go.Proofs.Ytfikaekocgofoaa.AtW
/- Are maps alike? Both answers. -/
set_option linter.unusedSimpArgs false
namespace Go.Proofs.Ytfikaekocgofoaa.AtE
open Go Go.RowKit Go.Proofs.YtfikaekocgofoaaW.PrintWords Go.Proofs.YtfikaekocgofoaaW.PrintLast Go.Proofs.YtfikaekocgofoaaW.PrintMore Mem PAll KW AtA AtB Sl Dsc MayP ApP Fnd PlF Roo Awk McW ApY ApZ ApW AtK AtV AtX AtD AtC AtP Ins AtQ AtR AtS AtF AtW
open CrP hiding Od
theorem cond_eq (a b : Od) : (!(a.f0 == b.f0) || (!(a.f1 == b.f1) || (!(a.f2 == b.f2) || (!(a.f3 == b.f3) || (!(a.f4 == b.f4) || (!(a.f5 == b.f5) || (!(a.f6 == b.f6) || (!(a.f7 == b.f7))))))))) = !(eqO a b) := by
  unfold eqO
  simp only [Bool.not_and]
theorem eqO_iff' {a b : Od} : eqO a b = true ↔ a = b := by
  unfold eqO
  cases a
  cases b
  simp only [Bool.and_eq_true, beq_iff_eq, S37.mk.injEq]
instance : DecidableEq Od := fun a b => decidable_of_iff (eqO a b = true) eqO_iff'
theorem rd_get {l : List Od} {i : Nat} (h : i < l.length) : rd_T37 l (i : Int) = l[i] := by
  unfold rd_T37
  rw [Int.toNat_natCast, List.getD_eq_getElem?_getD, List.getElem?_eq_getElem h]
  rfl
theorem drop_eq {l l' : List Od} {i : Nat} (h : i < l.length) (h' : i < l'.length) : decide (l.drop i = l'.drop i) = (eqO l[i] l'[i] && decide (l.drop (i + 1) = l'.drop (i + 1))) := by
  rw [List.drop_eq_getElem_cons h, List.drop_eq_getElem_cons h', Bool.eq_iff_iff]
  simp only [Bool.and_eq_true, decide_eq_true_eq, List.cons.injEq, eqO_iff']
theorem wrap_succ {i n : Nat} (h : i < n) (hn : n ≤ 9223372036854775807) : wrap64 ((i : Int) + 1) = ((i + 1 : Nat) : Int) := by
  unfold wrap64
  omega
theorem rsame_l0 (e k m p d e' k' m' p' d' : Int) (l l' : List Od) (hlen : l.length = l'.length) (hm : l.length ≤ 9223372036854775807) : ∀ (r i : Nat), i + r = l.length → ∃ K, mooringref13_Same.l0 K (i : Int) e k m p d l e' k' m' p' d' l' = some (decide (l.drop i = l'.drop i)) := by
  intro r
  induction r with
  | zero =>
    intro i hi
    refine ⟨1, ?_⟩
    simp only [mooringref13_Same.l0]
    rw [if_neg (by omega), List.drop_eq_nil_of_le (by omega), List.drop_eq_nil_of_le (by omega)]
    simp
  | succ r ih =>
    intro i hi
    obtain ⟨K, hK⟩ := ih (i + 1) (by omega)
    have h1 : i < l.length := by omega
    have h2 : i < l'.length := by omega
    refine ⟨K + 1, ?_⟩
    simp only [mooringref13_Same.l0]
    rw [if_pos (by omega), if_pos (by omega), if_pos (by omega), rd_get h1, rd_get h2, cond_eq, drop_eq h1 h2, wrap_succ h1 hm]
    cases hq : eqO l[i] l'[i]
    · rfl
    · rw [if_neg (by decide), hK]
      rfl
theorem asame_l0 (l l' : List Od) (hlen : l.length = l'.length) (hm : l.length ≤ 9223372036854775807) : ∀ (r i : Nat), i + r = l.length → ∃ K, api_Osd.l0 K l l' (l.length : Int) (i : Int) = some (decide (l.drop i = l'.drop i)) := by
  intro r
  induction r with
  | zero =>
    intro i hi
    refine ⟨1, ?_⟩
    simp only [api_Osd.l0]
    rw [if_neg (by omega), List.drop_eq_nil_of_le (by omega), List.drop_eq_nil_of_le (by omega)]
    simp
  | succ r ih =>
    intro i hi
    obtain ⟨K, hK⟩ := ih (i + 1) (by omega)
    have h1 : i < l.length := by omega
    have h2 : i < l'.length := by omega
    refine ⟨K + 1, ?_⟩
    simp only [api_Osd.l0]
    rw [if_pos (by omega), if_pos (by omega), if_pos (by omega), if_pos (by omega), rd_get h1, rd_get h2, cond_eq, drop_eq h1 h2, wrap_succ h1 hm]
    cases hq : eqO l[i] l'[i]
    · rfl
    · rw [if_neg (by decide), hK]
      rfl
def sameB (e k m p d : Int) (l : List Od) (e' k' m' p' d' : Int) (l' : List Od) : Bool := (e == e' && (k == k' && (m == m' && (p == p' && d == d')))) && decide (l = l')
theorem same_self (e k m p d : Int) (l : List Od) : sameB e k m p d l e k m p d l = true := by unfold sameB; simp
theorem rsame_f (e k m p d e' k' m' p' d' : Int) (l l' : List Od) (hm : l.length ≤ 9223372036854775807) : ∃ K, mooringref13_Same.f K e k m p d l e' k' m' p' d' l' = some (sameB e k m p d l e' k' m' p' d' l') := by
  by_cases he : e = e'
  · have q1 : (e == e') = true := by simpa using he
    cases hp : (k == k' && (m == m' && (p == p' && d == d'))) with
    | false =>
      refine ⟨1, ?_⟩
      unfold mooringref13_Same.f sameB
      rw [if_pos he, q1, hp, if_pos (by rw [show (!(k == k') || (!(m == m') || (!(p == p') || !(d == d')))) = !(k == k' && (m == m' && (p == p' && d == d'))) by simp only [Bool.not_and], hp]; rfl)]
      rfl
    | true =>
      by_cases hl : l.length = l'.length
      · obtain ⟨K, hK⟩ := rsame_l0 e k m p d e' k' m' p' d' l l' hl hm l.length 0 (by omega)
        refine ⟨K + 1, ?_⟩
        unfold mooringref13_Same.f sameB
        rw [if_pos he, q1, hp, if_neg (by rw [show (!(k == k') || (!(m == m') || (!(p == p') || !(d == d')))) = !(k == k' && (m == m' && (p == p' && d == d'))) by simp only [Bool.not_and], hp]; decide)]
        simp only [mooringref13_Same.j0]
        rw [if_neg (by simp [hl])]
        rw [List.drop_zero, List.drop_zero] at hK
        exact hK
      · refine ⟨1, ?_⟩
        unfold mooringref13_Same.f sameB
        rw [if_pos he, q1, hp, if_neg (by rw [show (!(k == k') || (!(m == m') || (!(p == p') || !(d == d')))) = !(k == k' && (m == m' && (p == p' && d == d'))) by simp only [Bool.not_and], hp]; decide)]
        simp only [mooringref13_Same.j0]
        have hb : ((l.length : Int) != (l'.length : Int)) = true := by simp; omega
        rw [if_pos hb, decide_eq_false (fun h => hl (congrArg List.length h))]
        rfl
  · refine ⟨1, ?_⟩
    unfold mooringref13_Same.f sameB
    have q1 : (e == e') = false := by simpa using he
    rw [if_neg he, q1]
    rfl
theorem asame_f (e k m p d e' k' m' p' d' : Int) (l l' : List Od) (hm : l.length ≤ 9223372036854775807) : ∃ K, atlas_Same.f K e k m p d l e' k' m' p' d' l' = some (sameB e k m p d l e' k' m' p' d' l') := by
  by_cases he : e = e'
  · have q1 : (e == e') = true := by simpa using he
    cases hp : (k == k' && (m == m' && (p == p' && d == d'))) with
    | false =>
      refine ⟨1, ?_⟩
      unfold atlas_Same.f sameB
      rw [if_pos he, q1, hp, if_neg (by decide)]
      rfl
    | true =>
      by_cases hl : l.length = l'.length
      · obtain ⟨K, hK⟩ := asame_l0 l l' hl hm l.length 0 (by omega)
        refine ⟨K, ?_⟩
        unfold atlas_Same.f sameB
        rw [if_pos he, q1, hp, if_pos rfl]
        unfold api_Osd.f
        rw [List.drop_zero, List.drop_zero] at hK
        rw [if_pos (by omega)]
        have e0 : ((0 : Nat) : Int) = 0 := rfl
        rw [e0] at hK
        rw [hK]
        rfl
      · refine ⟨1, ?_⟩
        unfold atlas_Same.f sameB
        rw [if_pos he, q1, hp, if_pos rfl]
        unfold api_Osd.f
        rw [if_neg (by omega), decide_eq_false (fun h => hl (congrArg List.length h))]
        rfl
  · refine ⟨1, ?_⟩
    unfold atlas_Same.f sameB
    have q1 : (e == e') = false := by simpa using he
    rw [if_neg he, q1]
    rfl
section
variable (e k m p d : Int) (A : Option Addr) (c : Nat) (l : List Od) (e' k' m' p' d' : Int) (A' : Option Addr) (c' : Nat) (l' : List Od) (w : World)
theorem rsame_calls (hx : kO.C w A l.length l) (hc : l.length ≤ c) (hx' : kO.C w A' l'.length l') (hc' : l'.length ≤ c') : Calls Try.prog 12 #[.agg (boxM e k m p d A c l), .agg (boxM e' k' m' p' d' A' c' l')] w fun en w' => en = .returned (.bool (sameB e k m p d l e' k' m' p' d' l')) ∧ Below w.heap.size w w' := by
  obtain ⟨K, hK⟩ := rsame_f e k m p d e' k' m' p' d' l l' hx.2.1
  exact mooringref13_Same.calls K e k m p d A c l e' k' m' p' d' A' c' l' _ w hx hc hx' hc' hK
theorem asame_calls (hx : kO.C w A l.length l) (hc : l.length ≤ c) (hx' : kO.C w A' l'.length l') (hc' : l'.length ≤ c') : Calls Try.prog 14 #[.agg (boxM e k m p d A c l), .agg (boxM e' k' m' p' d' A' c' l')] w fun en w' => en = .returned (.bool (sameB e k m p d l e' k' m' p' d' l')) ∧ Below w.heap.size w w' := by
  obtain ⟨K, hK⟩ := asame_f e k m p d e' k' m' p' d' l l' hx.2.1
  exact atlas_Same.calls K e k m p d A c l e' k' m' p' d' A' c' l' _ w hx hc hx' hc' hK
end
end Go.Proofs.Ytfikaekocgofoaa.AtE
/- A map's numbers, a change's numbers; their bytes; unlike ones have unlike bytes. -/
set_option linter.unusedSimpArgs false
namespace Go.Proofs.Ytfikaekocgofoaa.EnP
open Go Go.RowKit Go.Proofs.YtfikaekocgofoaaW.PrintWords Mem PAll AtA AtB MayP AtE WireP UvW Put Puo McW
open CrP hiding Od
theorem uvs_inj : ∀ (a b : List Int), Nat63 a → Nat63 b → uvs a = uvs b → a = b := by
  intro a
  induction a with
  | nil =>
    intro b _ _ h
    cases b with
    | nil => rfl
    | cons y b =>
      have h2 := congrArg List.length h
      rw [uvs_cons, List.length_append] at h2
      have := uv_pos y.toNat
      simp only [uvs_nil, List.length_nil] at h2
      omega
  | cons x a ih =>
    intro b ha hb h
    cases b with
    | nil =>
      have h2 := congrArg List.length h
      rw [uvs_cons, List.length_append] at h2
      have := uv_pos x.toNat
      simp only [uvs_nil, List.length_nil] at h2
      omega
    | cons y b =>
      rw [uvs_cons, uvs_cons] at h
      have hx := ha x (List.mem_cons_self ..)
      have hy := hb y (List.mem_cons_self ..)
      have e := uv_prefix x.toNat y.toNat (uvs b) ⟨uvs a, h⟩
      have e2 : x = y := by omega
      subst e2
      rw [ih b (fun n hn => ha n (List.mem_cons_of_mem _ hn)) (fun n hn => hb n (List.mem_cons_of_mem _ hn)) (List.append_cancel_left h)]
/-- A map's numbers ahead of its OSDs. -/
abbrev headL (ep k m p d : Int) (n : Nat) : List Int := [ep, k, m, p, d, (n : Int)]
def osdsL (l : List Od) : List Int := l.flatMap osdL
def encL (ep k m p d : Int) (l : List Od) : List Int := uvs (headL ep k m p d l.length) ++ uvs (osdsL l)
def encC (kd : Int) (o : Od) : List Int := uvs [kd] ++ uvs (osdL o)
/-- Numbers that may be read. -/
def Nat31 (l : List Int) : Prop := ∀ n ∈ l, 0 ≤ n ∧ n < 2147483648
theorem Nat31.n63 {l : List Int} (h : Nat31 l) : Nat63 l := fun n hn => by have := h n hn; omega
theorem b2i_31 (b : Bool) : 0 ≤ b2i b ∧ b2i b < 2147483648 := by cases b <;> decide
theorem osd_31 {o : Od} (h : osdB o = true) : Nat31 (osdL o) := by
  unfold osdB winB at h
  simp only [Bool.and_eq_true, decide_eq_true_eq] at h
  intro n hn
  have h1 := b2i_31 o.f1
  have h2 := b2i_31 o.f2
  simp only [osdL, List.mem_cons, List.not_mem_nil, or_false] at hn
  rcases hn with rfl | rfl | rfl | rfl | rfl | rfl | rfl | rfl <;> omega
theorem osds_31 {l : List Od} (h : ∀ o ∈ l, osdB o = true) : Nat31 (osdsL l) := by
  intro n hn
  obtain ⟨o, ho, hn⟩ := List.mem_flatMap.1 hn
  exact osd_31 (h o ho) n hn
theorem head_31 {ep k m p d : Int} {l : List Od} (h : mayB ep k m p d l = true) : Nat31 (headL ep k m p d l.length) := by
  unfold mayB poolB winB at h
  simp only [Bool.and_eq_true, decide_eq_true_eq] at h
  intro n hn
  simp only [headL, List.mem_cons, List.not_mem_nil, or_false] at hn
  rcases hn with rfl | rfl | rfl | rfl | rfl | rfl <;> omega
theorem may_all {ep k m p d : Int} {l : List Od} (h : mayB ep k m p d l = true) : ∀ o ∈ l, osdB o = true := may_osd h
theorem eqO_eq {a b : Od} (h : eqO a b = true) : a = b := eqO_iff'.1 h
theorem mayc_31 {kd : Int} {o : Od} (h : mayC kd o = true) : Nat31 (osdL o) ∧ 1 ≤ kd ∧ kd ≤ 6 := by
  unfold mayC at h
  split at h
  · exact ⟨osd_31 h, by omega, by omega⟩
  · split at h
    · simp only [Bool.and_eq_true] at h
      have e := eqO_eq h.1
      have h2 := h.2
      unfold winB McW.within1 at h2
      simp only [Bool.and_eq_true, decide_eq_true_eq] at h2
      refine ⟨?_, by omega, by omega⟩
      rw [e]
      intro n hn
      simp only [osdL, b2i, List.mem_cons, List.not_mem_nil, or_false] at hn
      rcases hn with rfl | rfl | rfl | rfl | rfl | rfl | rfl | rfl <;> (try simp only [Bool.false_eq_true, if_false]) <;> omega
    · split at h
      · simp only [Bool.and_eq_true] at h
        have e := eqO_eq h.1
        have h2 := h.2
        unfold winB at h2
        simp only [Bool.and_eq_true, decide_eq_true_eq] at h2
        refine ⟨?_, by omega, by omega⟩
        rw [e]
        intro n hn
        simp only [osdL, b2i, List.mem_cons, List.not_mem_nil, or_false] at hn
        rcases hn with rfl | rfl | rfl | rfl | rfl | rfl | rfl | rfl <;> (try simp only [Bool.false_eq_true, if_false]) <;> omega
      · split at h
        · simp only [Bool.and_eq_true] at h
          have e := eqO_eq h.1
          have h2 := h.2
          unfold winB at h2
          simp only [Bool.and_eq_true, decide_eq_true_eq] at h2
          refine ⟨?_, by omega, by omega⟩
          rw [e]
          intro n hn
          simp only [osdL, b2i, List.mem_cons, List.not_mem_nil, or_false] at hn
          rcases hn with rfl | rfl | rfl | rfl | rfl | rfl | rfl | rfl <;> (try simp only [Bool.false_eq_true, if_false]) <;> omega
        · cases h
theorem b2i_inj {a b : Bool} (h : b2i a = b2i b) : a = b := by
  cases a <;> cases b <;> first | rfl | (exact absurd h (by decide))
theorem osdL_inj {a b : Od} (h : osdL a = osdL b) : a = b := by
  simp only [osdL, List.cons.injEq] at h
  obtain ⟨h0, h1, h2, h3, h4, h5, h6, h7, _⟩ := h
  have e1 := b2i_inj h1
  have e2 := b2i_inj h2
  cases a; cases b
  simp only at h0 e1 e2 h3 h4 h5 h6 h7
  subst h0; subst e1; subst e2; subst h3; subst h4; subst h5; subst h6; subst h7
  rfl
theorem osdsL_inj : ∀ (a b : List Od), a.length = b.length → osdsL a = osdsL b → a = b := by
  intro a
  induction a with
  | nil => intro b h _; exact (List.eq_nil_of_length_eq_zero h.symm).symm
  | cons x a ih =>
    intro b h e
    cases b with
    | nil => cases h
    | cons y b =>
      unfold osdsL at e
      rw [List.flatMap_cons, List.flatMap_cons] at e
      have e2 := List.append_inj e rfl
      rw [osdL_inj e2.1, ih b (by simpa using h) e2.2]
/-- Unlike maps have unlike bytes. -/
theorem encL_inj {ep k m p d ep' k' m' p' d' : Int} {l l' : List Od} (h : mayB ep k m p d l = true) (h' : mayB ep' k' m' p' d' l' = true) : (encL ep k m p d l = encL ep' k' m' p' d' l') ↔ sameB ep k m p d l ep' k' m' p' d' l' = true := by
  constructor
  · intro e
    unfold encL at e
    rw [← uvs_append, ← uvs_append] at e
    have e2 := uvs_inj _ _ (fun n hn => by
      rcases List.mem_append.1 hn with hn | hn
      · exact (head_31 h).n63 n hn
      · exact (osds_31 (may_all h)).n63 n hn) (fun n hn => by
      rcases List.mem_append.1 hn with hn | hn
      · exact (head_31 h').n63 n hn
      · exact (osds_31 (may_all h')).n63 n hn) e
    have e3 := List.append_inj e2 rfl
    have e4 := e3.1
    simp only [headL, List.cons.injEq] at e4
    obtain ⟨g0, g1, g2, g3, g4, g5, _⟩ := e4
    have e5 := osdsL_inj l l' (by omega) e3.2
    subst g0; subst g1; subst g2; subst g3; subst g4; subst e5
    exact same_self _ _ _ _ _ _
  · intro e
    unfold sameB at e
    simp only [Bool.and_eq_true, beq_iff_eq, decide_eq_true_eq] at e
    obtain ⟨⟨g0, g1, g2, g3, g4⟩, e5⟩ := e
    subst g0; subst g1; subst g2; subst g3; subst g4; subst e5
    rfl
/-- Unlike changes have unlike bytes. -/
theorem encC_inj {kd kd' : Int} {o o' : Od} (h : mayC kd o = true) (h' : mayC kd' o' = true) : (encC kd o = encC kd' o') ↔ (kd = kd' ∧ o = o') := by
  constructor
  · intro e
    unfold encC at e
    rw [← uvs_append, ← uvs_append] at e
    have m1 := mayc_31 h
    have m2 := mayc_31 h'
    have e2 := uvs_inj _ _ (fun n hn => by
      rcases List.mem_append.1 hn with hn | hn
      · have := List.mem_singleton.1 hn; omega
      · exact m1.1.n63 n hn) (fun n hn => by
      rcases List.mem_append.1 hn with hn | hn
      · have := List.mem_singleton.1 hn; omega
      · exact m2.1.n63 n hn) e
    have e3 := List.append_inj e2 rfl
    exact ⟨by simpa using e3.1, osdL_inj e3.2⟩
  · rintro ⟨rfl, rfl⟩; rfl
theorem osdsL_take {l : List Od} {i : Nat} {o : Od} (h : l[i]? = some o) : osdsL (l.take (i + 1)) = osdsL (l.take i) ++ osdL o := by
  unfold osdsL
  rw [List.take_add_one, h, List.flatMap_append]
  congr 1
theorem osdsL_len : ∀ (l : List Od), (osdsL l).length = 8 * l.length := by
  intro l
  induction l with
  | nil => rfl
  | cons o l ih => unfold osdsL at *; rw [List.flatMap_cons, List.length_append, ih]; simp only [List.length_cons, List.length_nil]; omega
end Go.Proofs.Ytfikaekocgofoaa.EnP
/- A map's bytes, a change's bytes: the program's and the document's. -/
set_option linter.unusedSimpArgs false
namespace Go.Proofs.Ytfikaekocgofoaa.Enc
open Go Go.RowKit Go.Proofs.YtfikaekocgofoaaW.PrintWords Go.Proofs.YtfikaekocgofoaaW.PrintLast Go.Proofs.YtfikaekocgofoaaW.PrintMore Mem PAll KW AtA AtB Sl Dsc MayP ApP Fnd PlF Roo Awk McW ApY ApZ ApW AtK AtV AtX AtD AtC AtP Ins AtQ AtR AtS AtF AtW AtE WireP UvW Put Puo EnP
open CrP hiding Od
theorem eqA39 (d : Nat) (w : World) (x0 y0 : Int) (x1 y1 : Int) (x2 y2 : Bool) (x3 y3 : Bool) (x4 y4 : Int) (x5 y5 : Int) (x6 y6 : Int) (x7 y7 : Int) (x8 y8 : Int) :
    (Op.equalIn (d + 3) 39 (.agg #[.int .i64 x0, .int .i64 x1, .bool x2, .bool x3, .int .i64 x4, .int .i64 x5, .int .i64 x6, .int .i64 x7, .int .i64 x8]) (.agg #[.int .i64 y0, .int .i64 y1, .bool y2, .bool y3, .int .i64 y4, .int .i64 y5, .int .i64 y6, .int .i64 y7, .int .i64 y8])).run Try.prog w = .ok (x0 == y0 && ((x1 == y1 && (x2 == y2 && (x3 == y3 && (x4 == y4 && (x5 == y5 && (x6 == y6 && (x7 == y7 && (x8 == y8)))))))))) w := by
  refine eqA_of Try.underlying39 (by kernel_rfl) ?_
  refine eqf_cons (by rfl) (by go_simp; rfl) (by go_simp; rfl) (by go_simp) ?_
  exact eqf_last (by rfl) (by go_simp) (by go_simp) (eqA37 (d + 0) w _ _ _ _ _ _ _ _ _ _ _ _ _ _ _ _)
theorem eql_C (kd : Int) (a : Od) (kd' : Int) (b : Od) (W : World) : (binOp .eql 39 (.agg #[.int .i64 kd, .int .i64 a.f0, .bool a.f1, .bool a.f2, .int .i64 a.f3, .int .i64 a.f4, .int .i64 a.f5, .int .i64 a.f6, .int .i64 a.f7]) (.agg #[.int .i64 kd', .int .i64 b.f0, .bool b.f1, .bool b.f2, .int .i64 b.f3, .int .i64 b.f4, .int .i64 b.f5, .int .i64 b.f6, .int .i64 b.f7])).run Try.prog W = .ok (.bool (kd == kd' && eqO a b)) W := by
  have h := fun d => eqA39 d W kd kd' a.f0 b.f0 a.f1 b.f1 a.f2 b.f2 a.f3 b.f3 a.f4 b.f4 a.f5 b.f5 a.f6 b.f6 a.f7 b.f7
  unfold eqO
  go_simp
section
variable (ep k m p d : Int) (A : Option Addr) (c : Nat) (l : List Od) (w : World)
theorem enc_len {i : Nat} (h : mayB ep k m p d l = true) : (uvs (headL ep k m p d l.length) ++ uvs (osdsL (l.take i))).length ≤ 5300 := by
  have h1 := uvs_len (head_31 h).n63
  have h2 := uvs_len (l := osdsL (l.take i)) (fun n hn => by
    obtain ⟨o, ho, hn⟩ := List.mem_flatMap.1 hn
    exact (osd_31 (may_all h o (List.mem_of_mem_take ho))).n63 n hn)
  rw [osdsL_len, List.length_take] at h2
  have h3 := (may_good h).1
  simp only [List.length_cons, List.length_nil] at h1
  rw [List.length_append]
  omega
set_option maxHeartbeats 4000000 in
theorem aenc_bad (hx : kO.C w A l.length l) (hwf : WfL l) (hm : mayB ep k m p d l = false) : Calls Try.prog 16 #[.agg (boxM ep k m p d A c l)] w fun e w' => e = .returned (.tuple #[.slice none 0 0, .int .i64 1]) ∧ Below w.heap.size w w' := by
  unfold boxM
  have HC1 := Lib.hid (Kd.C_alloc hx (.cells #[.int .i64 ep, .int .i64 k, .int .i64 m, .int .i64 p, .int .i64 d, .slice A l.length c] 28))
  have HB1 := Lib.hid (below_alloc (Below.refl w.heap.size w) (.cells #[.int .i64 ep, .int .i64 k, .int .i64 m, .int .i64 p, .int .i64 d, .slice A l.length c] 28))
  have HM1 : Hid ((w.alloc (.cells #[.int .i64 ep, .int .i64 k, .int .i64 m, .int .i64 p, .int .i64 d, .slice A l.length c] 28)).heap[w.heap.size]? = some (.cells #[.int .i64 ep, .int .i64 k, .int .i64 m, .int .i64 p, .int .i64 d, .slice A l.length c] 28 (0, 0))) := Lib.hid (blk_new _ _)
  obtain ⟨w1, hw1⟩ : ∃ w1, w1 = w.alloc (.cells #[.int .i64 ep, .int .i64 k, .int .i64 m, .int .i64 p, .int .i64 d, .slice A l.length c] 28) := ⟨_, rfl⟩
  have HWN := Lib.hid hw1
  rw [← hw1] at HC1 HB1 HM1
  have T := Lib.hid (check_calls ep k m p d A c l w1 HC1.out hwf)
  rw [hm, if_neg (by decide)] at T
  have HMB := Lib.hid hm
  unfold boxM at T
  have y0 := blk_cell HM1.out 0
  have y1 := blk_cell HM1.out 1
  have y2 := blk_cell HM1.out 2
  have y3 := blk_cell HM1.out 3
  have y4 := blk_cell HM1.out 4
  have y5 := blk_cell HM1.out 5
  rw [HWN.out] at y0 y1 y2 y3 y4 y5
  clear hx hwf hm hw1
  go_enter Try.func16, Try.ntmps16
  go_wp2_with fail
  rw [← HWN.out]
  refine T.out.mono ?_
  rintro e w2 ⟨rfl, hb⟩
  have HB2 := Lib.hid (below_then HB1.out HB1.out.size hb)
  clear hb T y0 y1 y2 y3 y4 y5
  go_wp2_with fail
  go_ret2
  exact ⟨rfl, HB2.out⟩
set_option maxHeartbeats 8000000 in
set_option maxRecDepth 100000 in
theorem aenc_ok (hx : kO.C w A l.length l) (hm : mayB ep k m p d l = true) : Calls Try.prog 16 #[.agg (boxM ep k m p d A c l)] w fun e w' => ∃ (B : Option Addr) (cb : Nat), e = .returned (.tuple #[.slice B (encL ep k m p d l).length cb, .int .i64 0]) ∧ (encL ep k m p d l).length ≤ cb ∧ BK.C w' B (encL ep k m p d l).length (encL ep k m p d l) ∧ Below w.heap.size w w' := by
  have hwf := wf_may hm
  unfold boxM
  have HC1 := Lib.hid (Kd.C_alloc hx (.cells #[.int .i64 ep, .int .i64 k, .int .i64 m, .int .i64 p, .int .i64 d, .slice A l.length c] 28))
  have HB1 := Lib.hid (below_alloc (Below.refl w.heap.size w) (.cells #[.int .i64 ep, .int .i64 k, .int .i64 m, .int .i64 p, .int .i64 d, .slice A l.length c] 28))
  have HM1 : Hid ((w.alloc (.cells #[.int .i64 ep, .int .i64 k, .int .i64 m, .int .i64 p, .int .i64 d, .slice A l.length c] 28)).heap[w.heap.size]? = some (.cells #[.int .i64 ep, .int .i64 k, .int .i64 m, .int .i64 p, .int .i64 d, .slice A l.length c] 28 (0, 0))) := Lib.hid (blk_new _ _)
  obtain ⟨w1, hw1⟩ : ∃ w1, w1 = w.alloc (.cells #[.int .i64 ep, .int .i64 k, .int .i64 m, .int .i64 p, .int .i64 d, .slice A l.length c] 28) := ⟨_, rfl⟩
  have HWN := Lib.hid hw1
  rw [← hw1] at HC1 HB1 HM1
  have T := Lib.hid (check_calls ep k m p d A c l w1 HC1.out hwf)
  rw [hm, if_pos rfl] at T
  have HMB := Lib.hid hm
  unfold boxM at T
  have HC0 := Lib.hid hx
  have y0 := blk_cell HM1.out 0
  have y1 := blk_cell HM1.out 1
  have y2 := blk_cell HM1.out 2
  have y3 := blk_cell HM1.out 3
  have y4 := blk_cell HM1.out 4
  have y5 := blk_cell HM1.out 5
  rw [HWN.out] at y0 y1 y2 y3 y4 y5
  clear hx hwf hm hw1
  go_enter Try.func16, Try.ntmps16
  go_wp2_with fail
  rw [← HWN.out]
  refine T.out.mono ?_
  rintro e w2 ⟨rfl, hb⟩
  have HB2 := Lib.hid (below_then HB1.out HB1.out.size hb)
  have HM2 := Lib.hid (blk_below HM1.out hb)
  clear hb T y0 y1 y2 y3 y4 y5 HC1 HB1 HM1 HWN
  have y0 := blk_cell HM2.out 0
  have y1 := blk_cell HM2.out 1
  have y2 := blk_cell HM2.out 2
  have y3 := blk_cell HM2.out 3
  have y4 := blk_cell HM2.out 4
  have y5 := blk_cell HM2.out 5
  go_wp2_with fail
  refine (put_calls none 0 [] (some ⟨w2.heap.size, 0, none⟩) 6 (headL ep k m p d l.length) _ (Nat.le_refl _) ?hnil (C_lit (headL ep k m p d l.length) #[.int .i64 ep, .int .i64 k, .int .i64 m, .int .i64 p, .int .i64 d, .int .i64 (l.length : Int)] _ rfl (Nat.le_of_ble_eq_true rfl)) (head_31 HMB.out).n63 (by simp only [List.length_cons, List.length_nil]; omega)).mono ?_
  case hnil => exact (ow0 _ 0).reads.elim (fun A' h => by obtain ⟨c', e, _, h⟩ := h; cases e; exact h)
  rintro e w3 ⟨B0, cb0, rfl, hcb, hCB, hb⟩
  rw [List.nil_append] at hcb hCB
  have HB3 := Lib.hid (below_then (below_alloc HB2.out _) (below_alloc HB2.out _).size hb)
  have HM3 := Lib.hid (blk_below (blk_alloc HM2.out _) hb)
  obtain ⟨hd, hhd⟩ : ∃ hd, hd = uvs (headL ep k m p d l.length) := ⟨_, rfl⟩
  rw [List.nil_append, ← hhd]
  rw [← hhd] at hcb hCB
  have HHD := Lib.hid hhd
  have HCB := Lib.hid hcb
  have HBB := Lib.hid hCB
  clear y0 y1 y2 y3 y4 y5 HB2 HM2 hb hhd hcb hCB
  have y5 := blk_cell HM3.out 5
  go_wp2_with fail
  clear y5
  go_loopw [5, 35] (fun b' i' wr => ∃ (i : Nat) (B : Option Addr) (ys : List Int) (cb : Nat), b' = .slice B ys.length cb ∧ i' = .int .i64 i ∧ Hid (i ≤ l.length) ∧ Hid (ys = hd ++ uvs (osdsL (l.take i))) ∧ Hid (ys.length ≤ cb) ∧ Hid (BK.C wr B ys.length ys) ∧ Hid (Below w.heap.size w wr)) (fun _ i' _ => (l.length - intOf i').toNat)
  case atStart => exact ⟨0, B0, hd, cb0, rfl, rfl, Lib.hid (Nat.zero_le _), Lib.hid (by rw [List.take_zero]; exact (List.append_nil _).symm), HCB, HBB, HB3⟩
  case round =>
    obtain ⟨i, B, ys, cb, rfl, rfl, HI, HY, HCY, HBY, HB⟩ := hrel
    have hl64 := (may_good HMB.out).1
    by_cases h : i < l.length
    · have hlt : decide (i < l.length) = true := decide_eq_true h
      have hlt2 : decide ((i : Int) < (l.length : Int)) = true := decide_eq_true (by omega)
      have i0 : (0 : Int) ≤ i := by omega
      obtain ⟨ad, o, ho, hA, a0, a1, a2, a3, a4, a5, a6, a7⟩ := AtA.at_O (Kd.C_below HC0.out HB.out) i h
      subst hA
      have HON := Lib.hid ho
      have HLT := Lib.hid h
      have HNO := Lib.hid (osd_31 (may_all HMB.out o (List.mem_of_getElem? ho))).n63
      have HLY : Hid (ys.length + 100 ≤ 140737488355328) := Lib.hid (by
        have h1 := enc_len ep k m p d l (i := i) HMB.out
        rw [HY.out, HHD.out]
        omega)
      have HOB4 : Hid ((wr.alloc (.cells #[.int .i64 o.f0, .bool o.f1, .bool o.f2, .int .i64 o.f3, .int .i64 o.f4, .int .i64 o.f5, .int .i64 o.f6, .int .i64 o.f7] 37)).heap[wr.heap.size]? = some (.cells #[.int .i64 o.f0, .bool o.f1, .bool o.f2, .int .i64 o.f3, .int .i64 o.f4, .int .i64 o.f5, .int .i64 o.f6, .int .i64 o.f7] 37 (0, 0))) := Lib.hid (blk_new wr _)
      have HB4 := Lib.hid (below_alloc HB.out (.cells #[.int .i64 o.f0, .bool o.f1, .bool o.f2, .int .i64 o.f3, .int .i64 o.f4, .int .i64 o.f5, .int .i64 o.f6, .int .i64 o.f7] 37))
      have HBY4 := Lib.hid (Kd.C_alloc HBY.out (.cells #[.int .i64 o.f0, .bool o.f1, .bool o.f2, .int .i64 o.f3, .int .i64 o.f4, .int .i64 o.f5, .int .i64 o.f6, .int .i64 o.f7] 37))
      obtain ⟨z0, z1, z2, z3, z4, z5, z6, z7⟩ := blkO HOB4.out
      clear h ho HB HBY
      go_wp2_with fail
      obtain ⟨w4, hw4⟩ : ∃ w4, w4 = wr.alloc (.cells #[.int .i64 o.f0, .bool o.f1, .bool o.f2, .int .i64 o.f3, .int .i64 o.f4, .int .i64 o.f5, .int .i64 o.f6, .int .i64 o.f7] 37) := ⟨_, rfl⟩
      rw [← hw4] at HB4 HBY4 ⊢
      clear hw4 a0 a1 a2 a3 a4 a5 a6 a7 z0 z1 z2 z3 z4 z5 z6 z7 HOB4
      refine (aputOsd_calls B cb ys o w4 HCY.out HBY4.out HNO.out HLY.out).mono ?_
      rintro e w5 ⟨B5, c5, rfl, h1, h2, hb⟩
      obtain ⟨zs, hzs⟩ : ∃ zs, zs = ys ++ uvs (osdL o) := ⟨_, rfl⟩
      rw [← hzs] at h1 h2 ⊢
      have HZ := Lib.hid hzs
      have HC5 := Lib.hid h1
      have HB5C := Lib.hid h2
      have HB5 := Lib.hid (below_then HB4.out HB4.out.size hb)
      clear h1 h2 hb hzs HB4 HBY4
      go_wp2_with fail
      go_roundw
      case rel =>
        refine ⟨i + 1, B5, zs, c5, rfl, by go_num, Lib.hid (by have := HLT.out; omega), Lib.hid ?_, HC5, HB5C, HB5⟩
        rw [HZ.out, HY.out, osdsL_take HON.out, uvs_append, List.append_assoc]
      case measure => have := HLT.out; simp only [intOf]; omega
    · obtain rfl : i = l.length := by have := HI.out; omega
      have hlt : decide (l.length < l.length) = false := decide_eq_false (Nat.lt_irrefl _)
      have hlt2 : decide ((l.length : Int) < (l.length : Int)) = false := decide_eq_false (by omega)
      clear h hl64
      have hy : ys = encL ep k m p d l := by rw [HY.out, List.take_length, HHD.out]; rfl
      subst hy
      clear HY
      go_wp2_with fail
      go_ret2
      exact ⟨B, cb, rfl, HCY.out, HBY.out, HB.out⟩
end
set_option maxHeartbeats 4000000 in
set_option maxRecDepth 100000 in
theorem aencc_bad (kd : Int) (o : Od) (w : World) (hm : mayC kd o = false) : Calls Try.prog 17 #[.agg (chA kd o)] w fun e w' => e = .returned (.tuple #[.slice none 0 0, .int .i64 1]) ∧ Below w.heap.size w w' := by
  unfold chA
  have HB1 := Lib.hid (below_alloc (Below.refl w.heap.size w) (.cells #[.int .i64 kd, .int .i64 o.f0, .bool o.f1, .bool o.f2, .int .i64 o.f3, .int .i64 o.f4, .int .i64 o.f5, .int .i64 o.f6, .int .i64 o.f7] 39))
  have HM1 : Hid ((w.alloc (.cells #[.int .i64 kd, .int .i64 o.f0, .bool o.f1, .bool o.f2, .int .i64 o.f3, .int .i64 o.f4, .int .i64 o.f5, .int .i64 o.f6, .int .i64 o.f7] 39)).heap[w.heap.size]? = some (.cells #[.int .i64 kd, .int .i64 o.f0, .bool o.f1, .bool o.f2, .int .i64 o.f3, .int .i64 o.f4, .int .i64 o.f5, .int .i64 o.f6, .int .i64 o.f7] 39 (0, 0))) := Lib.hid (blk_new _ _)
  obtain ⟨w1, hw1⟩ : ∃ w1, w1 = w.alloc (.cells #[.int .i64 kd, .int .i64 o.f0, .bool o.f1, .bool o.f2, .int .i64 o.f3, .int .i64 o.f4, .int .i64 o.f5, .int .i64 o.f6, .int .i64 o.f7] 39) := ⟨_, rfl⟩
  have HWN := Lib.hid hw1
  rw [← hw1] at HB1 HM1
  have T := Lib.hid (checkc_calls kd o w1)
  rw [hm, if_neg (by decide)] at T
  unfold chA at T
  have HMB := Lib.hid hm
  have y0 := blk_cell HM1.out 0
  have y1 := blk_cell HM1.out 1
  have y2 := blk_cell HM1.out 2
  have y3 := blk_cell HM1.out 3
  have y4 := blk_cell HM1.out 4
  have y5 := blk_cell HM1.out 5
  have y6 := blk_cell HM1.out 6
  have y7 := blk_cell HM1.out 7
  have y8 := blk_cell HM1.out 8
  rw [HWN.out] at y0 y1 y2 y3 y4 y5 y6 y7 y8
  clear hm hw1
  go_enter Try.func17, Try.ntmps17
  go_wp2_with fail
  rw [← HWN.out]
  refine T.out.mono ?_
  rintro e w2 ⟨rfl, hb⟩
  have HB2 := Lib.hid (below_then HB1.out HB1.out.size hb)
  clear hb T y0 y1 y2 y3 y4 y5 y6 y7 y8
  go_wp2_with fail
  go_ret2
  exact ⟨rfl, HB2.out⟩
set_option maxHeartbeats 4000000 in
set_option maxRecDepth 100000 in
theorem aencc_ok (kd : Int) (o : Od) (w : World) (hm : mayC kd o = true) : Calls Try.prog 17 #[.agg (chA kd o)] w fun e w' => ∃ (B : Option Addr) (cb : Nat), e = .returned (.tuple #[.slice B (encC kd o).length cb, .int .i64 0]) ∧ (encC kd o).length ≤ cb ∧ BK.C w' B (encC kd o).length (encC kd o) ∧ Below w.heap.size w w' := by
  unfold chA
  have HB1 := Lib.hid (below_alloc (Below.refl w.heap.size w) (.cells #[.int .i64 kd, .int .i64 o.f0, .bool o.f1, .bool o.f2, .int .i64 o.f3, .int .i64 o.f4, .int .i64 o.f5, .int .i64 o.f6, .int .i64 o.f7] 39))
  have HM1 : Hid ((w.alloc (.cells #[.int .i64 kd, .int .i64 o.f0, .bool o.f1, .bool o.f2, .int .i64 o.f3, .int .i64 o.f4, .int .i64 o.f5, .int .i64 o.f6, .int .i64 o.f7] 39)).heap[w.heap.size]? = some (.cells #[.int .i64 kd, .int .i64 o.f0, .bool o.f1, .bool o.f2, .int .i64 o.f3, .int .i64 o.f4, .int .i64 o.f5, .int .i64 o.f6, .int .i64 o.f7] 39 (0, 0))) := Lib.hid (blk_new _ _)
  obtain ⟨w1, hw1⟩ : ∃ w1, w1 = w.alloc (.cells #[.int .i64 kd, .int .i64 o.f0, .bool o.f1, .bool o.f2, .int .i64 o.f3, .int .i64 o.f4, .int .i64 o.f5, .int .i64 o.f6, .int .i64 o.f7] 39) := ⟨_, rfl⟩
  have HWN := Lib.hid hw1
  rw [← hw1] at HB1 HM1
  have T := Lib.hid (checkc_calls kd o w1)
  rw [hm, if_pos rfl] at T
  unfold chA at T
  have HMB := Lib.hid hm
  have y0 := blk_cell HM1.out 0
  have y1 := blk_cell HM1.out 1
  have y2 := blk_cell HM1.out 2
  have y3 := blk_cell HM1.out 3
  have y4 := blk_cell HM1.out 4
  have y5 := blk_cell HM1.out 5
  have y6 := blk_cell HM1.out 6
  have y7 := blk_cell HM1.out 7
  have y8 := blk_cell HM1.out 8
  rw [HWN.out] at y0 y1 y2 y3 y4 y5 y6 y7 y8
  clear hm hw1
  go_enter Try.func17, Try.ntmps17
  go_wp2_with fail
  rw [← HWN.out]
  refine T.out.mono ?_
  rintro e w2 ⟨rfl, hb⟩
  have HB2 := Lib.hid (below_then HB1.out HB1.out.size hb)
  have HM2 := Lib.hid (blk_below HM1.out hb)
  clear hb T y0 y1 y2 y3 y4 y5 y6 y7 y8 HM1 HB1 HWN
  have y0 := blk_cell HM2.out 0
  have y1 := blk_cell HM2.out 1
  have y2 := blk_cell HM2.out 2
  have y3 := blk_cell HM2.out 3
  have y4 := blk_cell HM2.out 4
  have y5 := blk_cell HM2.out 5
  have y6 := blk_cell HM2.out 6
  have y7 := blk_cell HM2.out 7
  have y8 := blk_cell HM2.out 8
  have HNK : Hid (Nat63 [kd]) := Lib.hid (fun n hn => by have := List.mem_singleton.1 hn; have := (mayc_31 HMB.out).2; omega)
  have HNO := Lib.hid (mayc_31 HMB.out).1.n63
  have HKL : Hid ((uvs [kd]).length ≤ 10) := Lib.hid (uvs_len HNK.out)
  go_wp2_with fail
  have hB0 := Lib.hid (below_drew (Below.refl w2.heap.size w2))
  refine start_ (n := 9) (S := fun w' => Below w2.heap.size w2 w') (ds := [6]) #[false, false, false, false, false, false, false, false, false] (by kernel_rfl) rfl rfl hB0.out (fun hHeld => ?_)
  generalize w2.drew = wd at hB0 hHeld ⊢
  refine pure_ (i := 0) (N := some 10) (v := ?_) (a' := ?_) #[true, false, false, false, false, false, false, false, false] rfl rfl (by kernel_rfl) (fun _ _ _ h => h) (Or.inl ⟨by rfl, ?_⟩) ?_ ?_
  rotate_left
  · intro w'
    go_simp
    with_reducible rfl
  rotate_left
  · simp only [Act.put, List.setIfInBounds_toArray, List.set_cons_zero, List.set_cons_succ, i64_w, i32_w]
    rfl
  refine pure_ (i := 4) (N := some 14) (v := ?_) (a' := ?_) #[true, false, false, false, true, false, false, false, false] rfl rfl (by kernel_rfl) (fun _ _ _ h => h) (Or.inl ⟨by rfl, ?_⟩) ?_ ?_
  rotate_left
  · intro w'
    go_simp
    with_reducible rfl
  rotate_left
  · simp only [Act.put, List.setIfInBounds_toArray, List.set_cons_zero, List.set_cons_succ, i64_w, i32_w]
    rfl
  refine take_ (i := 1) (N := some 11) (v := ?_) (a' := ?_) #[true, true, false, false, true, false, false, false, false] rfl rfl (by kernel_rfl) (fun _ _ _ h => h) (Or.inl ⟨by rfl, ?_⟩) hHeld ?_ ?_
  rotate_left
  · rintro w' hS
    have c0 := (hS.cell (World.block_lt_of_cell? _ _ y0)).trans y0
    go_simp
    with_reducible rfl
  rotate_left
  · simp only [Act.put, List.setIfInBounds_toArray, List.set_cons_zero, List.set_cons_succ, i64_w, i32_w]
    rfl
  refine take_ (i := 5) (N := some 15) (v := ?_) (a' := ?_) #[true, true, false, false, true, true, false, false, false] rfl rfl (by kernel_rfl) (fun _ _ _ h => h) (Or.inl ⟨by rfl, ?_⟩) hHeld ?_ ?_
  rotate_left
  · rintro w' hS
    have c1 := (hS.cell (World.block_lt_of_cell? _ _ y1)).trans y1
    have c2 := (hS.cell (World.block_lt_of_cell? _ _ y2)).trans y2
    have c3 := (hS.cell (World.block_lt_of_cell? _ _ y3)).trans y3
    have c4 := (hS.cell (World.block_lt_of_cell? _ _ y4)).trans y4
    have c5 := (hS.cell (World.block_lt_of_cell? _ _ y5)).trans y5
    have c6 := (hS.cell (World.block_lt_of_cell? _ _ y6)).trans y6
    have c7 := (hS.cell (World.block_lt_of_cell? _ _ y7)).trans y7
    have c8 := (hS.cell (World.block_lt_of_cell? _ _ y8)).trans y8
    go_simp
    with_reducible rfl
  rotate_left
  · simp only [Act.put, List.setIfInBounds_toArray, List.set_cons_zero, List.set_cons_succ, i64_w, i32_w]
    rfl
  refine one_ (i := 2) (N := some 12) #[true, true, true, false, true, true, false, false, false] rfl rfl (by kernel_rfl) (by decide) (fun K hK => ?_)
  refine value_ (w1 := ?_) (v := ?_) (by rfl) rfl ?_ ?_
  rotate_left 2
  · go_simp
    constructor
    · rfl
    · rfl
  refine hK.out _ _ (below_alloc hB0.out _) (fun hHeld => ?_)
  clear hK K
  refine norm_ (a' := ?_) ?_ ?_
  rotate_left
  · show Act.put _ (some 12) _ = _
    simp only [Act.put, List.setIfInBounds_toArray, List.set_cons_zero, List.set_cons_succ, i64_w, i32_w]
    rfl
  refine one_ (i := 3) (N := some 13) #[true, true, true, true, true, true, false, false, false] rfl rfl (by kernel_rfl) (by decide) (fun K hK => ?_)
  refine goes_ Try.func37 (by kernel_rfl) rfl #[.slice none 0 0, .slice (some ⟨wd.heap.size, 0, none⟩) 1 1] (by rfl) rfl rfl (by (try simp only [List.map_toArray, List.map_cons, List.map_nil]); first | done | rfl | (go_simp; done) | (go_simp; rfl)) ?_
  refine (put_calls none 0 [] (some ⟨wd.heap.size, 0, none⟩) 1 [kd] _ (Nat.le_refl _) ?hnil (C_lit [kd] #[.int .i64 kd] _ rfl (Nat.le_of_ble_eq_true rfl)) HNK.out (by simp only [List.length_cons, List.length_nil]; omega)).mono ?_
  case hnil => exact (ow0 _ 0).reads.elim (fun A' h => by obtain ⟨c', e, _, h⟩ := h; cases e; exact h)
  rintro e w13 ⟨B0, cb0, rfl, hcb, hCB, hb⟩
  rw [List.nil_append] at hcb hCB
  refine ⟨_, rfl, ?_⟩
  have hB3 := Lib.hid (below_then (below_alloc hB0.out _) (below_alloc hB0.out _).size hb)
  obtain ⟨hd, hhd⟩ : ∃ hd, hd = uvs [kd] := ⟨_, rfl⟩
  rw [List.nil_append, ← hhd]
  rw [← hhd] at hcb hCB HKL
  have HHD := Lib.hid hhd
  have HCB := Lib.hid hcb
  have HBB := Lib.hid hCB
  clear hb hhd hcb hCB hB0
  refine hK.out _ _ hB3.out (fun hHeld => ?_)
  clear hK K
  refine norm_ (a' := ?_) ?_ ?_
  rotate_left
  · show Act.put _ (some 13) _ = _
    simp only [Act.put, List.setIfInBounds_toArray, List.set_cons_zero, List.set_cons_succ, i64_w, i32_w]
    rfl
  refine last_ (i := 6) (N := some 16) #[true, true, true, true, true, true, true, false, false] rfl rfl (by kernel_rfl) (by decide) (fun K hK => ?_)
  refine goes_ Try.func38 (by kernel_rfl) rfl #[.slice B0 hd.length cb0, .agg (aggO o)] (by rfl) rfl rfl (by (try simp only [List.map_toArray, List.map_cons, List.map_nil]); first | done | rfl | (go_simp; done) | (go_simp; rfl)) ?_
  refine (aputOsd_calls B0 cb0 hd o w13 HCB.out HBB.out HNO.out (by have := HKL.out; omega)).mono ?_
  rintro e w5 ⟨B5, c5, rfl, h1, h2, hb⟩
  refine ⟨_, rfl, ?_⟩
  obtain ⟨zs, hzs⟩ : ∃ zs, zs = hd ++ uvs (osdL o) := ⟨_, rfl⟩
  rw [← hzs] at h1 h2 ⊢
  have HZ := Lib.hid hzs
  have HC5 := Lib.hid h1
  have HB5C := Lib.hid h2
  have HB5 := Lib.hid (below_then HB2.out HB2.out.size (below_then hB3.out hB3.out.size hb))
  clear h1 h2 hb hzs hB3
  refine hK.out _ _ ?_
  clear hK K
  refine norm_ (a' := ?_) ?_ ?_
  rotate_left
  · show Act.put _ (some 16) _ = _
    simp only [Act.put, List.setIfInBounds_toArray, List.set_cons_zero, List.set_cons_succ, i64_w, i32_w]
    rfl
  refine pure_ (i := 7) (N := some 2) (v := ?_) (a' := ?_) #[true, true, true, true, true, true, true, true, false] rfl rfl (by kernel_rfl) (fun _ _ _ h => h) (Or.inl ⟨by rfl, ?_⟩) ?_ ?_
  rotate_left
  · intro w'
    go_simp
    with_reducible rfl
  rotate_left
  · simp only [Act.put, List.setIfInBounds_toArray, List.set_cons_zero, List.set_cons_succ, i64_w, i32_w]
    rfl
  refine pure_ (i := 8) (N := some 3) (v := ?_) (a' := ?_) #[true, true, true, true, true, true, true, true, true] rfl rfl (by kernel_rfl) (fun _ _ _ h => h) (Or.inl ⟨by rfl, ?_⟩) ?_ ?_
  rotate_left
  · intro w'
    go_simp
    with_reducible rfl
  rotate_left
  · simp only [Act.put, List.setIfInBounds_toArray, List.set_cons_zero, List.set_cons_succ, i64_w, i32_w]
    rfl
  refine done_ (by kernel_rfl) ?_
  go_wp2_with fail
  go_ret2
  have hz : zs = encC kd o := by rw [HZ.out, HHD.out]; rfl
  subst hz
  exact ⟨B5, c5, rfl, HC5.out, HB5C.out, HB5.out⟩
/-- Either way, in one shape. -/
def Coded (ok : Bool) (l : List Int) (w w' : World) (e : Ending) : Prop := ∃ (er : Int) (B : Option Addr) (cb : Nat) (xs : List Int), e = .returned (.tuple #[.slice B xs.length cb, .int .i64 er]) ∧ xs.length ≤ cb ∧ BK.C w' B xs.length xs ∧ Below w.heap.size w w' ∧ er = (if ok = true then 0 else 1) ∧ xs = (if ok = true then l else [])
theorem coded_bad {l : List Int} {w w' : World} {e : Ending} (h : e = .returned (.tuple #[.slice none 0 0, .int .i64 1]) ∧ Below w.heap.size w w') : Coded false l w w' e := by
  obtain ⟨A', c', e1, _, h1⟩ := (ow0 w' 0).reads
  cases e1
  exact ⟨1, none, 0, [], h.1, Nat.le_refl _, h1, h.2, rfl, rfl⟩
theorem coded_ok {l : List Int} {w w' : World} {e : Ending} (h : ∃ (B : Option Addr) (cb : Nat), e = .returned (.tuple #[.slice B l.length cb, .int .i64 0]) ∧ l.length ≤ cb ∧ BK.C w' B l.length l ∧ Below w.heap.size w w') : Coded true l w w' e := by
  obtain ⟨B, cb, h1, h2, h3, h4⟩ := h
  exact ⟨0, B, cb, l, h1, h2, h3, h4, rfl, rfl⟩
theorem aenc_any (ep k m p d : Int) (A : Option Addr) (c : Nat) (l : List Od) (w : World) (hx : kO.C w A l.length l) (hwf : WfL l) : Calls Try.prog 16 #[.agg (boxM ep k m p d A c l)] w fun e w' => Coded (mayB ep k m p d l) (encL ep k m p d l) w w' e := by
  cases h : mayB ep k m p d l with
  | false => exact (aenc_bad ep k m p d A c l w hx hwf h).mono (fun _ _ h => coded_bad h)
  | true => exact (aenc_ok ep k m p d A c l w hx h).mono (fun _ _ h => coded_ok h)
theorem aencc_any (kd : Int) (o : Od) (w : World) : Calls Try.prog 17 #[.agg (chA kd o)] w fun e w' => Coded (mayC kd o) (encC kd o) w w' e := by
  cases h : mayC kd o with
  | false => exact (aencc_bad kd o w h).mono (fun _ _ h => coded_bad h)
  | true => exact (aencc_ok kd o w h).mono (fun _ _ h => coded_ok h)
end Go.Proofs.Ytfikaekocgofoaa.Enc
/- AtlasApplies: what the row asks for. -/
set_option linter.unusedSimpArgs false
namespace Go.Proofs.Ytfikaekocgofoaa.LaA
open Go Go.RowKit Go.Proofs.YtfikaekocgofoaaW.PrintWords Go.Proofs.YtfikaekocgofoaaW.PrintLast Go.Proofs.YtfikaekocgofoaaW.PrintMore Mem PAll KW AtA AtB Sl Dsc MayP ApP Fnd PlF Roo Awk McW ApY ApZ ApW AtK AtV AtX AtD AtC AtP Ins AtQ AtR AtS AtF AtW AtE
open CrP hiding Od
end Go.Proofs.Ytfikaekocgofoaa.LaA
/- What the rows ask for: maps, changes, pools. -/
namespace Go.Proofs.Ytfikaekocgofoaa.AtO
open Go Go.RowKit Go.Proofs.YtfikaekocgofoaaW.PrintWords Opns PAll KW AtA Grp AtB McW AtS LaA UpsO
abbrev wfI (n : Int) : Prop := (Lit.int .i64 n).wf = true
theorem op_i : Opens 3 (Kd.int .i64) (fun n => wfI n) (fun _ => 1) := opens_int Try.underlying3
theorem op_b : Opens 4 Kd.bool (fun _ => True) (fun _ => 1) := opens_bool Try.underlying4
def goodO (x : S37) : Prop := wfI x.f0 ∧ True ∧ True ∧ wfI x.f3 ∧ wfI x.f4 ∧ wfI x.f5 ∧ wfI x.f6 ∧ wfI x.f7
theorem opens_O : Opens 37 k37 goodO (fun _ => 1) :=
  (opens_struct (g := fun x : S37 => (x.f0, x.f1, x.f2, x.f3, x.f4, x.f5, x.f6, x.f7)) (gi := fun p => ⟨p.1, p.2.1, p.2.2.1, p.2.2.2.1, p.2.2.2.2.1, p.2.2.2.2.2.1, p.2.2.2.2.2.2.1, p.2.2.2.2.2.2.2⟩) (fun _ => rfl) Try.underlying37 (by kernel_rfl)
    (opensF_cons (off := 1) (by kernel_rfl) rfl op_i (opensF_cons (off := 2) (by kernel_rfl) rfl op_b (opensF_cons (off := 3) (by kernel_rfl) rfl op_b (opensF_cons (off := 4) (by kernel_rfl) rfl op_i (opensF_cons (off := 5) (by kernel_rfl) rfl op_i (opensF_cons (off := 6) (by kernel_rfl) rfl op_i (opensF_cons (off := 7) (by kernel_rfl) rfl op_i (opensF_one (by kernel_rfl) op_i))))))))).imp (fun _ h => h) (fun _ => by omega)
theorem opens_Os : Opens 26 (Kd.slice 37 k37) (fun xs => (∀ x ∈ xs, goodO x) ∧ xs.length * 56 ≤ reachBytes) (fun xs => lbulk (fun _ => 1) xs + 1) := opens_slice Try.underlying26 (by kernel_rfl) (by kernel_rfl) opens_O
structure Pl where
  f0 : Int
  f1 : Int
  f2 : Int
  f3 : Int
def kPl : Kd Pl := Kd.iso (Kd.pair (Kd.int .i64) (Kd.pair (Kd.int .i64) (Kd.pair (Kd.int .i64) (Kd.int .i64)))) (fun x : Pl => (x.f0, x.f1, x.f2, x.f3))
structure Mp where
  f0 : Int
  f1 : Pl
  f2 : List S37
def kMp : Kd Mp := Kd.iso (Kd.pair (Kd.int .i64) (Kd.pair kPl (Kd.slice 37 k37))) (fun x : Mp => (x.f0, x.f1, x.f2))
theorem kMp_open {w : World} {x : Mp} {cs : List Value} (h : kMp.K w x cs) : ∃ A c, cs = [.int .i64 x.f0, .int .i64 x.f1.f0, .int .i64 x.f1.f1, .int .i64 x.f1.f2, .int .i64 x.f1.f3, .slice A x.f2.length c] ∧ x.f2.length ≤ c ∧ k37.C w A x.f2.length x.f2 := by
  obtain ⟨_, _, rfl, rfl, ⟨_, _, rfl, hp, ⟨A, c, rfl, hl, hc⟩⟩⟩ := h
  obtain ⟨_, _, rfl, rfl, ⟨_, _, rfl, rfl, ⟨_, _, rfl, rfl, rfl⟩⟩⟩ := hp
  exact ⟨A, c, rfl, hl, hc⟩
def goodP (x : Pl) : Prop := wfI x.f0 ∧ wfI x.f1 ∧ wfI x.f2 ∧ wfI x.f3
theorem opens_P : Opens 23 kPl goodP (fun _ => 1) :=
  (opens_struct (g := fun x : Pl => (x.f0, x.f1, x.f2, x.f3)) (gi := fun p => ⟨p.1, p.2.1, p.2.2.1, p.2.2.2⟩) (fun _ => rfl) Try.underlying23 (by kernel_rfl)
    (opensF_cons (off := 1) (by kernel_rfl) rfl op_i (opensF_cons (off := 2) (by kernel_rfl) rfl op_i (opensF_cons (off := 3) (by kernel_rfl) rfl op_i (opensF_one (by kernel_rfl) op_i))))).imp (fun _ h => h) (fun _ => by omega)
def goodM (x : Mp) : Prop := wfI x.f0 ∧ goodP x.f1 ∧ ((∀ o ∈ x.f2, goodO o) ∧ x.f2.length * 56 ≤ reachBytes)
theorem opens_M : Opens 28 kMp goodM (fun _ => 1) :=
  (opens_struct (g := fun x : Mp => (x.f0, x.f1, x.f2)) (gi := fun p => ⟨p.1, p.2.1, p.2.2⟩) (fun _ => rfl) Try.underlying28 (by kernel_rfl)
    (opensF_cons (off := 1) (by kernel_rfl) rfl op_i (opensF_cons (off := 5) (by kernel_rfl) rfl opens_P (opensF_one (by kernel_rfl) opens_Os)))).imp (fun _ h => h) (fun _ => by simp only [lbulk]; omega)
theorem map_open {w : World} {x : Mp} {cs : Array Value} (h : kMp.K w x cs.toList) (g : goodM x) : ∃ A c, cs = boxM x.f0 x.f1.f0 x.f1.f1 x.f1.f2 x.f1.f3 A c x.f2 ∧ x.f2.length ≤ c ∧ kO.C w A x.f2.length x.f2 ∧ WfL x.f2 := by
  obtain ⟨A, c, e, hl, hc⟩ := kMp_open h
  refine ⟨A, c, ?_, hl, hc, fun o ho => ?_⟩
  · rw [← Array.toArray_toList (xs := cs), e]
    rfl
  · have h1 := g.2.2.1 o ho
    exact ⟨h1.1, h1.2.2.2.2.2.2.1, h1.2.2.2.2.2.2.2⟩
def goodC (x : Chg) : Prop := wfI x.kd ∧ goodO x.o
theorem opens_C : Opens 39 kC goodC (fun _ => 1) :=
  (opens_struct (g := fun x : Chg => (x.kd, x.o)) (gi := fun p => ⟨p.1, p.2⟩) (fun _ => rfl) Try.underlying39 (by kernel_rfl)
    (opensF_cons (off := 1) (by kernel_rfl) rfl op_i (opensF_one (by kernel_rfl) opens_O))).imp (fun _ h => h) (fun _ => by omega)
end Go.Proofs.Ytfikaekocgofoaa.AtO
/- Unlike maps, and unlike changes, have unlike bytes. -/
set_option linter.unusedSimpArgs false
namespace Go.Proofs.Ytfikaekocgofoaa.LuA
open Go Go.RowKit Go.Proofs.YtfikaekocgofoaaW.PrintWords Go.Proofs.YtfikaekocgofoaaW.PrintLast Go.Proofs.YtfikaekocgofoaaW.PrintMore Mem PAll KW AtA AtB Sl Dsc MayP ApP Fnd PlF Roo Awk McW ApY ApZ ApW AtK AtV AtX AtD AtC AtP Ins AtQ AtR AtS AtF AtW AtE WireP UvW Put Puo EnP Enc LaA AtO
open CrP hiding Od
abbrev two (kd : Int) (o : Od) (kd' : Int) (o' : Od) : Array Value := #[.int .i64 kd, .int .i64 o.f0, .bool o.f1, .bool o.f2, .int .i64 o.f3, .int .i64 o.f4, .int .i64 o.f5, .int .i64 o.f6, .int .i64 o.f7, .int .i64 kd', .int .i64 o'.f0, .bool o'.f1, .bool o'.f2, .int .i64 o'.f3, .int .i64 o'.f4, .int .i64 o'.f5, .int .i64 o'.f6, .int .i64 o'.f7]
theorem uv_byte : ∀ (k n : Nat), n < k → ∀ x ∈ uv n, 0 ≤ x ∧ x < 256 := by
  intro k
  induction k with
  | zero => intro n h; omega
  | succ k ih =>
    intro n h x hx
    by_cases h1 : n < 128
    · rw [uv_lt h1] at hx
      have := List.mem_singleton.1 hx
      omega
    · rw [uv_ge (by omega)] at hx
      rcases List.mem_cons.1 hx with rfl | hx
      · omega
      · exact ih (n / 128) (by omega) x hx
theorem uvs_byte (l : List Int) : ∀ x ∈ uvs l, 0 ≤ x ∧ x < 256 := by
  intro x hx
  obtain ⟨n, _, hx⟩ := List.mem_flatMap.1 hx
  exact uv_byte _ _ (Nat.lt_succ_self _) x hx
theorem encL_byte (ep k m p d : Int) (l : List Od) : ∀ x ∈ encL ep k m p d l, 0 ≤ x ∧ x < 256 := by
  intro x hx
  rcases List.mem_append.1 hx with h | h
  · exact uvs_byte _ x h
  · exact uvs_byte _ x h
theorem encC_byte (kd : Int) (o : Od) : ∀ x ∈ encC kd o, 0 ≤ x ∧ x < 256 := by
  intro x hx
  rcases List.mem_append.1 hx with h | h
  · exact uvs_byte _ x h
  · exact uvs_byte _ x h
theorem str_back {xs : List Int} (h : ∀ x ∈ xs, 0 ≤ x ∧ x < 256) : (strOfNums xs).data.toList.map (fun u => (u.toNat : Int)) = xs := by
  rw [strOfNums_data, List.map_map]
  refine (List.map_congr_left fun x hx => ?_).trans (List.map_id xs)
  have := h x hx
  show ((UInt8.ofNat x.toNat).toNat : Int) = x
  rw [UInt8.toNat_ofNat']
  omega
theorem strL_inj {xs ys : List Int} (hx : ∀ x ∈ xs, 0 ≤ x ∧ x < 256) (hy : ∀ x ∈ ys, 0 ≤ x ∧ x < 256) : ((strOfNums xs).toList == (strOfNums ys).toList) = true ↔ xs = ys := by
  rw [beq_iff_eq]
  refine ⟨fun h => ?_, fun h => by rw [h]⟩
  rw [Go.Lib.strOfNums_toList, Go.Lib.strOfNums_toList] at h
  rw [← str_back hx, ← str_back hy]
  show (Go.Lib.bytesOf xs).map _ = (Go.Lib.bytesOf ys).map _
  rw [h]
set_option maxHeartbeats 8000000 in
set_option maxRecDepth 100000 in
theorem unlike_calls (ep k m p d : Int) (A : Option Addr) (c : Nat) (l : List Od) (ep' k' m' p' d' : Int) (A' : Option Addr) (c' : Nat) (l' : List Od) (kd : Int) (o : Od) (kd' : Int) (o' : Od) (w : World) (hx : kO.C w A l.length l) (hcap : l.length ≤ c) (hwf : WfL l) (hx' : kO.C w A' l'.length l') (hcap' : l'.length ≤ c') (hwf' : WfL l') :
    Calls Try.prog 5 #[.agg (boxM ep k m p d A c l), .agg (boxM ep' k' m' p' d' A' c' l'), .agg (two kd o kd' o')] w fun e w' => e = .returned (.bool true) ∧ Below w.heap.size w w' := by
  obtain ⟨w1, hw1⟩ : ∃ w1, w1 = ((w.alloc (.cells (boxM ep k m p d A c l) 28)).alloc (.cells (boxM ep' k' m' p' d' A' c' l') 28)).alloc (.cells (two kd o kd' o') 44) := ⟨_, rfl⟩
  have hs1 : (w.alloc (.cells (boxM ep k m p d A c l) 28)).heap.size = w.heap.size + 1 := by simp only [World.alloc, Array.size_push]
  have hs2 : ((w.alloc (.cells (boxM ep k m p d A c l) 28)).alloc (.cells (boxM ep' k' m' p' d' A' c' l') 28)).heap.size = w.heap.size + 2 := by simp only [World.alloc, Array.size_push]
  have HB1 := Lib.hid (below_alloc (below_alloc (below_alloc (Below.refl w.heap.size w) (.cells (boxM ep k m p d A c l) 28)) (.cells (boxM ep' k' m' p' d' A' c' l') 28)) (.cells (two kd o kd' o') 44))
  have HM1 : Hid (w1.heap[w.heap.size]? = some (.cells (boxM ep k m p d A c l) 28 (0, 0))) := Lib.hid (by rw [hw1]; exact blk_below (blk_new _ _) (below_alloc (below_alloc (Below.refl _ _) _) _))
  have HN1 : Hid (w1.heap[w.heap.size + 1]? = some (.cells (boxM ep' k' m' p' d' A' c' l') 28 (0, 0))) := Lib.hid (by
    have h := blk_new (w.alloc (.cells (boxM ep k m p d A c l) 28)) (.cells (boxM ep' k' m' p' d' A' c' l') 28)
    rw [hs1] at h
    rw [hw1]
    exact blk_below h (below_alloc (Below.refl _ _) _))
  have HT1 : Hid (w1.heap[w.heap.size + 2]? = some (.cells (two kd o kd' o') 44 (0, 0))) := Lib.hid (by
    have h := blk_new ((w.alloc (.cells (boxM ep k m p d A c l) 28)).alloc (.cells (boxM ep' k' m' p' d' A' c' l') 28)) (.cells (two kd o kd' o') 44)
    rw [hs2] at h
    rw [hw1]
    exact h)
  rw [← hw1] at HB1
  have HWN := Lib.hid hw1
  have HC1 := Lib.hid (Kd.C_below hx HB1.out)
  have HD1 := Lib.hid (Kd.C_below hx' HB1.out)
  have HWF := Lib.hid hwf
  have HWF' := Lib.hid hwf'
  have HCAP := Lib.hid hcap
  have HCAP' := Lib.hid hcap'
  clear hx hx' hwf hwf' hcap hcap' hs1 hs2 hw1
  unfold boxM at *
  have t0 := blk_cell HT1.out 0
  have t1 := blk_cell HT1.out 1
  have t2 := blk_cell HT1.out 2
  have t3 := blk_cell HT1.out 3
  have t4 := blk_cell HT1.out 4
  have t5 := blk_cell HT1.out 5
  have t6 := blk_cell HT1.out 6
  have t7 := blk_cell HT1.out 7
  have t8 := blk_cell HT1.out 8
  have t9 := blk_cell HT1.out 9
  have t10 := blk_cell HT1.out 10
  have t11 := blk_cell HT1.out 11
  have t12 := blk_cell HT1.out 12
  have t13 := blk_cell HT1.out 13
  have t14 := blk_cell HT1.out 14
  have t15 := blk_cell HT1.out 15
  have t16 := blk_cell HT1.out 16
  have t17 := blk_cell HT1.out 17
  go_enter Try.func5, Try.ntmps5
  go_wp2_with fail
  rw [← HWN.out]
  refine start_ (n := 8) (S := fun w' => Below w1.heap.size w1 w') (ds := []) #[false, false, false, false, false, false, false, false] (by kernel_rfl) rfl rfl (below_drew (Below.refl _ _)) (fun hHeld => ?_)
  have HB2 := Lib.hid (below_drew (Below.refl w1.heap.size w1))
  generalize w1.drew = wd at HB2 hHeld ⊢
  refine pure_ (i := 0) (N := some 13) (v := ?_) (a' := ?_) #[true, false, false, false, false, false, false, false] rfl rfl (by kernel_rfl) (fun _ _ _ h => h) (Or.inl ⟨by rfl, ?_⟩) ?_ ?_
  rotate_left
  · intro w'
    go_simp
    with_reducible rfl
  rotate_left
  · simp only [Act.put, List.setIfInBounds_toArray, List.set_cons_zero, List.set_cons_succ, i64_w, i32_w]
    rfl
  refine pure_ (i := 2) (N := some 15) (v := ?_) (a' := ?_) #[true, false, true, false, false, false, false, false] rfl rfl (by kernel_rfl) (fun _ _ _ h => h) (Or.inl ⟨by rfl, ?_⟩) ?_ ?_
  rotate_left
  · intro w'
    go_simp
    with_reducible rfl
  rotate_left
  · simp only [Act.put, List.setIfInBounds_toArray, List.set_cons_zero, List.set_cons_succ, i64_w, i32_w]
    rfl
  refine take_ (i := 1) (N := some 14) (v := ?_) (a' := ?_) #[true, true, true, false, false, false, false, false] rfl rfl (by kernel_rfl) (fun _ _ _ h => h) (Or.inl ⟨by rfl, ?_⟩) hHeld ?_ ?_
  rotate_left
  · rintro w' hS
    have x0 := pw_cell_below hS t0
    have x1 := pw_cell_below hS t1
    have x2 := pw_cell_below hS t2
    have x3 := pw_cell_below hS t3
    have x4 := pw_cell_below hS t4
    have x5 := pw_cell_below hS t5
    have x6 := pw_cell_below hS t6
    have x7 := pw_cell_below hS t7
    have x8 := pw_cell_below hS t8
    go_simp
    with_reducible rfl
  rotate_left
  · simp only [Act.put, List.setIfInBounds_toArray, List.set_cons_zero, List.set_cons_succ, i64_w, i32_w]
    rfl
  refine take_ (i := 3) (N := some 16) (v := ?_) (a' := ?_) #[true, true, true, true, false, false, false, false] rfl rfl (by kernel_rfl) (fun _ _ _ h => h) (Or.inl ⟨by rfl, ?_⟩) hHeld ?_ ?_
  rotate_left
  · rintro w' hS
    have x9 := pw_cell_below hS t9
    have x10 := pw_cell_below hS t10
    have x11 := pw_cell_below hS t11
    have x12 := pw_cell_below hS t12
    have x13 := pw_cell_below hS t13
    have x14 := pw_cell_below hS t14
    have x15 := pw_cell_below hS t15
    have x16 := pw_cell_below hS t16
    have x17 := pw_cell_below hS t17
    go_simp
    with_reducible rfl
  rotate_left
  · simp only [Act.put, List.setIfInBounds_toArray, List.set_cons_zero, List.set_cons_succ, i64_w, i32_w]
    rfl
  refine join_ (σ := Nat × Nat) 0 #[true, true, true, true, true, true, true, true] (fun s => [(7, .pointer (some ⟨s.1, 0, none⟩)), (8, .pointer (some ⟨s.2, 0, none⟩))]) (fun s w' => Hid (w'.heap[s.1]? = some (.cells #[.int .i64 kd, .int .i64 o.f0, .bool o.f1, .bool o.f2, .int .i64 o.f3, .int .i64 o.f4, .int .i64 o.f5, .int .i64 o.f6, .int .i64 o.f7] 39 (0, 0))) ∧ Hid (w'.heap[s.2]? = some (.cells #[.int .i64 kd', .int .i64 o'.f0, .bool o'.f1, .bool o'.f2, .int .i64 o'.f3, .int .i64 o'.f4, .int .i64 o'.f5, .int .i64 o'.f6, .int .i64 o'.f7] 39 (0, 0))) ∧ Hid (Below w1.heap.size w1 w')) ?_ (fun hfin => ?_)
  · rintro ⟨g7, g8⟩ w2 ⟨H7, H8, HB3⟩
    dsimp only at H7 H8
    refine norm_ (a' := ?_) ?_ ?_
    rotate_left
    · show putAll _ _ = _
      simp only [putAll, Act.put, List.setIfInBounds_toArray, List.set_cons_zero, List.set_cons_succ]
      rfl
    refine done_ (by kernel_rfl) ?_
    have HM2 := Lib.hid (blk_below HM1.out HB3.out)
    have HN2 := Lib.hid (blk_below HN1.out HB3.out)
    have HBB := Lib.hid (below_then HB1.out HB1.out.size HB3.out)
    have HC2 := Lib.hid (Kd.C_below HC1.out HB3.out)
    have HD2 := Lib.hid (Kd.C_below HD1.out HB3.out)
    clear t0 t1 t2 t3 t4 t5 t6 t7 t8 t9 t10 t11 t12 t13 t14 t15 t16 t17 HM1 HN1 HT1 HC1 HD1 HB1 HB3 HWN
    have m0 := blk_cell HM2.out 0
    have m1 := blk_cell HM2.out 1
    have m2 := blk_cell HM2.out 2
    have m3 := blk_cell HM2.out 3
    have m4 := blk_cell HM2.out 4
    have m5 := blk_cell HM2.out 5
    have T := Lib.hid (aenc_any ep k m p d A c l w2 HC2.out HWF.out)
    unfold boxM at T
    go_wp2_with fail
    refine T.out.mono ?_
    rintro e w3 ⟨er, B, cb, xs, rfl, hxl, hxc, hb, her, hxs⟩
    have HBB3 := Lib.hid (below_then HBB.out HBB.out.size hb)
    have HM3 := Lib.hid (blk_below HM2.out hb)
    have HN3 := Lib.hid (blk_below HN2.out hb)
    have H73 := Lib.hid (blk_below H7.out hb)
    have H83 := Lib.hid (blk_below H8.out hb)
    have HC3 := Lib.hid (Kd.C_below HC2.out hb)
    have HD3 := Lib.hid (Kd.C_below HD2.out hb)
    have HX3 := Lib.hid hxc
    have HER := Lib.hid her
    have HXS := Lib.hid hxs
    clear m0 m1 m2 m3 m4 m5 T HM2 HN2 HBB HC2 HD2 H7 H8 hb hxc her hxs
    have m0 := blk_cell HN3.out 0
    have m1 := blk_cell HN3.out 1
    have m2 := blk_cell HN3.out 2
    have m3 := blk_cell HN3.out 3
    have m4 := blk_cell HN3.out 4
    have m5 := blk_cell HN3.out 5
    have T := Lib.hid (aenc_any ep' k' m' p' d' A' c' l' w3 HD3.out HWF'.out)
    unfold boxM at T
    go_wp2_with fail
    refine T.out.mono ?_
    rintro e w4 ⟨fr, B', cb', ys, rfl, hyl, hyc, hb, hfr, hys⟩
    have HBB4 := Lib.hid (below_then HBB3.out HBB3.out.size hb)
    have HM4 := Lib.hid (blk_below HM3.out hb)
    have HN4 := Lib.hid (blk_below HN3.out hb)
    have H74 := Lib.hid (blk_below H73.out hb)
    have H84 := Lib.hid (blk_below H83.out hb)
    have HC4 := Lib.hid (Kd.C_below HC3.out hb)
    have HD4 := Lib.hid (Kd.C_below HD3.out hb)
    have HX4 := Lib.hid (Kd.C_below HX3.out hb)
    have HY4 := Lib.hid hyc
    have HFR := Lib.hid hfr
    have HYS := Lib.hid hys
    clear m0 m1 m2 m3 m4 m5 T HM3 HN3 HBB3 HC3 HD3 H73 H83 HX3 hb hyc hfr hys
    have TS : Hid (∀ dd os, Calls Try.prog 12 #[.agg (boxM ep k m p d A c l), .agg (boxM ep' k' m' p' d' A' c' l')] (Sort.grow (redrawn w4 dd) os) fun e w' => e = .returned (.bool (sameB ep k m p d l ep' k' m' p' d' l')) ∧ Below (Sort.grow (redrawn w4 dd) os).heap.size (Sort.grow (redrawn w4 dd) os) w') := Lib.hid (fun dd os => rsame_calls ep k m p d A c l ep' k' m' p' d' A' c' l' _ (Kd.C_below HC4.out (below_regrown w4 dd os)) HCAP.out (Kd.C_below HD4.out (below_regrown w4 dd os)) HCAP'.out)
    unfold boxM at TS
    have hcx : ∀ dd os, (convert 45 9 (.slice B xs.length cb)).run Try.prog (Sort.grow (redrawn w4 dd) os) = .ok (.string (strOfNums xs)) (Sort.grow (redrawn w4 dd) os) := fun dd os => Kd.C_string Try.underlying45 Try.underlying5 Try.underlying9 (Kd.C_below HX4.out (below_regrown w4 dd os))
    have hcy : ∀ dd os, (convert 45 9 (.slice B' ys.length cb')).run Try.prog (Sort.grow (redrawn w4 dd) os) = .ok (.string (strOfNums ys)) (Sort.grow (redrawn w4 dd) os) := fun dd os => Kd.C_string Try.underlying45 Try.underlying5 Try.underlying9 (Kd.C_below HY4.out (below_regrown w4 dd os))
    have m0 := cell_regrown (blk_cell HM4.out 0)
    have m1 := cell_regrown (blk_cell HM4.out 1)
    have m2 := cell_regrown (blk_cell HM4.out 2)
    have m3 := cell_regrown (blk_cell HM4.out 3)
    have m4 := cell_regrown (blk_cell HM4.out 4)
    have m5 := cell_regrown (blk_cell HM4.out 5)
    have n0 := cell_regrown (blk_cell HN4.out 0)
    have n1 := cell_regrown (blk_cell HN4.out 1)
    have n2 := cell_regrown (blk_cell HN4.out 2)
    have n3 := cell_regrown (blk_cell HN4.out 3)
    have n4 := cell_regrown (blk_cell HN4.out 4)
    have n5 := cell_regrown (blk_cell HN4.out 5)
    obtain ⟨sm, hsm⟩ : ∃ sm, sm = sameB ep k m p d l ep' k' m' p' d' l' := ⟨_, rfl⟩
    rw [← hsm] at TS
    have HSM := Lib.hid hsm
    obtain ⟨sx, hsx⟩ : ∃ sx, sx = strOfNums xs := ⟨_, rfl⟩
    obtain ⟨sy, hsy⟩ : ∃ sy, sy = strOfNums ys := ⟨_, rfl⟩
    rw [← hsx] at hcx
    rw [← hsy] at hcy
    have HSE : Hid (er = 0 → fr = 0 → ((sx.toList == sy.toList) = sm)) := Lib.hid (fun h1 h2 => by
      have e1 : mayB ep k m p d l = true := by
        cases h : mayB ep k m p d l with
        | true => rfl
        | false => have := HER.out; rw [h, if_neg (by decide)] at this; omega
      have e2 : mayB ep' k' m' p' d' l' = true := by
        cases h : mayB ep' k' m' p' d' l' with
        | true => rfl
        | false => have := HFR.out; rw [h, if_neg (by decide)] at this; omega
      have q1 := HXS.out
      have q2 := HYS.out
      rw [e1, if_pos rfl] at q1
      rw [e2, if_pos rfl] at q2
      rw [hsx, hsy, q1, q2, Bool.eq_iff_iff, strL_inj (encL_byte _ _ _ _ _ _) (encL_byte _ _ _ _ _ _), hsm]
      exact encL_inj e1 e2)
    clear hsm hsx hsy
    go_wp2_with fail
    go_cut [43] from 27 to 81 (fun v wx => v = .bool false ∧ Below w4.heap.size w4 wx)
    case first =>
      cases be : (er == 0) with
      | false =>
        refine wp_region_quiet_below (by kernel_rfl) (by kernel_rfl) ?_
        repeat (go_big_quiet_step ((fail)))
        refine wpQuiet_nil ?_
        intro _ hw'
        obtain ⟨⟨dq, osq⟩, hw''⟩ := hw'
        subst hw''
        go_wp2_with fail
        go_meet
        exact ⟨rfl, below_regrown w4 dq osq⟩
      | true =>
        cases bf : (fr == 0) with
        | false =>
          refine wp_region_quiet_below (by kernel_rfl) (by kernel_rfl) ?_
          repeat (go_big_quiet_step ((fail)))
          refine wpQuiet_nil ?_
          intro _ hw'
          obtain ⟨⟨dq, osq⟩, hw''⟩ := hw'
          subst hw''
          go_wp2_with fail
          go_meet
          exact ⟨rfl, below_regrown w4 dq osq⟩
        | true =>
          have HQQ := Lib.hid (HSE.out (by simpa using be) (by simpa using bf))
          refine wp_region_quiet_below (by kernel_rfl) (by kernel_rfl) ?_
          repeat (go_big_quiet_step ((go_at_call 12; exact Calls.regrown_of (TS.out _ _))))
          refine wpQuiet_nil ?_
          intro _ hw'
          obtain ⟨⟨dq, osq⟩, hw''⟩ := hw'
          subst hw''
          go_wp2_with fail
          go_meet
          exact ⟨by rw [HQQ.out]; cases sm <;> rfl, below_regrown w4 dq osq⟩
    case rest =>
      obtain ⟨rfl, hb⟩ := hcut
      have HBC := Lib.hid (below_then HBB4.out HBB4.out.size hb)
      have HMC := Lib.hid (blk_below HM4.out hb)
      have HNC := Lib.hid (blk_below HN4.out hb)
      have H7C := Lib.hid (blk_below H74.out hb)
      have H8C := Lib.hid (blk_below H84.out hb)
      have HCC := Lib.hid (Kd.C_below HC4.out hb)
      have HDC := Lib.hid (Kd.C_below HD4.out hb)
      clear hb m0 m1 m2 m3 m4 m5 n0 n1 n2 n3 n4 n5 TS hcx hcy HBB4 HM4 HN4 H74 H84 HC4 HD4 HX4 HY4 HER HFR HXS HYS HSE
      have m0 := blk_cell H7C.out 0
      have m1 := blk_cell H7C.out 1
      have m2 := blk_cell H7C.out 2
      have m3 := blk_cell H7C.out 3
      have m4 := blk_cell H7C.out 4
      have m5 := blk_cell H7C.out 5
      have m6 := blk_cell H7C.out 6
      have m7 := blk_cell H7C.out 7
      have m8 := blk_cell H7C.out 8
      have T := Lib.hid (aencc_any kd o wc)
      unfold chA at T
      go_wp2_with fail
      refine T.out.mono ?_
      rintro e w5 ⟨gr, Bc, cbc, us, rfl, hul, huc, hb, hgr, hus⟩
      have HB5 := Lib.hid (below_then HBC.out HBC.out.size hb)
      have HM5 := Lib.hid (blk_below HMC.out hb)
      have HN5 := Lib.hid (blk_below HNC.out hb)
      have H75 := Lib.hid (blk_below H7C.out hb)
      have H85 := Lib.hid (blk_below H8C.out hb)
      have HC5 := Lib.hid (Kd.C_below HCC.out hb)
      have HD5 := Lib.hid (Kd.C_below HDC.out hb)
      have HU5 := Lib.hid huc
      have HGR := Lib.hid hgr
      have HUS := Lib.hid hus
      clear m0 m1 m2 m3 m4 m5 m6 m7 m8 T HBC HMC HNC H7C H8C HCC HDC hb huc hgr hus
      have m0 := blk_cell H85.out 0
      have m1 := blk_cell H85.out 1
      have m2 := blk_cell H85.out 2
      have m3 := blk_cell H85.out 3
      have m4 := blk_cell H85.out 4
      have m5 := blk_cell H85.out 5
      have m6 := blk_cell H85.out 6
      have m7 := blk_cell H85.out 7
      have m8 := blk_cell H85.out 8
      have T := Lib.hid (aencc_any kd' o' w5)
      unfold chA at T
      go_wp2_with fail
      refine T.out.mono ?_
      rintro e w6 ⟨hr, Bd, cbd, vs, rfl, hvl, hvc, hb, hhr, hvs⟩
      have HB6 := Lib.hid (below_then HB5.out HB5.out.size hb)
      have HM6 := Lib.hid (blk_below HM5.out hb)
      have HN6 := Lib.hid (blk_below HN5.out hb)
      have H76 := Lib.hid (blk_below H75.out hb)
      have H86 := Lib.hid (blk_below H85.out hb)
      have HC6 := Lib.hid (Kd.C_below HC5.out hb)
      have HD6 := Lib.hid (Kd.C_below HD5.out hb)
      have HU6 := Lib.hid (Kd.C_below HU5.out hb)
      have HV6 := Lib.hid hvc
      have HHR := Lib.hid hhr
      have HVS := Lib.hid hvs
      clear m0 m1 m2 m3 m4 m5 m6 m7 m8 T HB5 HM5 HN5 H75 H85 HC5 HD5 HU5 hb hvc hhr hvs
      have hcx : ∀ dd os, (convert 45 9 (.slice Bc us.length cbc)).run Try.prog (Sort.grow (redrawn w6 dd) os) = .ok (.string (strOfNums us)) (Sort.grow (redrawn w6 dd) os) := fun dd os => Kd.C_string Try.underlying45 Try.underlying5 Try.underlying9 (Kd.C_below HU6.out (below_regrown w6 dd os))
      have hcy : ∀ dd os, (convert 45 9 (.slice Bd vs.length cbd)).run Try.prog (Sort.grow (redrawn w6 dd) os) = .ok (.string (strOfNums vs)) (Sort.grow (redrawn w6 dd) os) := fun dd os => Kd.C_string Try.underlying45 Try.underlying5 Try.underlying9 (Kd.C_below HV6.out (below_regrown w6 dd os))
      have m0 := cell_regrown (blk_cell H76.out 0)
      have m1 := cell_regrown (blk_cell H76.out 1)
      have m2 := cell_regrown (blk_cell H76.out 2)
      have m3 := cell_regrown (blk_cell H76.out 3)
      have m4 := cell_regrown (blk_cell H76.out 4)
      have m5 := cell_regrown (blk_cell H76.out 5)
      have m6 := cell_regrown (blk_cell H76.out 6)
      have m7 := cell_regrown (blk_cell H76.out 7)
      have m8 := cell_regrown (blk_cell H76.out 8)
      have n0 := cell_regrown (blk_cell H86.out 0)
      have n1 := cell_regrown (blk_cell H86.out 1)
      have n2 := cell_regrown (blk_cell H86.out 2)
      have n3 := cell_regrown (blk_cell H86.out 3)
      have n4 := cell_regrown (blk_cell H86.out 4)
      have n5 := cell_regrown (blk_cell H86.out 5)
      have n6 := cell_regrown (blk_cell H86.out 6)
      have n7 := cell_regrown (blk_cell H86.out 7)
      have n8 := cell_regrown (blk_cell H86.out 8)
      obtain ⟨tx, htx⟩ : ∃ tx, tx = strOfNums us := ⟨_, rfl⟩
      obtain ⟨ty, hty⟩ : ∃ ty, ty = strOfNums vs := ⟨_, rfl⟩
      rw [← htx] at hcx
      rw [← hty] at hcy
      have HSE : Hid (gr = 0 → hr = 0 → ((tx.toList == ty.toList) = (kd == kd' && eqO o o'))) := Lib.hid (fun h1 h2 => by
        have e1 : mayC kd o = true := by
          cases h : mayC kd o with
          | true => rfl
          | false => have := HGR.out; rw [h, if_neg (by decide)] at this; omega
        have e2 : mayC kd' o' = true := by
          cases h : mayC kd' o' with
          | true => rfl
          | false => have := HHR.out; rw [h, if_neg (by decide)] at this; omega
        have q1 := HUS.out
        have q2 := HVS.out
        rw [e1, if_pos rfl] at q1
        rw [e2, if_pos rfl] at q2
        rw [htx, hty, q1, q2, Bool.eq_iff_iff, strL_inj (encC_byte _ _) (encC_byte _ _), Bool.and_eq_true, beq_iff_eq, eqO_iff']
        exact encC_inj e1 e2)
      clear htx hty
      go_wp2_with fail
      go_cut [70] from 54 to 81 (fun v wx => v = .bool false ∧ Below w6.heap.size w6 wx)
      case first =>
        cases be : (gr == 0) with
        | false =>
          refine wp_region_quiet_below (by kernel_rfl) (by kernel_rfl) ?_
          repeat (go_big_quiet_step ((fail)))
          refine wpQuiet_nil ?_
          intro _ hw'
          obtain ⟨⟨dq, osq⟩, hw''⟩ := hw'
          subst hw''
          go_wp2_with fail
          go_meet
          exact ⟨rfl, below_regrown w6 dq osq⟩
        | true =>
          cases bf : (hr == 0) with
          | false =>
            refine wp_region_quiet_below (by kernel_rfl) (by kernel_rfl) ?_
            repeat (go_big_quiet_step ((fail)))
            refine wpQuiet_nil ?_
            intro _ hw'
            obtain ⟨⟨dq, osq⟩, hw''⟩ := hw'
            subst hw''
            go_wp2_with fail
            go_meet
            exact ⟨rfl, below_regrown w6 dq osq⟩
          | true =>
            have HQQ := Lib.hid (HSE.out (by simpa using be) (by simpa using bf))
            have hE := eql_C kd o kd' o'
            obtain ⟨q, hq⟩ : ∃ q, q = (kd == kd' && eqO o o') := ⟨_, rfl⟩
            rw [← hq] at HQQ hE
            clear hq
            refine wp_region_quiet_below (by kernel_rfl) (by kernel_rfl) ?_
            repeat (go_big_quiet_step ((fail)))
            refine wpQuiet_nil ?_
            intro _ hw'
            obtain ⟨⟨dq, osq⟩, hw''⟩ := hw'
            subst hw''
            go_wp2_with fail
            go_meet
            exact ⟨by rw [HQQ.out]; cases q <;> rfl, below_regrown w6 dq osq⟩
      case rest =>
        obtain ⟨rfl, hb⟩ := hcut
        have HBD := Lib.hid (below_then HB6.out HB6.out.size hb)
        have HMD := Lib.hid (blk_below HM6.out hb)
        have HND := Lib.hid (blk_below HN6.out hb)
        have HCD := Lib.hid (Kd.C_below HC6.out hb)
        have HDD := Lib.hid (Kd.C_below HD6.out hb)
        clear hb m0 m1 m2 m3 m4 m5 m6 m7 m8 n0 n1 n2 n3 n4 n5 n6 n7 n8 hcx hcy HB6 HM6 HN6 H76 H86 HC6 HD6 HU6 HV6 HGR HHR HUS HVS HSE
        obtain ⟨sm, hsm⟩ : ∃ sm, sm = sameB ep k m p d l ep' k' m' p' d' l' := ⟨_, rfl⟩
        have TS : Hid (∀ dd os, Calls Try.prog 12 #[.agg (boxM ep k m p d A c l), .agg (boxM ep' k' m' p' d' A' c' l')] (Sort.grow (redrawn wc dd) os) fun e w' => e = .returned (.bool sm) ∧ Below (Sort.grow (redrawn wc dd) os).heap.size (Sort.grow (redrawn wc dd) os) w') := Lib.hid (fun dd os => by rw [hsm]; exact rsame_calls ep k m p d A c l ep' k' m' p' d' A' c' l' _ (Kd.C_below HCD.out (below_regrown wc dd os)) HCAP.out (Kd.C_below HDD.out (below_regrown wc dd os)) HCAP'.out)
        have TA : Hid (∀ dd os, Calls Try.prog 14 #[.agg (boxM ep k m p d A c l), .agg (boxM ep' k' m' p' d' A' c' l')] (Sort.grow (redrawn wc dd) os) fun e w' => e = .returned (.bool sm) ∧ Below (Sort.grow (redrawn wc dd) os).heap.size (Sort.grow (redrawn wc dd) os) w') := Lib.hid (fun dd os => by rw [hsm]; exact asame_calls ep k m p d A c l ep' k' m' p' d' A' c' l' _ (Kd.C_below HCD.out (below_regrown wc dd os)) HCAP.out (Kd.C_below HDD.out (below_regrown wc dd os)) HCAP'.out)
        unfold boxM at TS TA
        have hmm : (sm == sm) = true := by cases sm <;> rfl
        clear hsm
        have m0 := cell_regrown (blk_cell HMD.out 0)
        have m1 := cell_regrown (blk_cell HMD.out 1)
        have m2 := cell_regrown (blk_cell HMD.out 2)
        have m3 := cell_regrown (blk_cell HMD.out 3)
        have m4 := cell_regrown (blk_cell HMD.out 4)
        have m5 := cell_regrown (blk_cell HMD.out 5)
        have n0 := cell_regrown (blk_cell HND.out 0)
        have n1 := cell_regrown (blk_cell HND.out 1)
        have n2 := cell_regrown (blk_cell HND.out 2)
        have n3 := cell_regrown (blk_cell HND.out 3)
        have n4 := cell_regrown (blk_cell HND.out 4)
        have n5 := cell_regrown (blk_cell HND.out 5)
        go_wp2_with fail
        refine wp_region_quiet_below (by kernel_rfl) (by kernel_rfl) ?_
        repeat (go_big_quiet_step ((first | (go_at_call 12; exact Calls.regrown_of (TS.out _ _)) | (go_at_call 14; exact Calls.regrown_of (TA.out _ _)) | (go_at_call 8; exact Calls.regrown_of (awake13_calls _)))))
        refine wpQuiet_nil ?_
        intro _ hw'
        obtain ⟨⟨dq, osq⟩, hw''⟩ := hw'
        subst hw''
        go_wp2_with fail
        go_ret
        exact ⟨rfl, below_then HBD.out HBD.out.size (below_regrown wc dq osq)⟩
  refine two_ (i := 4) (j := 5) (Ni := some 7) (Nj := some 8) #[true, true, true, true, true, false, false, false] #[true, true, true, true, false, true, false, false] rfl rfl rfl rfl (by kernel_rfl) (by decide) (by decide) (fun K hK => ?_) (fun K hK => ?_)
  · refine value_ (w1 := ?_) (v := ?_) (by rfl) rfl ?_ ?_
    rotate_left 2
    · go_simp
      constructor
      · rfl
      · rfl
    refine hK.out _ _ (below_alloc HB2.out _) (fun hHeld => ?_)
    clear hK K
    refine norm_ (a' := ?_) ?_ ?_
    rotate_left
    · show Act.put _ (some 7) _ = _
      simp only [Act.put, List.setIfInBounds_toArray, List.set_cons_zero, List.set_cons_succ, i64_w, i32_w]
      rfl
    have HB11 := Lib.hid hHeld
    have F11 := Lib.hid (blk_new wd (.cells #[.int .i64 0, .int .i64 0, .bool false, .bool false, .int .i64 0, .int .i64 0, .int .i64 0, .int .i64 0, .int .i64 0] 39))
    have G11 : Hid (w1.heap.size ≤ wd.heap.size) := Lib.hid HB2.out.size
    refine one_ (i := 5) (N := some 8) #[true, true, true, true, true, true, false, false] rfl rfl (by kernel_rfl) (by decide) (fun K hK => ?_)
    refine value_ (w1 := ?_) (v := ?_) (by rfl) rfl ?_ ?_
    rotate_left 2
    · go_simp
      constructor
      · rfl
      · rfl
    refine hK.out _ _ (below_alloc HB11.out _) (fun hHeld => ?_)
    clear hK K
    refine norm_ (a' := ?_) ?_ ?_
    rotate_left
    · show Act.put _ (some 8) _ = _
      simp only [Act.put, List.setIfInBounds_toArray, List.set_cons_zero, List.set_cons_succ, i64_w, i32_w]
      rfl
    have hsz : (wd.alloc (.cells #[.int .i64 0, .int .i64 0, .bool false, .bool false, .int .i64 0, .int .i64 0, .int .i64 0, .int .i64 0, .int .i64 0] 39)).heap.size = wd.heap.size + 1 := by simp only [World.alloc, Array.size_push]
    have HB13 := Lib.hid hHeld
    have F13 : Hid (((wd.alloc (.cells #[.int .i64 0, .int .i64 0, .bool false, .bool false, .int .i64 0, .int .i64 0, .int .i64 0, .int .i64 0, .int .i64 0] 39)).alloc (.cells #[.int .i64 0, .int .i64 0, .bool false, .bool false, .int .i64 0, .int .i64 0, .int .i64 0, .int .i64 0, .int .i64 0] 39)).heap[wd.heap.size + 1]? = some (.cells #[.int .i64 0, .int .i64 0, .bool false, .bool false, .int .i64 0, .int .i64 0, .int .i64 0, .int .i64 0, .int .i64 0] 39 (0, 0))) := Lib.hid (by have h := blk_new (wd.alloc (.cells #[.int .i64 0, .int .i64 0, .bool false, .bool false, .int .i64 0, .int .i64 0, .int .i64 0, .int .i64 0, .int .i64 0] 39)) (.cells #[.int .i64 0, .int .i64 0, .bool false, .bool false, .int .i64 0, .int .i64 0, .int .i64 0, .int .i64 0, .int .i64 0] 39); rw [hsz] at h; exact h)
    have G13 : Hid (w1.heap.size ≤ (wd.heap.size + 1)) := Lib.hid (by rw [← hsz]; exact HB11.out.size)
    have N13 : Hid (wd.heap.size ≠ (wd.heap.size + 1)) := Lib.hid (fun e => by have := blk_lt F11.out; omega)
    have E13 := Lib.hid (blk_alloc F11.out (.cells #[.int .i64 0, .int .i64 0, .bool false, .bool false, .int .i64 0, .int .i64 0, .int .i64 0, .int .i64 0, .int .i64 0] 39))
    clear hsz
    refine one_ (i := 6) (N := none) #[true, true, true, true, true, true, true, false] rfl rfl (by kernel_rfl) (by decide) (fun K hK => ?_)
    refine Stb.store_step (by rfl) rfl 39 (.tmp 7) (.tmp 14) (by rfl) (cur' := #[.int .i64 kd, .int .i64 o.f0, .bool o.f1, .bool o.f2, .int .i64 o.f3, .int .i64 o.f4, .int .i64 o.f5, .int .i64 o.f6, .int .i64 o.f7]) [.int .i64 kd, .int .i64 o.f0, .bool o.f1, .bool o.f2, .int .i64 o.f3, .int .i64 o.f4, .int .i64 o.f5, .int .i64 o.f6, .int .i64 o.f7] E13.out (by rfl) (by rfl) (by rfl) (by kernel_rfl) (Nat.le_refl 9) (by rfl) (by rfl) ?_
    intro v14 hz hg hs
    have HB14 := Lib.hid (Stb.below_grown1 HB13.out hg G11.out HB13.out.size)
    have F14 := Lib.hid hz
    have E14 := Lib.hid (blk_grown F13.out hg (fun e => N13.out (Option.some.inj e).symm))
    clear hz hg hs
    refine hK.out _ _ HB14.out (fun hHeld => ?_)
    clear hK K
    refine norm_ (a' := ?_) ?_ ?_
    rotate_left
    · show Act.put _ (none) _ = _
      simp only [Act.put, List.setIfInBounds_toArray, List.set_cons_zero, List.set_cons_succ, i64_w, i32_w]
      rfl
    refine one_ (i := 7) (N := none) #[true, true, true, true, true, true, true, true] rfl rfl (by kernel_rfl) (by decide) (fun K hK => ?_)
    refine Stb.store_step (by rfl) rfl 39 (.tmp 8) (.tmp 16) (by rfl) (cur' := #[.int .i64 kd', .int .i64 o'.f0, .bool o'.f1, .bool o'.f2, .int .i64 o'.f3, .int .i64 o'.f4, .int .i64 o'.f5, .int .i64 o'.f6, .int .i64 o'.f7]) [.int .i64 kd', .int .i64 o'.f0, .bool o'.f1, .bool o'.f2, .int .i64 o'.f3, .int .i64 o'.f4, .int .i64 o'.f5, .int .i64 o'.f6, .int .i64 o'.f7] E14.out (by rfl) (by rfl) (by rfl) (by kernel_rfl) (Nat.le_refl 9) (by rfl) (by rfl) ?_
    intro v15 hz hg hs
    have HB15 := Lib.hid (Stb.below_grown1 HB14.out hg G13.out HB14.out.size)
    have F15 := Lib.hid hz
    have E15 := Lib.hid (blk_grown F14.out hg (fun e => N13.out (Option.some.inj e)))
    clear hz hg hs
    refine hK.out _ _ HB15.out (fun hHeld => ?_)
    clear hK K
    refine norm_ (a' := ?_) ?_ ?_
    rotate_left
    · show Act.put _ (none) _ = _
      simp only [Act.put, List.setIfInBounds_toArray, List.set_cons_zero, List.set_cons_succ, i64_w, i32_w]
      rfl
    have h9 := hfin (wd.heap.size, (wd.heap.size + 1)) _ ⟨E15, F15, HB15⟩
    refine norm_ ?_ h9
    show _ = putAll _ _
    simp only [putAll, Act.put, List.setIfInBounds_toArray, List.set_cons_zero, List.set_cons_succ]
  · refine value_ (w1 := ?_) (v := ?_) (by rfl) rfl ?_ ?_
    rotate_left 2
    · go_simp
      constructor
      · rfl
      · rfl
    refine hK.out _ _ (below_alloc HB2.out _) (fun hHeld => ?_)
    clear hK K
    refine norm_ (a' := ?_) ?_ ?_
    rotate_left
    · show Act.put _ (some 8) _ = _
      simp only [Act.put, List.setIfInBounds_toArray, List.set_cons_zero, List.set_cons_succ, i64_w, i32_w]
      rfl
    have HB12 := Lib.hid hHeld
    have F12 := Lib.hid (blk_new wd (.cells #[.int .i64 0, .int .i64 0, .bool false, .bool false, .int .i64 0, .int .i64 0, .int .i64 0, .int .i64 0, .int .i64 0] 39))
    have G12 : Hid (w1.heap.size ≤ wd.heap.size) := Lib.hid HB2.out.size
    refine one_ (i := 4) (N := some 7) #[true, true, true, true, true, true, false, false] rfl rfl (by kernel_rfl) (by decide) (fun K hK => ?_)
    refine value_ (w1 := ?_) (v := ?_) (by rfl) rfl ?_ ?_
    rotate_left 2
    · go_simp
      constructor
      · rfl
      · rfl
    refine hK.out _ _ (below_alloc HB12.out _) (fun hHeld => ?_)
    clear hK K
    refine norm_ (a' := ?_) ?_ ?_
    rotate_left
    · show Act.put _ (some 7) _ = _
      simp only [Act.put, List.setIfInBounds_toArray, List.set_cons_zero, List.set_cons_succ, i64_w, i32_w]
      rfl
    have hsz : (wd.alloc (.cells #[.int .i64 0, .int .i64 0, .bool false, .bool false, .int .i64 0, .int .i64 0, .int .i64 0, .int .i64 0, .int .i64 0] 39)).heap.size = wd.heap.size + 1 := by simp only [World.alloc, Array.size_push]
    have HB16 := Lib.hid hHeld
    have F16 : Hid (((wd.alloc (.cells #[.int .i64 0, .int .i64 0, .bool false, .bool false, .int .i64 0, .int .i64 0, .int .i64 0, .int .i64 0, .int .i64 0] 39)).alloc (.cells #[.int .i64 0, .int .i64 0, .bool false, .bool false, .int .i64 0, .int .i64 0, .int .i64 0, .int .i64 0, .int .i64 0] 39)).heap[wd.heap.size + 1]? = some (.cells #[.int .i64 0, .int .i64 0, .bool false, .bool false, .int .i64 0, .int .i64 0, .int .i64 0, .int .i64 0, .int .i64 0] 39 (0, 0))) := Lib.hid (by have h := blk_new (wd.alloc (.cells #[.int .i64 0, .int .i64 0, .bool false, .bool false, .int .i64 0, .int .i64 0, .int .i64 0, .int .i64 0, .int .i64 0] 39)) (.cells #[.int .i64 0, .int .i64 0, .bool false, .bool false, .int .i64 0, .int .i64 0, .int .i64 0, .int .i64 0, .int .i64 0] 39); rw [hsz] at h; exact h)
    have G16 : Hid (w1.heap.size ≤ (wd.heap.size + 1)) := Lib.hid (by rw [← hsz]; exact HB12.out.size)
    have N16 : Hid (wd.heap.size ≠ (wd.heap.size + 1)) := Lib.hid (fun e => by have := blk_lt F12.out; omega)
    have E16 := Lib.hid (blk_alloc F12.out (.cells #[.int .i64 0, .int .i64 0, .bool false, .bool false, .int .i64 0, .int .i64 0, .int .i64 0, .int .i64 0, .int .i64 0] 39))
    clear hsz
    refine one_ (i := 6) (N := none) #[true, true, true, true, true, true, true, false] rfl rfl (by kernel_rfl) (by decide) (fun K hK => ?_)
    refine Stb.store_step (by rfl) rfl 39 (.tmp 7) (.tmp 14) (by rfl) (cur' := #[.int .i64 kd, .int .i64 o.f0, .bool o.f1, .bool o.f2, .int .i64 o.f3, .int .i64 o.f4, .int .i64 o.f5, .int .i64 o.f6, .int .i64 o.f7]) [.int .i64 kd, .int .i64 o.f0, .bool o.f1, .bool o.f2, .int .i64 o.f3, .int .i64 o.f4, .int .i64 o.f5, .int .i64 o.f6, .int .i64 o.f7] F16.out (by rfl) (by rfl) (by rfl) (by kernel_rfl) (Nat.le_refl 9) (by rfl) (by rfl) ?_
    intro v17 hz hg hs
    have HB17 := Lib.hid (Stb.below_grown1 HB16.out hg G16.out HB16.out.size)
    have F17 := Lib.hid hz
    have E17 := Lib.hid (blk_grown E16.out hg (fun e => N16.out (Option.some.inj e)))
    clear hz hg hs
    refine hK.out _ _ HB17.out (fun hHeld => ?_)
    clear hK K
    refine norm_ (a' := ?_) ?_ ?_
    rotate_left
    · show Act.put _ (none) _ = _
      simp only [Act.put, List.setIfInBounds_toArray, List.set_cons_zero, List.set_cons_succ, i64_w, i32_w]
      rfl
    refine one_ (i := 7) (N := none) #[true, true, true, true, true, true, true, true] rfl rfl (by kernel_rfl) (by decide) (fun K hK => ?_)
    refine Stb.store_step (by rfl) rfl 39 (.tmp 8) (.tmp 16) (by rfl) (cur' := #[.int .i64 kd', .int .i64 o'.f0, .bool o'.f1, .bool o'.f2, .int .i64 o'.f3, .int .i64 o'.f4, .int .i64 o'.f5, .int .i64 o'.f6, .int .i64 o'.f7]) [.int .i64 kd', .int .i64 o'.f0, .bool o'.f1, .bool o'.f2, .int .i64 o'.f3, .int .i64 o'.f4, .int .i64 o'.f5, .int .i64 o'.f6, .int .i64 o'.f7] E17.out (by rfl) (by rfl) (by rfl) (by kernel_rfl) (Nat.le_refl 9) (by rfl) (by rfl) ?_
    intro v18 hz hg hs
    have HB18 := Lib.hid (Stb.below_grown1 HB17.out hg G12.out HB17.out.size)
    have F18 := Lib.hid hz
    have E18 := Lib.hid (blk_grown F17.out hg (fun e => N16.out (Option.some.inj e).symm))
    clear hz hg hs
    refine hK.out _ _ HB18.out (fun hHeld => ?_)
    clear hK K
    refine norm_ (a' := ?_) ?_ ?_
    rotate_left
    · show Act.put _ (none) _ = _
      simp only [Act.put, List.setIfInBounds_toArray, List.set_cons_zero, List.set_cons_succ, i64_w, i32_w]
      rfl
    have h9 := hfin ((wd.heap.size + 1), wd.heap.size) _ ⟨E18, F18, HB18⟩
    refine norm_ ?_ h9
    show _ = putAll _ _
    simp only [putAll, Act.put, List.setIfInBounds_toArray, List.set_cons_zero, List.set_cons_succ]
end Go.Proofs.Ytfikaekocgofoaa.LuA
/- AtlasUnlike: the walk, by its arguments' readings. -/
namespace Go.Proofs.Ytfikaekocgofoaa.LuO
open Go Go.RowKit Go.Proofs.YtfikaekocgofoaaW.PrintWords Opns PAll KW AtA Grp AtB McW AtS LaA UpsO AtO LuA
abbrev kC2 : Kd (Chg × Chg) := Kd.pair kC kC
theorem opens_C2 : Opens 44 kC2 (fun x => goodC x.1 ∧ goodC x.2) (fun _ => 1 + 1 + 1) := opens_array2 Try.underlying44 (by kernel_rfl) (by kernel_rfl) opens_C
theorem two_open {w : World} {x : Chg × Chg} {cs : Array Value} (h : kC2.K w x cs.toList) : cs = two x.1.kd x.1.o x.2.kd x.2.o := by
  rw [← Array.toArray_toList (xs := cs)]
  obtain ⟨_, _, e, h1, h2⟩ := h
  rw [e, kC_open h1, kC_open h2]
  rfl
theorem walkUnlike (cs0 : Array Value) (x0 : Mp) (cs1 : Array Value) (x1 : Mp) (cs2 : Array Value) (x2 : Chg × Chg) (w : World) (c0 : kMp.K w x0 cs0.toList) (g0 : goodM x0) (c1 : kMp.K w x1 cs1.toList) (g1 : goodM x1) (c2 : kC2.K w x2 cs2.toList) (_ : goodC x2.1 ∧ goodC x2.2) :
    Calls Try.prog 5 #[.agg cs0, .agg cs1, .agg cs2] w fun e w' => e = .returned (.bool true) ∧ Below w.heap.size w w' := by
  obtain ⟨A, c, rfl, hl, hc, hw⟩ := map_open c0 g0
  obtain ⟨A', c', rfl, hl', hc', hw'⟩ := map_open c1 g1
  rw [two_open c2]
  exact unlike_calls _ _ _ _ _ A c x0.f2 _ _ _ _ _ A' c' x1.f2 _ _ _ _ w hc hl hw hc' hl' hw'
end Go.Proofs.Ytfikaekocgofoaa.LuO
/- It is proved that mooringlaw13.AtlasUnlike returns true for every two maps and every two changes: unlike maps, and unlike changes, have unlike bytes. No condition. -/
namespace Go.Proofs.Ytfikaekocgofoaa.atlasUnlike
open Go.ChangeShapes Go.WideShapes Go.ChangeAt Go.RowKit Go.Proofs.Ytfikaekocgofoaa.Opns
open Go.ChangeMaps (open_string shut_string)
set_option linter.unusedVariables false
theorem own : ownKnob Try.prog.godebug = none := by kernel_rfl
theorem laidOut : laidOutB Try.prog = true := by kernel_rfl
set_option maxRecDepth 100000 in
theorem lifted (os : Os) (started : os.Started) (H : Type) (enc : TypeId × Value → H) :
    ReturnsInHanded {} Try.checked os 5 .any (Rows.atlasUnlikeSpec.pre6 enc Try.prog Try.f5 Rows.atlasUnlikeRow.domain false) (Rows.atlasUnlikeSpec.post enc Try.prog Try.f5 false true false false) := by
  refine returnsInHanded_of_change_sized (C := Try.checked) own started (by kernel_rfl) Try.func5
    (ChangeSpec.witness6 (enc := enc) (C := Try.checked) false ⟨#[], #[.agg #[.int .i64 0, .int .i64 0, .int .i64 0, .int .i64 0, .int .i64 0, .slice none 0 0], .agg #[.int .i64 0, .int .i64 0, .int .i64 0, .int .i64 0, .int .i64 0, .slice none 0 0], .agg #[.int .i64 0, .int .i64 0, .bool false, .bool false, .int .i64 0, .int .i64 0, .int .i64 0, .int .i64 0, .int .i64 0, .int .i64 0, .int .i64 0, .bool false, .bool false, .int .i64 0, .int .i64 0, .int .i64 0, .int .i64 0, .int .i64 0]], []⟩ 8 (by kernel_rfl) (by kernel_rfl) (by kernel_rfl) (by kernel_rfl)) ?_
  intro W base args ds gs before hval0 hW hcnd hsz0 _
  have hsz : (DataW.weightsEach Try.prog (Try.f5.params.toList ++ Rows.atlasUnlikeSpec.plain.varTypes Try.prog) (ds ++ gs)).all (· ≤ reachBytes) = true := hsz0
  have hval : ∀ (j : Nat) t v, Try.f5.params[j]? = some t → args[j]? = some v → Value.okWide Try.prog W .any base t v := hval0
  have hW' := hW
  obtain ⟨p, q, hA0, hV, rfl, hfz, hnd⟩ := hW
  have hA : DataW.TrodAll enc Try.prog W 0 (fun _ => true) true Try.f5.params.toList args.toList ds p := hA0
  rw [Try.params5] at hA hval hsz
  obtain ⟨v0, vs0, d0, ds0, p0, q0, hargs, rfl, rfl, h0, r0⟩ := trodAll_cons hA
  obtain ⟨v1, vs1, d1, ds1, p1, q1, rfl, rfl, rfl, h1, r1⟩ := trodAll_cons r0
  obtain ⟨v2, vs2, d2, ds2, p2, q2, rfl, rfl, rfl, h2, r2⟩ := trodAll_cons r1
  obtain ⟨rfl, rfl, rfl⟩ := trodAll_nil r2
  obtain rfl : args = #[v0, v1, v2] := by cases args; simp_all
  obtain ⟨rfl, rfl⟩ := trodVars_none hV
  have m0 := weigh (j := 0) (t := 28) hsz rfl rfl
  have k0 := h0
  have lt0 : ∀ x ∈ p0, x.block < W.heap.size := by obtain ⟨m, hm⟩ := k0; exact DataW.trod_lt m _ _ _ hm
  obtain ⟨cs0, rfl⟩ := okw_struct Try.underlying28 (hval 0 28 v0 rfl rfl)
  obtain ⟨x0, c0, g0, b0⟩ := arg_agg AtO.opens_M h0 m0
  have m1 := weigh (j := 1) (t := 28) hsz rfl rfl
  have k1 := h1
  have lt1 : ∀ x ∈ p1, x.block < W.heap.size := by obtain ⟨m, hm⟩ := k1; exact DataW.trod_lt m _ _ _ hm
  obtain ⟨cs1, rfl⟩ := okw_struct Try.underlying28 (hval 1 28 v1 rfl rfl)
  obtain ⟨x1, c1, g1, b1⟩ := arg_agg AtO.opens_M h1 m1
  have m2 := weigh (j := 2) (t := 44) hsz rfl rfl
  have k2 := h2
  have lt2 : ∀ x ∈ p2, x.block < W.heap.size := by obtain ⟨m, hm⟩ := k2; exact DataW.trod_lt m _ _ _ hm
  obtain ⟨cs2, rfl⟩ := okw_array Try.underlying44 (hval 2 44 v2 rfl rfl)
  obtain ⟨x2, c2, g2, b2⟩ := arg_agg LuO.opens_C2 h2 m2
  clear hA0 hval0 hsz0 hsz
  refine (LuO.walkUnlike cs0 x0 cs1 x1 cs2 x2 W c0 g0 c1 g1 c2 g2).mono fun e W' ⟨he, bel⟩ => ?_
  subst he
  exact ⟨_, rfl, _, _, _, [], _, [], hW', trodAll_mk1 (shut_bool Try.underlying4 _), (trodAll_cons_mk (Below.trod laidOut (by kernel_rfl) (of_decide_eq_true (by kernel_rfl)) k0 bel lt0) (trodAll_cons_mk (Below.trod laidOut (by kernel_rfl) (of_decide_eq_true (by kernel_rfl)) k1 bel lt1) (trodAll_cons_mk (Below.trod laidOut (by kernel_rfl) (of_decide_eq_true (by kernel_rfl)) k2 bel lt2) trodAll_mk0))), rfl, bel.frame _, fun h => by cases h⟩
theorem over : Rows.atlasUnlikeRow.holds Try.pinned (OpenSpec.ofChange Rows.atlasUnlikeSpec) :=
  OpenClaim.holds_of_wide 5 Try.f5 rfl rfl rfl rfl rfl rfl rfl ⟨rfl, rfl, rfl, rfl, rfl⟩ rfl rfl rfl rfl rfl (by kernel_rfl) Try.func5 (by kernel_rfl)
    (of_decide_eq_true (by kernel_rfl)) (by unfold Func.isWrapper; first | (rw [if_pos (by decide +kernel)]; kernel_rfl) | (rw [if_neg (by decide +kernel)]; exact ⟨rfl, rfl⟩))
    (fun os started H enc _ => lifted os started H enc)
theorem proved : Rows.AtlasUnlikeSaid := over
#print axioms proved
end Go.Proofs.Ytfikaekocgofoaa.atlasUnlike
