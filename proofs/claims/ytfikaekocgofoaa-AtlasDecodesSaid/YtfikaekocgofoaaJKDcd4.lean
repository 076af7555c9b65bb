import Derived.Test.YtfikaekocgofoaaJKDcd3
import Derived.Test.YtfikaekocgofoaaJKAppD
import Derived.Laws.BytesArg
import Derived.Lib.Bytes
/- Merged texts, one behind the other: AtR, AtS, AtF, AtW, AtE, EnP, RdL, Get, Enc, Dec, RdP, StI, Rde, LaA. -/
/- The map behind a change: whatever the change. -/
set_option linter.unusedSimpArgs false
namespace Go.Proofs.Ytfikaekocgofoaa.AtR
open Go Go.RowKit Go.Proofs.YtfikaekocgofoaaW.PrintWords Go.Proofs.YtfikaekocgofoaaW.PrintLast Go.Proofs.YtfikaekocgofoaaW.PrintMore Mem PAll KW AtA AtB Sl Dsc MayP ApP Fnd PlF Roo Awk McW ApY ApZ ApW AtK AtV AtX AtD AtC AtP Ins AtQ
open CrP hiding Od
set_option maxHeartbeats 8000000 in
set_option maxRecDepth 100000 in
theorem aapply_add (ep k m p d : Int) (A : Option Addr) (c : Nat) (l : List Od) (o : Od) (w : World) (hx : kO.C w A l.length l) (hwf : WfL l) (hmay : mayB ep k m p d l = true) (hmc : osdB o = true) (hep : (ep == 1048576) = false) (he0 : 0 ≤ ep) (he1 : ep ≤ 1048576) :
    Calls Try.prog 13 #[.agg (boxM ep k m p d A c l), .agg (chA 1 o)] w fun e w' => ∃ (er : Int) (l' : List Od), applyR ep k m p d l 1 o = (er, l') ∧ Below w.heap.size w w' ∧ ((er ≠ 0 ∧ e = .returned (.tuple #[.agg zM, .int .i64 er])) ∨ (er = 0 ∧ ∃ (A' : Option Addr) (c' : Nat), e = .returned (.tuple #[.agg (boxM (ep + 1) k m p d A' c' l'), .int .i64 0]) ∧ kO.R 37 w' w.heap.size (fun _ => True) (.slice A' l'.length c') l')) := by
  have hn := hmc
  have he2' : ep < 1048576 := by have : ep ≠ 1048576 := by simpa using hep
                                 omega
  have hs1 : (w.alloc (.cells (boxM ep k m p d A c l) 28)).heap.size = w.heap.size + 1 := by simp only [World.alloc, Array.size_push]
  have hs2 : ((w.alloc (.cells (boxM ep k m p d A c l) 28)).alloc (.cells (chA 1 o) 39)).heap.size = w.heap.size + 2 := by simp only [World.alloc, Array.size_push]
  have hs3 : (((w.alloc (.cells (boxM ep k m p d A c l) 28)).alloc (.cells (chA 1 o) 39)).alloc (.cells zM 28)).heap.size = w.heap.size + 3 := by simp only [World.alloc, Array.size_push]
  have HM1 : Hid ((((w.alloc (.cells (boxM ep k m p d A c l) 28)).alloc (.cells (chA 1 o) 39)).alloc (.cells zM 28)).heap[w.heap.size]? = some (.cells (boxM ep k m p d A c l) 28 (0, 0))) := Lib.hid (blk_below (blk_new _ _) (below_alloc (below_alloc (Below.refl _ _) _) _))
  have HG1 : Hid ((((w.alloc (.cells (boxM ep k m p d A c l) 28)).alloc (.cells (chA 1 o) 39)).alloc (.cells zM 28)).heap[w.heap.size + 1]? = some (.cells (chA 1 o) 39 (0, 0))) := Lib.hid (by
    have h := blk_new (w.alloc (.cells (boxM ep k m p d A c l) 28)) (.cells (chA 1 o) 39)
    rw [hs1] at h
    exact blk_below h (below_alloc (Below.refl _ _) _))
  have HR1 : Hid ((((w.alloc (.cells (boxM ep k m p d A c l) 28)).alloc (.cells (chA 1 o) 39)).alloc (.cells zM 28)).heap[w.heap.size + 2]? = some (.cells zM 28 (0, 0))) := Lib.hid (by
    have h := blk_new ((w.alloc (.cells (boxM ep k m p d A c l) 28)).alloc (.cells (chA 1 o) 39)) (.cells zM 28)
    rw [hs2] at h
    exact h)
  have HB1 := Lib.hid (below_alloc (below_alloc (below_alloc (Below.refl w.heap.size w) (.cells (boxM ep k m p d A c l) 28)) (.cells (chA 1 o) 39)) (.cells zM 28))
  have HC1 := Lib.hid (Kd.C_below hx HB1.out)
  obtain ⟨w1, hw1⟩ : ∃ w1, w1 = (((w.alloc (.cells (boxM ep k m p d A c l) 28)).alloc (.cells (chA 1 o) 39)).alloc (.cells zM 28)) := ⟨_, rfl⟩
  have HWN := Lib.hid hw1
  rw [← hw1] at HM1 HG1 HR1 HB1 HC1 hs3
  have HSZ := Lib.hid hs3
  have TM := Lib.hid (check_calls ep k m p d A c l w1 HC1.out hwf)
  obtain ⟨mb, hmb⟩ : ∃ mb, mb = mayB ep k m p d l := ⟨_, rfl⟩
  obtain ⟨cb, hcb⟩ : ∃ cb, cb = mayC 1 o := ⟨_, rfl⟩
  rw [← hmb] at TM
  have TC := Lib.hid (fun w1 => checkc_calls 1 o w1)
  rw [← hcb] at TC
  have HN := Lib.hid hn
  obtain rfl : mb = true := by rw [hmb]; exact hmay
  obtain rfl : cb = true := by rw [hcb]; exact hmc
  have he : (ep == 1048576) = false := hep
  have he2 : decide (ep = 1048576) = false := by simpa using hep
  have TAD := Lib.hid (fun W hW => add_calls ep k m p d A c l o W hW hwf hmay hmc he0 he2')
  clear hx hwf hn hmb hcb hw1 hs1 hs2 hs3 hmay hmc hep he0 he1 he2'
  unfold boxM chA at *
  go_enter Try.func13, Try.ntmps13
  go_wp2_with fail
  rw [← HWN.out]
  refine TM.out.mono ?_
  rintro e w2 ⟨rfl, hb⟩
  have HS1 : Hid (w.heap.size + 3 ≤ w1.heap.size) := Lib.hid (by have := HSZ.out; omega)
  have HB2 := Lib.hid (below_then HB1.out HB1.out.size hb)
  have HM2 := Lib.hid (blk_below HM1.out hb)
  have HG2 := Lib.hid (blk_below HG1.out hb)
  have HR2 := Lib.hid (blk_below HR1.out hb)
  have HC2 := Lib.hid (Kd.C_below HC1.out hb)
  have HS2 : Hid (w.heap.size + 3 ≤ w2.heap.size) := Lib.hid (Nat.le_trans HS1.out hb.size)
  clear hb HB1 HM1 HG1 HR1 HC1 HS1
  clear TM HWN HSZ
  simp only [if_true, if_false, Bool.false_eq_true]
  have c0 := blk_cell HG2.out 0
  have c1 := blk_cell HG2.out 1
  have c2 := blk_cell HG2.out 2
  have c3 := blk_cell HG2.out 3
  have c4 := blk_cell HG2.out 4
  have c5 := blk_cell HG2.out 5
  have c6 := blk_cell HG2.out 6
  have c7 := blk_cell HG2.out 7
  have c8 := blk_cell HG2.out 8
  go_wp2_with fail
  refine (TC.out _).mono ?_
  rintro e w3 ⟨rfl, hb⟩
  have HB3 := Lib.hid (below_then HB2.out HB2.out.size hb)
  have HM3 := Lib.hid (blk_below HM2.out hb)
  have HG3 := Lib.hid (blk_below HG2.out hb)
  have HR3 := Lib.hid (blk_below HR2.out hb)
  have HC3 := Lib.hid (Kd.C_below HC2.out hb)
  have HS3 : Hid (w.heap.size + 3 ≤ w3.heap.size) := Lib.hid (Nat.le_trans HS2.out hb.size)
  clear hb HB2 HM2 HG2 HR2 HC2 HS2
  clear TC c0 c1 c2 c3 c4 c5 c6 c7 c8
  simp only [if_true, if_false, Bool.false_eq_true]
  have m0 := blk_cell HM3.out 0
  have m1 := blk_cell HM3.out 1
  have m2 := blk_cell HM3.out 2
  have m3 := blk_cell HM3.out 3
  have m4 := blk_cell HM3.out 4
  have m5 := blk_cell HM3.out 5
  have c0 := blk_cell HG3.out 0
  have c1 := blk_cell HG3.out 1
  have c2 := blk_cell HG3.out 2
  have c3 := blk_cell HG3.out 3
  have c4 := blk_cell HG3.out 4
  have c5 := blk_cell HG3.out 5
  have c6 := blk_cell HG3.out 6
  have c7 := blk_cell HG3.out 7
  have c8 := blk_cell HG3.out 8
  go_wp2_with fail
  refine (TAD.out _ HC3.out).mono ?_
  rintro e w4 ⟨er, l', hap, hb, ⟨hne, rfl⟩ | ⟨rfl, A7, cp7, rfl, hr⟩⟩
  · have HAP := Lib.hid hap
    have HNE := Lib.hid hne
    clear hap hne
    have HB4 := Lib.hid (below_then HB3.out HB3.out.size hb)
    have HM4 := Lib.hid (blk_below HM3.out hb)
    have HG4 := Lib.hid (blk_below HG3.out hb)
    have HR4 := Lib.hid (blk_below HR3.out hb)
    have HC4 := Lib.hid (Kd.C_below HC3.out hb)
    have HS4 : Hid (w.heap.size + 3 ≤ w4.heap.size) := Lib.hid (Nat.le_trans HS3.out hb.size)
    clear hb HB3 HM3 HG3 HR3 HC3 HS3
    clear TAD m0 m1 m2 m3 m4 m5 c0 c1 c2 c3 c4 c5 c6 c7 c8
    unfold zM
    go_wp2_with (first | (refine gate_ (.store 28 (.tmp 4) (.tmp 29)) rfl ?_; go_must (refine Stb.store_list rfl rfl 28 (.tmp 4) (.tmp 29) rfl (cur' := zM) [.int .i64 0, .int .i64 0, .int .i64 0, .int .i64 0, .int .i64 0, .slice none 0 0] (by exact HR4.out) (by rfl) (by rfl) (by rfl) (by kernel_rfl) (Nat.le_of_ble_eq_true rfl) (by rfl) (by rfl) ?_; intro wf hz_ hg_ hs_; have HF := Lib.hid hz_; have HBF := Lib.hid (Stb.below_grown1 HB4.out hg_ (Nat.le_add_right _ 2) HB4.out.size); clear hz_ hg_ hs_)))
    refine bodyPost_ret (results_ct rfl _ _ (w.heap.size + 2) 28 zM (0, 0) _ rfl HF.out Try.underlying28 rfl (by kernel_rfl)) rfl ?_
    exact ⟨er, l', HAP.out, HBF.out, .inl ⟨HNE.out, rfl⟩⟩
  · have HAP := Lib.hid hap
    have HO4 := Lib.hid (Kd.R_lower (Kd.R_mono (Kd.R_bound hr) (fun k hk => (by have := HS3.out; omega : k ≠ w.heap.size + 2))) HB3.out.size)
    clear hap hr
    have HB4 := Lib.hid (below_then HB3.out HB3.out.size hb)
    have HM4 := Lib.hid (blk_below HM3.out hb)
    have HG4 := Lib.hid (blk_below HG3.out hb)
    have HR4 := Lib.hid (blk_below HR3.out hb)
    have HC4 := Lib.hid (Kd.C_below HC3.out hb)
    have HS4 : Hid (w.heap.size + 3 ≤ w4.heap.size) := Lib.hid (Nat.le_trans HS3.out hb.size)
    clear hb HB3 HM3 HG3 HR3 HC3 HS3
    clear TAD m0 m1 m2 m3 m4 m5 c0 c1 c2 c3 c4 c5 c6 c8
    go_wp2_with (first | (refine gate_ (.store 28 (.tmp 4) (.tmp 29)) rfl ?_; go_must (refine Stb.store_list rfl rfl 28 (.tmp 4) (.tmp 29) rfl (cur' := #[.int .i64 (ep + 1), .int .i64 k, .int .i64 m, .int .i64 p, .int .i64 d, .slice A7 l'.length cp7]) [.int .i64 (ep + 1), .int .i64 k, .int .i64 m, .int .i64 p, .int .i64 d, .slice A7 l'.length cp7] (by exact HR4.out) (by rfl) (by rfl) (by rfl) (by kernel_rfl) (Nat.le_of_ble_eq_true rfl) (by rfl) (by rfl) ?_; intro wf hz_ hg_ hs_; have HF := Lib.hid hz_; have HBF := Lib.hid (Stb.below_grown1 HB4.out hg_ (Nat.le_add_right _ 2) HB4.out.size); have HWF := Lib.hid (Kd.R_grown HO4.out hg_ (fun k hk e => hk (Option.some.inj e))); clear hz_ hg_ hs_)))
    refine bodyPost_ret (results_ct rfl _ _ (w.heap.size + 2) 28 #[.int .i64 (ep + 1), .int .i64 k, .int .i64 m, .int .i64 p, .int .i64 d, .slice A7 l'.length cp7] (0, 0) _ rfl HF.out Try.underlying28 rfl (by kernel_rfl)) rfl ?_
    exact ⟨0, l', HAP.out, HBF.out, .inr ⟨rfl, A7, cp7, rfl, Kd.R_mono HWF.out (fun _ _ => trivial)⟩⟩
/-- What a change comes to, whoever reckons it. -/
def Ans (ep k m p d : Int) (l : List Od) (kd : Int) (o : Od) (er : Int) (l' : List Od) : Prop :=
  ((mayB ep k m p d l && (mayC kd o && !(ep == 1048576))) = false ∧ er = 1) ∨
  ((mayB ep k m p d l && (mayC kd o && !(ep == 1048576))) = true ∧ kd = 1 ∧ applyR ep k m p d l 1 o = (er, l')) ∨
  ((mayB ep k m p d l && (mayC kd o && !(ep == 1048576))) = true ∧ knownB kd = true ∧ ((findO l o.f0 = none ∧ er = 4) ∨ ∃ (j : Nat) (q : Od), l[j]? = some q ∧ findO l o.f0 = some q ∧ ((eqO (chg kd q o) q = true ∧ er = 6) ∨ (eqO (chg kd q o) q = false ∧ er = 0 ∧ l' = l.set j (chg kd q o)))))
theorem known_or {kd : Int} {o : Od} (h : mayC kd o = true) : kd = 1 ∨ knownB kd = true := by
  cases hk : knownB kd with
  | true => exact .inr rfl
  | false =>
    rw [mayC_no o hk] at h
    simp only [Bool.and_eq_true, decide_eq_true_eq] at h
    exact .inl h.1
theorem may_ep01 {ep k m p d : Int} {l : List Od} (h : mayB ep k m p d l = true) : 0 ≤ ep ∧ ep ≤ 1048576 := by
  unfold mayB winB at h
  simp only [Bool.and_eq_true, decide_eq_true_eq] at h
  exact h.1
theorem ans_one {ep k m p d : Int} {l : List Od} {kd : Int} {o : Od} {er er2 : Int} {l' l2 : List Od} (h : Ans ep k m p d l kd o er l') (h2 : Ans ep k m p d l kd o er2 l2) : er = er2 ∧ (er = 0 → l' = l2) := by
  have kn : knownB 1 = true → False := by decide
  rcases h with ⟨hb, e⟩ | ⟨hb, hk, e⟩ | ⟨hb, hk, e⟩ <;> rcases h2 with ⟨hb2, f⟩ | ⟨hb2, hk2, f⟩ | ⟨hb2, hk2, f⟩
  · subst e f; exact ⟨rfl, fun h => absurd h (by decide)⟩
  · rw [hb] at hb2; cases hb2
  · rw [hb] at hb2; cases hb2
  · rw [hb] at hb2; cases hb2
  · rw [e] at f
    injection f with f1 f2
    exact ⟨f1, fun _ => f2⟩
  · subst hk; exact (kn hk2).elim
  · rw [hb] at hb2; cases hb2
  · subst hk2; exact (kn hk).elim
  · have hm : mayB ep k m p d l = true := by simp only [Bool.and_eq_true] at hb; exact hb.1
    have ha := asc2_may hm
    rcases e with ⟨e1, e2⟩ | ⟨j, q, hj, hq, e⟩ <;> rcases f with ⟨f1, f2⟩ | ⟨i, r, hi, hr, f⟩
    · subst e2 f2; exact ⟨rfl, fun h => absurd h (by decide)⟩
    · rw [e1] at hr; cases hr
    · rw [f1] at hq; cases hq
    · rw [hq] at hr
      obtain rfl := Option.some.inj hr
      have hij : j = i := by
        rcases Nat.lt_trichotomy j i with h | h | h
        · have := ha j i q q h hj hi; omega
        · exact h
        · have := ha i j q q h hi hj; omega
      subst hij
      rcases e with ⟨e1, e2⟩ | ⟨e1, e2, e3⟩ <;> rcases f with ⟨f1, f2⟩ | ⟨f1, f2, f3⟩
      · subst e2 f2; exact ⟨rfl, fun h => absurd h (by decide)⟩
      · rw [e1] at f1; cases f1
      · rw [e1] at f1; cases f1
      · subst e2 e3 f2 f3; exact ⟨rfl, fun _ => rfl⟩
def Told (ep k m p d : Int) (l : List Od) (kd : Int) (o : Od) (w : World) (e : Ending) (w' : World) : Prop :=
  ∃ (er : Int) (l' : List Od), Ans ep k m p d l kd o er l' ∧ Below w.heap.size w w' ∧ ((er ≠ 0 ∧ e = .returned (.tuple #[.agg zM, .int .i64 er])) ∨ (er = 0 ∧ ∃ (A' : Option Addr) (c' : Nat), e = .returned (.tuple #[.agg (boxM (ep + 1) k m p d A' c' l'), .int .i64 0]) ∧ kO.R 37 w' w.heap.size (fun _ => True) (.slice A' l'.length c') l'))
theorem aapply_calls (ep k m p d : Int) (A : Option Addr) (c : Nat) (l : List Od) (kd : Int) (o : Od) (w : World) (hx : kO.C w A l.length l) (hwf : WfL l) :
    Calls Try.prog 13 #[.agg (boxM ep k m p d A c l), .agg (chA kd o)] w (Told ep k m p d l kd o w) := by
  cases hb : (mayB ep k m p d l && (mayC kd o && !(ep == 1048576))) with
  | false =>
    refine (aapply_bad ep k m p d A c l kd o w hx hwf hb).mono ?_
    rintro e w1 ⟨rfl, h⟩
    exact ⟨1, [], .inl ⟨hb, rfl⟩, h, .inl ⟨by decide, rfl⟩⟩
  | true =>
    have hb' := hb
    simp only [Bool.and_eq_true, Bool.not_eq_true'] at hb'
    obtain ⟨h1, h2, h3⟩ := hb'
    obtain ⟨he0, he1⟩ := may_ep01 h1
    rcases known_or h2 with rfl | hk
    · refine (aapply_add ep k m p d A c l o w hx hwf h1 h2 h3 he0 he1).mono ?_
      rintro e w1 ⟨er, l', ha, h⟩
      exact ⟨er, l', .inr (.inl ⟨hb, rfl, ha⟩), h⟩
    · refine (aapply_set ep k m p d A c l kd o w hx hwf hk h1 h2 h3 he0 he1).mono ?_
      rintro e w1 ⟨er, l', ha, h⟩
      exact ⟨er, l', .inr (.inr ⟨hb, hk, ha⟩), h⟩
end Go.Proofs.Ytfikaekocgofoaa.AtR
/- Changes, one behind the other; a pool's first map. -/
set_option linter.unusedSimpArgs false
namespace Go.Proofs.Ytfikaekocgofoaa.AtS
open Go Go.RowKit Go.Proofs.YtfikaekocgofoaaW.PrintWords Go.Proofs.YtfikaekocgofoaaW.PrintLast Go.Proofs.YtfikaekocgofoaaW.PrintMore Mem PAll KW AtA AtB Sl Dsc MayP ApP Fnd PlF Roo Awk McW ApY ApZ ApW AtK AtV AtX AtD AtC AtP Ins AtQ AtR
open CrP hiding Od
structure Chg where
  kd : Int
  o : Od
  deriving Inhabited
def kC : Kd Chg := Kd.iso (Kd.pair (Kd.int .i64) kO) (fun x => (x.kd, x.o))
theorem kC_open {w : World} {x : Chg} {cs : List Value} (h : kC.K w x cs) : cs = (chA x.kd x.o).toList := by
  obtain ⟨_, _, rfl, rfl, h⟩ := h
  obtain rfl := k37_open h
  rfl
theorem at_C {w : World} {A : Option Addr} {n : Nat} {xs : List Chg} (h : kC.C w A n xs) (i : Nat) (h1 : i < n) :
    ∃ ad x, xs[i]? = some x ∧ A = some ad ∧ w.cell? (ad.add (i * 9)) = some (.int .i64 x.kd) ∧ w.cell? ⟨(ad.add (i * 9)).block, (ad.add (i * 9)).off + 1, none⟩ = some (.int .i64 x.o.f0) ∧ w.cell? ⟨(ad.add (i * 9)).block, (ad.add (i * 9)).off + 2, none⟩ = some (.bool x.o.f1) ∧ w.cell? ⟨(ad.add (i * 9)).block, (ad.add (i * 9)).off + 3, none⟩ = some (.bool x.o.f2) ∧ w.cell? ⟨(ad.add (i * 9)).block, (ad.add (i * 9)).off + 4, none⟩ = some (.int .i64 x.o.f3) ∧ w.cell? ⟨(ad.add (i * 9)).block, (ad.add (i * 9)).off + 5, none⟩ = some (.int .i64 x.o.f4) ∧ w.cell? ⟨(ad.add (i * 9)).block, (ad.add (i * 9)).off + 6, none⟩ = some (.int .i64 x.o.f5) ∧ w.cell? ⟨(ad.add (i * 9)).block, (ad.add (i * 9)).off + 7, none⟩ = some (.int .i64 x.o.f6) ∧ w.cell? ⟨(ad.add (i * 9)).block, (ad.add (i * 9)).off + 8, none⟩ = some (.int .i64 x.o.f7) := by
  obtain ⟨ad, c, e, _, hK, hc0⟩ := Kd.C_get h default (i : Int) (by omega) (by omega)
  have hn : i < xs.length := by have := h.1; omega
  have hg : xs.getD (i : Int).toNat default = xs[i] := by
    rw [Int.toNat_natCast, List.getD_eq_getElem?_getD, List.getElem?_eq_getElem hn]
    rfl
  rw [hg] at hK
  have hc : ∀ j u, c[j]? = some u → w.cell? (ad.add (i * 9 + j)) = some u := hc0
  obtain rfl := kC_open hK
  exact ⟨ad, xs[i], List.getElem?_eq_getElem hn, e, hc 0 _ rfl, by rw [← add_field _ _ 1 (by omega)]; exact hc 1 _ rfl, by rw [← add_field _ _ 2 (by omega)]; exact hc 2 _ rfl, by rw [← add_field _ _ 3 (by omega)]; exact hc 3 _ rfl, by rw [← add_field _ _ 4 (by omega)]; exact hc 4 _ rfl, by rw [← add_field _ _ 5 (by omega)]; exact hc 5 _ rfl, by rw [← add_field _ _ 6 (by omega)]; exact hc 6 _ rfl, by rw [← add_field _ _ 7 (by omega)]; exact hc 7 _ rfl, by rw [← add_field _ _ 8 (by omega)]; exact hc 8 _ rfl⟩
theorem ans_may {ep k m p d : Int} {l : List Od} {kd : Int} {o : Od} {l' : List Od} (h : Ans ep k m p d l kd o 0 l') : mayB (ep + 1) k m p d l' = true := by
  rcases h with ⟨_, e⟩ | ⟨hb, hk, e⟩ | ⟨hb, hk, e⟩
  · cases e
  · have hb' := hb
    simp only [Bool.and_eq_true, Bool.not_eq_true'] at hb'
    unfold applyR at e
    rw [if_neg (by rw [← hk, hb]; decide), if_pos rfl] at e
    split at e
    · injection e with e1 _; cases e1
    · split at e
      · injection e with e1 _; cases e1
      · split at e
        · rename_i h3; injection e with _ e2; rw [← e2]; exact h3
        · injection e with e1 _; cases e1
  · have hb' := hb
    simp only [Bool.and_eq_true, Bool.not_eq_true'] at hb'
    obtain ⟨h1, h2, h3⟩ := hb'
    rcases e with ⟨_, e2⟩ | ⟨j, q, hj, _, ⟨_, e2⟩ | ⟨_, _, e3⟩⟩
    · cases e2
    · cases e2
    · rw [e3]
      exact may_set h1 h3 h2 (by have := known_cases hk; omega) hj
/-- From one map to another, change by change; what each is told. -/
inductive Stp (k m p d : Int) : List Chg → Int → List Od → List Int → Prop
  | nil : Stp k m p d [] 0 [] []
  | no {cs : List Chg} {ep : Int} {l : List Od} {es : List Int} {c : Chg} {er : Int} {l' : List Od} : Stp k m p d cs ep l es → Ans ep k m p d l c.kd c.o er l' → er ≠ 0 → Stp k m p d (cs ++ [c]) ep l (es ++ [er])
  | ok {cs : List Chg} {ep : Int} {l : List Od} {es : List Int} {c : Chg} {l' : List Od} : Stp k m p d cs ep l es → Ans ep k m p d l c.kd c.o 0 l' → Stp k m p d (cs ++ [c]) (ep + 1) l' (es ++ [0])
theorem snoc_inj {α : Type} {a b : List α} {x y : α} (h : a ++ [x] = b ++ [y]) : a = b ∧ x = y := by
  have := List.append_inj' h rfl
  exact ⟨this.1, by simpa using this.2⟩
theorem steps_one {k m p d : Int} {cs : List Chg} {ep : Int} {l : List Od} {es : List Int} (h : Stp k m p d cs ep l es) : ∀ {ep2 : Int} {l2 : List Od} {es2 : List Int}, Stp k m p d cs ep2 l2 es2 → ep = ep2 ∧ l = l2 ∧ es = es2 := by
  induction h with
  | nil =>
    intro ep2 l2 es2 h2
    generalize hc : ([] : List Chg) = cs at h2
    cases h2 with
    | nil => exact ⟨rfl, rfl, rfl⟩
    | no _ _ _ => simp at hc
    | ok _ _ => simp at hc
  | @no cs ep l es c er l' hs ha hne ih =>
    intro ep2 l2 es2 h2
    generalize hc : cs ++ [c] = cs' at h2
    cases h2 with
    | nil => simp at hc
    | no hs2 ha2 hne2 =>
      obtain ⟨rfl, rfl⟩ := snoc_inj hc
      obtain ⟨rfl, rfl, rfl⟩ := ih hs2
      obtain ⟨rfl, _⟩ := ans_one ha ha2
      exact ⟨rfl, rfl, rfl⟩
    | ok hs2 ha2 =>
      obtain ⟨rfl, rfl⟩ := snoc_inj hc
      obtain ⟨rfl, rfl, rfl⟩ := ih hs2
      exact absurd (ans_one ha ha2).1 hne
  | @ok cs ep l es c l' hs ha ih =>
    intro ep2 l2 es2 h2
    generalize hc : cs ++ [c] = cs' at h2
    cases h2 with
    | nil => simp at hc
    | no hs2 ha2 hne2 =>
      obtain ⟨rfl, rfl⟩ := snoc_inj hc
      obtain ⟨rfl, rfl, rfl⟩ := ih hs2
      exact absurd (ans_one ha ha2).1.symm hne2
    | ok hs2 ha2 =>
      obtain ⟨rfl, rfl⟩ := snoc_inj hc
      obtain ⟨rfl, rfl, rfl⟩ := ih hs2
      have := (ans_one ha ha2).2 rfl
      exact ⟨rfl, this, rfl⟩
theorem steps_may {k m p d : Int} {cs : List Chg} {ep : Int} {l : List Od} {es : List Int} (h : Stp k m p d cs ep l es) (hp : poolB k m p d = true) : mayB ep k m p d l = true := by
  induction h with
  | nil =>
    unfold mayB
    rw [hp, show goodB [] = true from goodB_yes (fun _ _ hi _ => absurd hi (Nat.not_lt_zero _))]
    rfl
  | no _ _ _ ih => exact ih
  | ok _ ha _ => exact ans_may ha
theorem steps_len {k m p d : Int} {cs : List Chg} {ep : Int} {l : List Od} {es : List Int} (h : Stp k m p d cs ep l es) : es.length = cs.length := by
  induction h with
  | nil => rfl
  | no _ _ _ ih => simp [ih]
  | ok _ _ ih => simp [ih]
abbrev firstM (k m p d : Int) : Array Value := #[.int .i64 0, .int .i64 k, .int .i64 m, .int .i64 p, .int .i64 d, .slice none 0 0]
set_option maxHeartbeats 4000000 in
set_option maxRecDepth 100000 in
theorem new_calls (k m p d : Int) (w : World) : Calls Try.prog 25 #[.agg #[.int .i64 k, .int .i64 m, .int .i64 p, .int .i64 d]] w fun e w' => e = .returned (if poolB k m p d = true then .tuple #[.agg (firstM k m p d), .int .i64 0] else .tuple #[.agg zM, .int .i64 1]) ∧ Below w.heap.size w w' := by
  have hs1 : (w.alloc (.cells #[.int .i64 k, .int .i64 m, .int .i64 p, .int .i64 d] 23)).heap.size = w.heap.size + 1 := by simp only [World.alloc, Array.size_push]
  have HP1 : Hid (((w.alloc (.cells #[.int .i64 k, .int .i64 m, .int .i64 p, .int .i64 d] 23)).alloc (.cells zM 28)).heap[w.heap.size]? = some (.cells #[.int .i64 k, .int .i64 m, .int .i64 p, .int .i64 d] 23 (0, 0))) := Lib.hid (blk_below (blk_new _ _) (below_alloc (Below.refl _ _) _))
  have HR1 : Hid (((w.alloc (.cells #[.int .i64 k, .int .i64 m, .int .i64 p, .int .i64 d] 23)).alloc (.cells zM 28)).heap[w.heap.size + 1]? = some (.cells zM 28 (0, 0))) := Lib.hid (by
    have h := blk_new (w.alloc (.cells #[.int .i64 k, .int .i64 m, .int .i64 p, .int .i64 d] 23)) (.cells zM 28)
    rw [hs1] at h
    exact h)
  have HB1 := Lib.hid (below_alloc (below_alloc (Below.refl w.heap.size w) (.cells #[.int .i64 k, .int .i64 m, .int .i64 p, .int .i64 d] 23)) (.cells zM 28))
  obtain ⟨w1, hw1⟩ : ∃ w1, w1 = ((w.alloc (.cells #[.int .i64 k, .int .i64 m, .int .i64 p, .int .i64 d] 23)).alloc (.cells zM 28)) := ⟨_, rfl⟩
  have HWN := Lib.hid hw1
  rw [← hw1] at HP1 HR1 HB1
  obtain ⟨b, hb⟩ : ∃ b, b = poolB k m p d := ⟨_, rfl⟩
  have T := Lib.hid (pool_calls k m p d w1)
  rw [← hb] at T ⊢
  clear hb hw1 hs1
  have c0 := blk_cell HP1.out 0
  have c1 := blk_cell HP1.out 1
  have c2 := blk_cell HP1.out 2
  have c3 := blk_cell HP1.out 3
  rw [HWN.out] at c0 c1 c2 c3
  go_enter Try.func25, Try.ntmps25
  go_wp2_with fail
  rw [← HWN.out]
  refine T.out.mono ?_
  rintro e w2 ⟨rfl, hb⟩
  have HB2 := Lib.hid (below_then HB1.out HB1.out.size hb)
  have HP2 := Lib.hid (blk_below HP1.out hb)
  have HR2 := Lib.hid (blk_below HR1.out hb)
  clear hb c0 c1 c2 c3 T HP1 HR1 HB1 HWN
  have c0 := blk_cell HP2.out 0
  have c1 := blk_cell HP2.out 1
  have c2 := blk_cell HP2.out 2
  have c3 := blk_cell HP2.out 3
  cases b with
  | false =>
    go_wp2_with (first | (refine gate_ (.store 28 (.tmp 2) (.tmp 7)) rfl ?_; go_must (refine Stb.store_list rfl rfl 28 (.tmp 2) (.tmp 7) rfl (cur' := zM) [.int .i64 0, .int .i64 0, .int .i64 0, .int .i64 0, .int .i64 0, .slice none 0 0] (by exact HR2.out) (by rfl) (by rfl) (by rfl) (by kernel_rfl) (Nat.le_of_ble_eq_true rfl) (by rfl) (by rfl) ?_; intro wf hz_ hg_ hs_; have HF := Lib.hid hz_; have HBF := Lib.hid (Stb.below_grown1 HB2.out hg_ (Nat.le_add_right _ 1) HB2.out.size); clear hz_ hg_ hs_)))
    refine bodyPost_ret (results_ct rfl _ _ (w.heap.size + 1) 28 zM (0, 0) _ rfl HF.out Try.underlying28 rfl (by kernel_rfl)) rfl ?_
    exact ⟨rfl, HBF.out⟩
  | true =>
    go_wp2_with (first | (refine gate_ (.store 28 (.tmp 2) (.tmp 9)) rfl ?_; go_must (refine Stb.store_list rfl rfl 28 (.tmp 2) (.tmp 9) rfl (cur' := firstM k m p d) [.int .i64 0, .int .i64 k, .int .i64 m, .int .i64 p, .int .i64 d, .slice none 0 0] (by exact HR2.out) (by rfl) (by rfl) (by rfl) (by kernel_rfl) (Nat.le_of_ble_eq_true rfl) (by rfl) (by rfl) ?_; intro wf hz_ hg_ hs_; have HF := Lib.hid hz_; have HBF := Lib.hid (Stb.below_grown1 HB2.out hg_ (Nat.le_add_right _ 1) HB2.out.size); clear hz_ hg_ hs_)))
    refine bodyPost_ret (results_ct rfl _ _ (w.heap.size + 1) 28 (firstM k m p d) (0, 0) _ rfl HF.out Try.underlying28 rfl (by kernel_rfl)) rfl ?_
    exact ⟨rfl, HBF.out⟩
end Go.Proofs.Ytfikaekocgofoaa.AtS
/- Many changes, one behind the other: atlas.Fold. -/
set_option linter.unusedSimpArgs false
namespace Go.Proofs.Ytfikaekocgofoaa.AtF
open Go Go.RowKit Go.Proofs.YtfikaekocgofoaaW.PrintWords Go.Proofs.YtfikaekocgofoaaW.PrintLast Go.Proofs.YtfikaekocgofoaaW.PrintMore Mem PAll KW AtA AtB Sl Dsc MayP ApP Fnd PlF Roo Awk McW ApY ApZ ApW AtK AtV AtX AtD AtC AtP Ins AtQ AtR AtS
open CrP hiding Od
abbrev kE : Kd Int := Kd.int .i64
theorem infoE : (Try.prog.info? 30).map (fun i => (i.zero, i.size, i.bytes)) = some (some (.int .i64 0), kE.sz, 8) := by kernel_rfl
/-- Two rows of one's own that share nothing: the map's, and what was told. -/
structure Two (w : World) (base a b : Nat) (u : Value) (l : List Od) (v : Value) (es : List Int) : Prop where
  row : kO.R 37 w base (fun k => (k ≠ a ∧ k ≠ b) ∧ some k ≠ v.ownBlock) u l
  told : kE.R 30 w base (fun k => (k ≠ a ∧ k ≠ b) ∧ some k ≠ u.ownBlock) v es
theorem Two.below {w w1 : World} {base a b : Nat} {u v : Value} {l : List Od} {es : List Int} (h : Two w base a b u l v es) (hb : Below w.heap.size w w1) : Two w1 base a b u l v es := ⟨Kd.R_below h.row hb, Kd.R_below h.told hb⟩
theorem Two.set {w w1 : World} {base a b g : Nat} {u v : Value} {l : List Od} {es : List Int} (h : Two w base a b u l v es) (hg : w.grownBy w1 (some g)) (he : g = a ∨ g = b) : Two w1 base a b u l v es :=
  ⟨Kd.R_grown h.row hg (fun k hk e => by have e2 : k = g := Option.some.inj e; rcases he with he | he; exact hk.1.1 (e2.trans he); exact hk.1.2 (e2.trans he)), Kd.R_grown h.told hg (fun k hk e => by have e2 : k = g := Option.some.inj e; rcases he with he | he; exact hk.1.1 (e2.trans he); exact hk.1.2 (e2.trans he))⟩
theorem Two.more {w w1 : World} {base a b : Nat} {u v v1 : Value} {l : List Od} {es es' : List Int} (h : Two w base a b u l v es) (hg : w.grownBy w1 v.ownBlock) (hat : v1.ownBlock = v.ownBlock ∨ ∃ k, v1.ownBlock = some k ∧ w.heap.size ≤ k) (hv : kE.R 30 w1 base (fun k => (k ≠ a ∧ k ≠ b) ∧ some k ≠ u.ownBlock) v1 es') : Two w1 base a b u l v1 es' :=
  ⟨Kd.R_after h.row hg hat, hv⟩
/-- The map's row is another one, made since. -/
theorem Two.turn {w w1 : World} {base a b : Nat} {u u1 v : Value} {l l1 : List Od} {es : List Int} (h : Two w base a b u l v es) (hb : Below w.heap.size w w1) (ha : a < w.heap.size) (hbb : b < w.heap.size) (hbase : base ≤ w.heap.size) (hr : kO.R 37 w1 w.heap.size (fun _ => True) u1 l1) : Two w1 base a b u1 l1 v es := by
  have hlt := Kd.R_lt h.told
  refine ⟨Kd.R_lower (Kd.R_mono (Kd.R_bound hr) (fun k hk => ⟨⟨by omega, by omega⟩, fun e => by have := hlt k e.symm; omega⟩)) hbase, Kd.R_mono (Kd.R_below (Kd.R_bound h.told) hb) (fun k hk => ⟨hk.1.1, fun e => ?_⟩)⟩
  have h1 := Kd.R_base hr k e.symm
  have := hk.2.2.1
  omega
theorem Two.fresh {w : World} {base a b : Nat} {u v : Value} {l : List Od} {es : List Int} (h : Two w base a b u l v es) (ha : a < w.heap.size) (hb : b < w.heap.size) : ∀ k, w.heap.size ≤ k → ((k ≠ a ∧ k ≠ b) ∧ some k ≠ u.ownBlock) :=
  fun k hk => ⟨⟨by omega, by omega⟩, fun e => by have := Kd.R_lt h.row k e.symm; omega⟩
set_option maxHeartbeats 8000000 in
set_option maxRecDepth 100000 in
theorem fold_ok (k m p d : Int) (A : Option Addr) (cc : Nat) (cs : List Chg) (w : World) (hx : kC.C w A cs.length cs) (hl : cs.length ≤ 300) (hp : poolB k m p d = true) : Calls Try.prog 9 #[.agg #[.int .i64 k, .int .i64 m, .int .i64 p, .int .i64 d], .slice A cs.length cc] w fun e w' => ∃ (ep : Int) (l : List Od) (es : List Int) (A' : Option Addr) (c' : Nat) (v : Value), e = .returned (.tuple #[.agg (boxM ep k m p d A' c' l), v, .int .i64 0]) ∧ Stp k m p d cs ep l es ∧ kO.R 37 w' w.heap.size (fun _ => True) (.slice A' l.length c') l ∧ kE.R 30 w' w.heap.size (fun _ => True) v es ∧ Below w.heap.size w w' := by
  have hs1 : (w.alloc (.cells #[.int .i64 k, .int .i64 m, .int .i64 p, .int .i64 d] 23)).heap.size = w.heap.size + 1 := by simp only [World.alloc, Array.size_push]
  have hs2 : ((w.alloc (.cells #[.int .i64 k, .int .i64 m, .int .i64 p, .int .i64 d] 23)).alloc (.cells zM 28)).heap.size = w.heap.size + 2 := by simp only [World.alloc, Array.size_push]
  have HP1 : Hid (((w.alloc (.cells #[.int .i64 k, .int .i64 m, .int .i64 p, .int .i64 d] 23)).alloc (.cells zM 28)).heap[w.heap.size]? = some (.cells #[.int .i64 k, .int .i64 m, .int .i64 p, .int .i64 d] 23 (0, 0))) := Lib.hid (blk_below (blk_new _ _) (below_alloc (Below.refl _ _) _))
  have HR1 : Hid (((w.alloc (.cells #[.int .i64 k, .int .i64 m, .int .i64 p, .int .i64 d] 23)).alloc (.cells zM 28)).heap[w.heap.size + 1]? = some (.cells zM 28 (0, 0))) := Lib.hid (by
    have h := blk_new (w.alloc (.cells #[.int .i64 k, .int .i64 m, .int .i64 p, .int .i64 d] 23)) (.cells zM 28)
    rw [hs1] at h
    exact h)
  have HB1 := Lib.hid (below_alloc (below_alloc (Below.refl w.heap.size w) (.cells #[.int .i64 k, .int .i64 m, .int .i64 p, .int .i64 d] 23)) (.cells zM 28))
  have HC1 := Lib.hid (Kd.C_below hx HB1.out)
  obtain ⟨w1, hw1⟩ : ∃ w1, w1 = ((w.alloc (.cells #[.int .i64 k, .int .i64 m, .int .i64 p, .int .i64 d] 23)).alloc (.cells zM 28)) := ⟨_, rfl⟩
  have HWN := Lib.hid hw1
  rw [← hw1] at HP1 HR1 HB1 HC1 hs2
  have HSZ := Lib.hid hs2
  have HL := Lib.hid hl
  have HC0 := Lib.hid hx
  have T := Lib.hid (new_calls k m p d w1)
  have c0 := blk_cell HP1.out 0
  have c1 := blk_cell HP1.out 1
  have c2 := blk_cell HP1.out 2
  have c3 := blk_cell HP1.out 3
  rw [HWN.out] at c0 c1 c2 c3
  rw [hp] at T
  simp only [if_true] at T
  have HPB := Lib.hid hp
  clear hx hl hw1 hs1 hs2 hp
  go_enter Try.func9, Try.ntmps9
  go_wp2_with fail
  rw [← HWN.out]
  refine T.out.mono ?_
  rintro e w2 ⟨rfl, hb⟩
  have HB2 := Lib.hid (below_then HB1.out HB1.out.size hb)
  have HR2 := Lib.hid (blk_below HR1.out hb)
  have HC2 := Lib.hid (Kd.C_below HC1.out hb)
  have HS2 : Hid (w.heap.size + 2 ≤ w2.heap.size) := Lib.hid (by have := HSZ.out; have := hb.size; omega)
  clear hb c0 c1 c2 c3 T HP1 HR1 HB1 HC1 HWN HSZ
  unfold firstM
  have HM3 : Hid ((w2.alloc (.cells (firstM k m p d) 28)).heap[w2.heap.size]? = some (.cells (firstM k m p d) 28 (0, 0))) := Lib.hid (blk_new _ _)
  have HR3 := Lib.hid (blk_alloc HR2.out (.cells (firstM k m p d) 28))
  have HB3 := Lib.hid (below_alloc HB2.out (.cells (firstM k m p d) 28))
  have HC3 := Lib.hid (Kd.C_alloc HC2.out (.cells (firstM k m p d) 28))
  obtain ⟨w3, hw3⟩ : ∃ w3, w3 = w2.alloc (.cells (firstM k m p d) 28) := ⟨_, rfl⟩
  obtain ⟨g7, hg7⟩ : ∃ g7, g7 = w2.heap.size := ⟨_, rfl⟩
  have HW3 := Lib.hid hw3
  have HG7 : Hid (w.heap.size + 2 ≤ g7) := Lib.hid (by rw [hg7]; exact HS2.out)
  have hg7' := Lib.hid hg7
  rw [← hw3] at HM3 HR3 HB3 HC3
  rw [← hg7] at HM3
  have HT3 : Hid (Two w3 w.heap.size (w.heap.size + 1) g7 (.slice none 0 0) [] (.slice none 0 0) []) := Lib.hid ⟨Kd.R_nil _ _ _ _ _, Kd.R_nil _ _ _ _ _⟩
  clear hw3 hg7 HR2 HB2 HC2 HS2
  go_wp2_with fail
  unfold firstM at HM3 HW3
  rw [← HW3.out, ← hg7'.out]
  clear HW3 hg7'
  go_loopw [9, 25] (fun v9 i' wr => ∃ (n : Nat) (ep : Int) (l : List Od) (es : List Int) (A1 : Option Addr) (c1 : Nat), i' = .int .i64 n ∧ Hid (n ≤ cs.length) ∧ Hid (Stp k m p d (cs.take n) ep l es) ∧ Hid (wr.heap[g7]? = some (.cells #[.int .i64 ep, .int .i64 k, .int .i64 m, .int .i64 p, .int .i64 d, .slice A1 l.length c1] 28 (0, 0))) ∧ Hid (Two wr w.heap.size (w.heap.size + 1) g7 (.slice A1 l.length c1) l v9 es) ∧ Hid (wr.heap[w.heap.size + 1]? = some (.cells zM 28 (0, 0))) ∧ Hid (Below w.heap.size w wr)) (fun _ i' _ => (cs.length - intOf i').toNat)
  case atStart => exact ⟨0, 0, [], [], none, 0, rfl, Lib.hid (Nat.zero_le _), Lib.hid Stp.nil, HM3, HT3, HR3, HB3⟩
  case round =>
    obtain ⟨n, ep, l, es, A1, c1, rfl, HNL, HST, HM, HT, HR, HB⟩ := hrel
    have hn := HNL.out
    have hl3 := HL.out
    by_cases h : n < cs.length
    · have hlt : decide (n < cs.length) = true := decide_eq_true h
      have hltI : decide ((n : Int) < (cs.length : Int)) = true := decide_eq_true (by omega)
      have i0 : (0 : Int) ≤ n := by omega
      have i1 : (n : Int) < cs.length := by omega
      have i2 : n < 300 := by omega
      have i3 : (n : Int) < 300 := by omega
      have HNI := Lib.hid h
      obtain ⟨ac, c, hc, hA, b0, b1, b2, b3, b4, b5, b6, b7, b8⟩ := at_C (Kd.C_below HC0.out HB.out) n h
      subst hA
      have HTK : Hid (cs.take (n + 1) = cs.take n ++ [c]) := Lib.hid (by obtain ⟨q1, q2⟩ := List.getElem?_eq_some_iff.1 hc; rw [List.take_succ_eq_append_getElem q1, q2])
      have HMB : Hid (mayB ep k m p d l = true) := Lib.hid (steps_may HST.out HPB.out)
      have HEP := Lib.hid (may_ep01 HMB.out)
      have HEL : Hid (es.length ≤ n) := Lib.hid (by rw [steps_len HST.out]; have := List.length_take_le n cs; omega)
      clear hc hn h
      obtain ⟨wv, hwv⟩ : ∃ wv, wv = wr.alloc (.cells #[.int .i64 c.kd, .int .i64 c.o.f0, .bool c.o.f1, .bool c.o.f2, .int .i64 c.o.f3, .int .i64 c.o.f4, .int .i64 c.o.f5, .int .i64 c.o.f6, .int .i64 c.o.f7] 39) := ⟨_, rfl⟩
      have HBA := Lib.hid (below_alloc (Below.refl wr.heap.size wr) (.cells #[.int .i64 c.kd, .int .i64 c.o.f0, .bool c.o.f1, .bool c.o.f2, .int .i64 c.o.f3, .int .i64 c.o.f4, .int .i64 c.o.f5, .int .i64 c.o.f6, .int .i64 c.o.f7] 39))
      have HCV : Hid ((wr.alloc (.cells #[.int .i64 c.kd, .int .i64 c.o.f0, .bool c.o.f1, .bool c.o.f2, .int .i64 c.o.f3, .int .i64 c.o.f4, .int .i64 c.o.f5, .int .i64 c.o.f6, .int .i64 c.o.f7] 39)).heap[wr.heap.size]? = some (.cells #[.int .i64 c.kd, .int .i64 c.o.f0, .bool c.o.f1, .bool c.o.f2, .int .i64 c.o.f3, .int .i64 c.o.f4, .int .i64 c.o.f5, .int .i64 c.o.f6, .int .i64 c.o.f7] 39 (0, 0))) := Lib.hid (blk_new _ _)
      have HBV := Lib.hid (below_alloc HB.out (.cells #[.int .i64 c.kd, .int .i64 c.o.f0, .bool c.o.f1, .bool c.o.f2, .int .i64 c.o.f3, .int .i64 c.o.f4, .int .i64 c.o.f5, .int .i64 c.o.f6, .int .i64 c.o.f7] 39))
      have HMV := Lib.hid (blk_alloc HM.out (.cells #[.int .i64 c.kd, .int .i64 c.o.f0, .bool c.o.f1, .bool c.o.f2, .int .i64 c.o.f3, .int .i64 c.o.f4, .int .i64 c.o.f5, .int .i64 c.o.f6, .int .i64 c.o.f7] 39))
      have HRV := Lib.hid (blk_alloc HR.out (.cells #[.int .i64 c.kd, .int .i64 c.o.f0, .bool c.o.f1, .bool c.o.f2, .int .i64 c.o.f3, .int .i64 c.o.f4, .int .i64 c.o.f5, .int .i64 c.o.f6, .int .i64 c.o.f7] 39))
      have HTV := Lib.hid (HT.out.below HBA.out)
      have HGL : Hid (g7 < wr.heap.size) := Lib.hid (blk_lt HM.out)
      have HRL : Hid (w.heap.size + 1 < wr.heap.size) := Lib.hid (blk_lt HR.out)
      have HWV := Lib.hid hwv
      rw [← hwv] at HBA HCV HBV HMV HRV HTV
      have TA := Lib.hid (aapply_calls ep k m p d A1 c1 l c.kd c.o wv (Kd.R_reads' HTV.out.row).2.2 (wf_may HMB.out))
      unfold boxM chA at TA
      clear hwv HB HM HR HT
      have m0 := blk_cell HMV.out 0
      have m1 := blk_cell HMV.out 1
      have m2 := blk_cell HMV.out 2
      have m3 := blk_cell HMV.out 3
      have m4 := blk_cell HMV.out 4
      have m5 := blk_cell HMV.out 5
      have e0 := blk_cell HCV.out 0
      have e1 := blk_cell HCV.out 1
      have e2 := blk_cell HCV.out 2
      have e3 := blk_cell HCV.out 3
      have e4 := blk_cell HCV.out 4
      have e5 := blk_cell HCV.out 5
      have e6 := blk_cell HCV.out 6
      have e7 := blk_cell HCV.out 7
      have e8 := blk_cell HCV.out 8
      rw [HWV.out] at m0 m1 m2 m3 m4 m5 e0 e1 e2 e3 e4 e5 e6 e7 e8
      go_wp2_with fail
      rw [← HWV.out]
      refine TA.out.mono ?_
      rintro e w4 ⟨er, l', ha, hb, hres⟩
      have HAN := Lib.hid ha
      have HB4 := Lib.hid (below_then HBV.out HBV.out.size hb)
      have HM4 := Lib.hid (blk_below HMV.out hb)
      have HR4 := Lib.hid (blk_below HRV.out hb)
      have HT4 := Lib.hid (HTV.out.below hb)
      have HGL4 : Hid (g7 < w4.heap.size) := Lib.hid (blk_lt HM4.out)
      have HRL4 : Hid (w.heap.size + 1 < w4.heap.size) := Lib.hid (blk_lt HR4.out)
      have HGV : Hid (g7 < wv.heap.size ∧ w.heap.size + 1 < wv.heap.size) := Lib.hid ⟨blk_lt HMV.out, blk_lt HRV.out⟩
      have HBW := Lib.hid hb
      clear ha hb m0 m1 m2 m3 m4 m5 e0 e1 e2 e3 e4 e5 e6 e7 e8 TA HMV HRV HCV b0 b1 b2 b3 b4 b5 b6 b7 b8
      rcases hres with ⟨hne, rfl⟩ | ⟨rfl, A2, c2, rfl, hr2⟩
      · have q1 : (er == 0) = false := by simpa using hne
        have q2 : decide (er = 0) = false := decide_eq_false hne
        have HST2 : Hid (Stp k m p d (cs.take (n + 1)) ep l (es ++ [er])) := Lib.hid (by rw [HTK.out]; exact Stp.no HST.out HAN.out hne)
        clear hne
        have HB5 := Lib.hid (below_alloc HB4.out (.cells zM 28))
        have HM5 := Lib.hid (blk_alloc HM4.out (.cells zM 28))
        have HR5 := Lib.hid (blk_alloc HR4.out (.cells zM 28))
        have HT5 := Lib.hid (HT4.out.below (below_alloc (Below.refl _ _) (.cells zM 28)))
        obtain ⟨w5, hw5⟩ : ∃ w5, w5 = w4.alloc (.cells zM 28) := ⟨_, rfl⟩
        have HW5 := Lib.hid hw5
        rw [← hw5] at HB5 HM5 HR5 HT5
        have HGL5 : Hid (g7 < w5.heap.size) := Lib.hid (blk_lt HM5.out)
        have HRL5 : Hid (w.heap.size + 1 < w5.heap.size) := Lib.hid (blk_lt HR5.out)
        have HAT : Hid ((∀ v9 : Value, Two w5 w.heap.size (w.heap.size + 1) g7 (.slice A1 l.length c1) l v9 es → some g7 ≠ v9.ownBlock ∧ some (w.heap.size + 1) ≠ v9.ownBlock)) := Lib.hid (fun v9 hT => ⟨fun e => (hT.told.1 _ e.symm).1.2 rfl, fun e => (hT.told.1 _ e.symm).1.1 rfl⟩)
        clear HB4 HM4 HR4 HT4 HW5
        subst hw5
        have HATX : Hid (some g7 ≠ Value.ownBlock u9 ∧ some (w.heap.size + 1) ≠ Value.ownBlock u9) := Lib.hid ⟨fun e => (HT5.out.told.1 _ e.symm).1.2 rfl, fun e => (HT5.out.told.1 _ e.symm).1.1 rfl⟩
        go_wp2_with (first | (at_builtin; go_must (refine Kd.R_append kE (w0 := w) w.heap.size rfl _ _ 29 30 (.int .i64 0) 8 rfl Try.underlying29 infoE rfl (by decide) (by decide) _ _ er [.int .i64 er] (fun k => (k ≠ w.heap.size + 1 ∧ k ≠ g7) ∧ some k ≠ (Value.slice A1 l.length c1).ownBlock) (fun _ => False) rfl (by first | rfl | (simp only [World.alloc, Array.size_push]; rfl)) rfl (fun _ hk => hk.elim) (HT5.out.fresh HRL5.out HGL5.out) (by exact HT5.out.told) (by exact HB5.out) (by exact HB5.out.size) ?hl ?_; (case hl => have h1 := HNL.out; have h2 := HL.out; have h3 := HEL.out; omega); intro v12 w12 ho hb hg hat; have HT12 := Lib.hid (HT5.out.more hg hat ho); have HB12 := Lib.hid hb; have HM12 := Lib.hid (blk_grown HM5.out hg ((by have h1 := HATX.out; exact h1.1))); have HR12 := Lib.hid (blk_grown HR5.out hg ((by have h1 := HATX.out; exact h1.2))); clear ho hb hg hat)))
        go_roundw
        case rel => exact ⟨n + 1, _, _, _, _, _, by go_num, Lib.hid (by have := HNI.out; omega), Lib.hid HST2.out, HM12, HT12, HR12, HB12⟩
        case measure => have := HNI.out; simp only [intOf]; omega
      · have HST2 : Hid (Stp k m p d (cs.take (n + 1)) (ep + 1) l' (es ++ [0])) := Lib.hid (by rw [HTK.out]; exact Stp.ok HST.out HAN.out)
        have HT5a := Lib.hid (HTV.out.turn HBW.out HGV.out.2 HGV.out.1 HBV.out.size hr2)
        clear hr2
        have HBN := Lib.hid (below_alloc (Below.refl w4.heap.size w4) (.cells #[.int .i64 (ep + 1), .int .i64 k, .int .i64 m, .int .i64 p, .int .i64 d, .slice A2 l'.length c2] 28))
        have HB5 := Lib.hid (below_alloc HB4.out (.cells #[.int .i64 (ep + 1), .int .i64 k, .int .i64 m, .int .i64 p, .int .i64 d, .slice A2 l'.length c2] 28))
        have HM5 := Lib.hid (blk_alloc HM4.out (.cells #[.int .i64 (ep + 1), .int .i64 k, .int .i64 m, .int .i64 p, .int .i64 d, .slice A2 l'.length c2] 28))
        have HR5 := Lib.hid (blk_alloc HR4.out (.cells #[.int .i64 (ep + 1), .int .i64 k, .int .i64 m, .int .i64 p, .int .i64 d, .slice A2 l'.length c2] 28))
        have HN5 : Hid ((w4.alloc (.cells #[.int .i64 (ep + 1), .int .i64 k, .int .i64 m, .int .i64 p, .int .i64 d, .slice A2 l'.length c2] 28)).heap[w4.heap.size]? = some (.cells #[.int .i64 (ep + 1), .int .i64 k, .int .i64 m, .int .i64 p, .int .i64 d, .slice A2 l'.length c2] 28 (0, 0))) := Lib.hid (blk_new _ _)
        have HT5 := Lib.hid (HT5a.out.below HBN.out)
        obtain ⟨w5, hw5⟩ : ∃ w5, w5 = w4.alloc (.cells #[.int .i64 (ep + 1), .int .i64 k, .int .i64 m, .int .i64 p, .int .i64 d, .slice A2 l'.length c2] 28) := ⟨_, rfl⟩
        have HW5 := Lib.hid hw5
        rw [← hw5] at HB5 HM5 HR5 HN5 HT5
        have m0 := blk_cell HN5.out 0
        have m1 := blk_cell HN5.out 1
        have m2 := blk_cell HN5.out 2
        have m3 := blk_cell HN5.out 3
        have m4 := blk_cell HN5.out 4
        have m5 := blk_cell HN5.out 5
        clear HB4 HM4 HR4 HT4 HT5a HBN HW5
        subst hw5
        unfold boxM
        have HATX : Hid (some g7 ≠ Value.ownBlock u9 ∧ some (w.heap.size + 1) ≠ Value.ownBlock u9) := Lib.hid ⟨fun e => (HT5.out.told.1 _ e.symm).1.2 rfl, fun e => (HT5.out.told.1 _ e.symm).1.1 rfl⟩
        go_wp2_with (first | (refine gate_ (.store 28 (.tmp 7) (.tmp 37)) rfl ?_; go_must (refine Stb.store_list rfl rfl 28 (.tmp 7) (.tmp 37) rfl (cur' := #[.int .i64 (ep + 1), .int .i64 k, .int .i64 m, .int .i64 p, .int .i64 d, .slice A2 l'.length c2]) [.int .i64 (ep + 1), .int .i64 k, .int .i64 m, .int .i64 p, .int .i64 d, .slice A2 l'.length c2] (by exact HM5.out) (by rfl) (by rfl) (by rfl) (by kernel_rfl) (Nat.le_of_ble_eq_true rfl) (by rfl) (by rfl) ?_; intro w6 hz_ hg_ hs_; have HM6 := Lib.hid hz_; have HR6 := Lib.hid (blk_grown HR5.out hg_ (fun e => by injection e with e; have := HG7.out; omega)); have HT6 := Lib.hid (HT5.out.set hg_ (.inr rfl)); have HB6 := Lib.hid (Stb.below_grown1 HB5.out hg_ (Nat.le_of_succ_le (Nat.le_of_succ_le HG7.out)) HB5.out.size); have HGL6 : Hid (g7 < w6.heap.size) := Lib.hid (blk_lt hz_); have HRL6 : Hid (w.heap.size + 1 < w6.heap.size) := Lib.hid (blk_lt HR6.out); clear hz_ hg_ hs_)) | (at_builtin; go_must (refine Kd.R_append kE (w0 := w) w.heap.size rfl _ _ 29 30 (.int .i64 0) 8 rfl Try.underlying29 infoE rfl (by decide) (by decide) _ _ 0 [.int .i64 0] (fun k => (k ≠ w.heap.size + 1 ∧ k ≠ g7) ∧ some k ≠ (Value.slice A2 l'.length c2).ownBlock) (fun _ => False) rfl (by first | rfl | (simp only [World.alloc, Array.size_push]; rfl)) rfl (fun _ hk => hk.elim) (HT6.out.fresh HRL6.out HGL6.out) (by exact HT6.out.told) (by exact HB6.out) (by exact HB6.out.size) ?hl ?_; (case hl => have h1 := HNL.out; have h2 := HL.out; have h3 := HEL.out; omega); intro v12 w12 ho hb hg hat; have HT12 := Lib.hid (HT6.out.more hg hat ho); have HB12 := Lib.hid hb; have HM12 := Lib.hid (blk_grown HM6.out hg ((by have h1 := HATX.out; exact h1.1))); have HR12 := Lib.hid (blk_grown HR6.out hg ((by have h1 := HATX.out; exact h1.2))); clear ho hb hg hat)))
        go_roundw
        case rel => exact ⟨n + 1, _, _, _, _, _, by go_num, Lib.hid (by have := HNI.out; omega), Lib.hid HST2.out, HM12, HT12, HR12, HB12⟩
        case measure => have := HNI.out; simp only [intOf]; omega
    · obtain rfl : n = cs.length := by omega
      have hlt : decide (cs.length < cs.length) = false := decide_eq_false (Nat.lt_irrefl _)
      have hltI : decide ((cs.length : Int) < (cs.length : Int)) = false := decide_eq_false (Int.lt_irrefl _)
      clear h hn
      rw [List.take_of_length_le (Nat.le_refl _)] at HST
      have m0 := blk_cell HM.out 0
      have m1 := blk_cell HM.out 1
      have m2 := blk_cell HM.out 2
      have m3 := blk_cell HM.out 3
      have m4 := blk_cell HM.out 4
      have m5 := blk_cell HM.out 5
      go_wp2_with (first | (refine gate_ (.store 28 (.tmp 4) (.tmp 43)) rfl ?_; go_must (refine Stb.store_list rfl rfl 28 (.tmp 4) (.tmp 43) rfl (cur' := #[.int .i64 ep, .int .i64 k, .int .i64 m, .int .i64 p, .int .i64 d, .slice A1 l.length c1]) [.int .i64 ep, .int .i64 k, .int .i64 m, .int .i64 p, .int .i64 d, .slice A1 l.length c1] (by exact HR.out) (by rfl) (by rfl) (by rfl) (by kernel_rfl) (Nat.le_of_ble_eq_true rfl) (by rfl) (by rfl) ?_; intro wf hz_ hg_ hs_; have HF := Lib.hid hz_; have HBF := Lib.hid (Stb.below_grown1 HB.out hg_ (Nat.le_add_right _ 1) HB.out.size); have HTF := Lib.hid (HT.out.set hg_ (.inl rfl)); clear hz_ hg_ hs_)))
      obtain ⟨A9, c9, hv9⟩ := Kd.R_slice HTF.out.told
      subst hv9
      refine bodyPost_ret (results_ctt rfl _ _ (w.heap.size + 1) 28 #[.int .i64 ep, .int .i64 k, .int .i64 m, .int .i64 p, .int .i64 d, .slice A1 l.length c1] (0, 0) _ rfl HF.out Try.underlying28 rfl (by kernel_rfl)) rfl ?_
      exact ⟨ep, l, es, A1, c1, _, rfl, HST.out, Kd.R_mono HTF.out.row (fun _ _ => trivial), Kd.R_mono HTF.out.told (fun _ _ => trivial), HBF.out⟩
end Go.Proofs.Ytfikaekocgofoaa.AtF
/- The law's fixed question of layer 13. -/
set_option linter.unusedSimpArgs false
namespace Go.Proofs.Ytfikaekocgofoaa.AtW
open Go Go.RowKit Go.Proofs.YtfikaekocgofoaaW.PrintWords Go.Proofs.YtfikaekocgofoaaW.PrintLast Go.Proofs.YtfikaekocgofoaaW.PrintMore Mem PAll KW AtA AtB Sl Dsc MayP ApP Fnd PlF Roo Awk McW ApY ApZ ApW AtK AtV AtX AtD AtC AtP Ins AtQ AtR AtS AtF
open CrP hiding Od
def oA : Od := ⟨3, false, false, 0, 0, 0, 0, 0⟩
def oB : Od := ⟨3, false, false, 0, 7, 1, 0, 0⟩
def oC : Od := ⟨9, false, false, 0, 0, 0, 0, 0⟩
def oU : Od := ⟨3, true, false, 0, 7, 1, 0, 0⟩
def threeC : List Chg := [⟨1, oA⟩, ⟨2, oB⟩, ⟨3, oC⟩]
theorem pool_yes : poolB 2 1 4 0 = true := by decide
theorem good_0 : goodB [] = true := goodB_yes (fun _ _ hi _ => absurd hi (Nat.not_lt_zero _))
theorem good_1 {o : Od} (h : osdB o = true) : goodB [o] = true := goodB_yes (fun i q hi hq => by
  obtain rfl : i = 0 := by simp at hi; omega
  obtain rfl : o = q := by simpa using hq
  exact ⟨h, fun j _ hj => absurd hj (Nat.not_lt_zero _)⟩)
theorem may_0 : mayB 0 2 1 4 0 [] = true := by unfold mayB; rw [good_0]; decide
theorem may_1 : mayB 1 2 1 4 0 [oA] = true := by unfold mayB; rw [good_1 (by decide)]; decide
theorem ans_1 : Ans 0 2 1 4 0 [] 1 oA 0 [oA] := by
  have hb : (mayB 0 2 1 4 0 [] && (mayC 1 oA && !((0 : Int) == 1048576))) = true := by rw [may_0]; decide
  refine .inr (.inl ⟨hb, rfl, ?_⟩)
  unfold applyR
  rw [if_neg (by rw [hb]; decide), if_pos rfl, if_neg (by decide), if_neg (by decide)]
  rw [show insA oA [] = [oA] from rfl, show (0 : Int) + 1 = 1 from rfl, if_pos may_1]
theorem ans_2 : Ans 1 2 1 4 0 [oA] 2 oB 0 [oU] := by
  have hb : (mayB 1 2 1 4 0 [oA] && (mayC 2 oB && !((1 : Int) == 1048576))) = true := by rw [may_1]; decide
  exact .inr (.inr ⟨hb, by decide,   .inr ⟨0, oA, rfl, rfl, .inr ⟨by decide, rfl, rfl⟩⟩⟩)
theorem ans_3 : Ans 2 2 1 4 0 [oU] 3 oC 4 [] := by
  have hb : (mayB 2 2 1 4 0 [oU] && (mayC 3 oC && !((2 : Int) == 1048576))) = true := by rw [show mayB 2 2 1 4 0 [oU] = true from ans_may ans_2]; decide
  exact .inr (.inr ⟨hb, by decide, .inl ⟨rfl, rfl⟩⟩)
theorem three_steps : Stp 2 1 4 0 threeC 2 [oU] [0, 0, 4] :=
  Stp.no (cs := [⟨1, oA⟩, ⟨2, oB⟩]) (es := [0, 0]) (Stp.ok (cs := [⟨1, oA⟩]) (es := [0]) (Stp.ok (cs := []) (es := []) Stp.nil ans_1) ans_2) ans_3 (by decide)
theorem three_C {w : World} {g : Nat} (h : w.heap[g]? = some (.cells #[.int .i64 1, .int .i64 3, .bool false, .bool false, .int .i64 0, .int .i64 0, .int .i64 0, .int .i64 0, .int .i64 0, .int .i64 2, .int .i64 3, .bool false, .bool false, .int .i64 0, .int .i64 7, .int .i64 1, .int .i64 0, .int .i64 0, .int .i64 3, .int .i64 9, .bool false, .bool false, .int .i64 0, .int .i64 0, .int .i64 0, .int .i64 0, .int .i64 0] 39 (0, 0))) : kC.C w (some ⟨g, 0, none⟩) threeC.length threeC := by
  refine ⟨rfl, by show 3 ≤ 9223372036854775807; decide, fun _ => ⟨_, rfl, fun j p hj => ?_⟩⟩
  have mk : ∀ c : Chg, kC.K w c (chA c.kd c.o).toList := fun c => ⟨[.int .i64 c.kd], (aggO c.o).toList, rfl, rfl, k37_mkM w 0 (fun _ => True) c.o⟩
  have fin : ∀ (b : Nat) (cs : List Value), cs.length = 9 → (∀ i u, cs[i]? = some u → (#[.int .i64 1, .int .i64 3, .bool false, .bool false, .int .i64 0, .int .i64 0, .int .i64 0, .int .i64 0, .int .i64 0, .int .i64 2, .int .i64 3, .bool false, .bool false, .int .i64 0, .int .i64 7, .int .i64 1, .int .i64 0, .int .i64 0, .int .i64 3, .int .i64 9, .bool false, .bool false, .int .i64 0, .int .i64 0, .int .i64 0, .int .i64 0, .int .i64 0] : Array Value)[b + i]? = some u) → ∀ i u, cs[i]? = some u → w.cell? ((⟨g, 0, none⟩ : Addr).add (b + i)) = some u := by
    intro b cs _ hc i u hu
    rw [add_plain, blk_cell h]
    exact hc i u hu
  match j, hj with
  | 0, hj =>
    obtain rfl := Option.some.inj hj
    exact ⟨_, rfl, mk ⟨1, oA⟩, fin 0 _ rfl (by intro i u hu; match i, hu with | 0, hu => exact hu | 1, hu => exact hu | 2, hu => exact hu | 3, hu => exact hu | 4, hu => exact hu | 5, hu => exact hu | 6, hu => exact hu | 7, hu => exact hu | 8, hu => exact hu | i + 9, hu => cases hu)⟩
  | 1, hj =>
    obtain rfl := Option.some.inj hj
    exact ⟨_, rfl, mk ⟨2, oB⟩, fin 9 _ rfl (by intro i u hu; match i, hu with | 0, hu => exact hu | 1, hu => exact hu | 2, hu => exact hu | 3, hu => exact hu | 4, hu => exact hu | 5, hu => exact hu | 6, hu => exact hu | 7, hu => exact hu | 8, hu => exact hu | i + 9, hu => cases hu)⟩
  | 2, hj =>
    obtain rfl := Option.some.inj hj
    exact ⟨_, rfl, mk ⟨3, oC⟩, fin 18 _ rfl (by intro i u hu; match i, hu with | 0, hu => exact hu | 1, hu => exact hu | 2, hu => exact hu | 3, hu => exact hu | 4, hu => exact hu | 5, hu => exact hu | 6, hu => exact hu | 7, hu => exact hu | 8, hu => exact hu | i + 9, hu => cases hu)⟩
  | j + 3, hj => cases hj
theorem cells_E {w : World} {g n c base : Nat} {ok : Nat → Prop} {xs : List Int} (h : kE.R 30 w base ok (.slice (some ⟨g, 0, none⟩) n c) xs) : ∀ j, j < xs.length → w.cell? ⟨g, j, none⟩ = some (.int .i64 (xs.getD j 0)) := by
  intro j hj
  obtain ⟨hn, _, hC⟩ := Kd.R_reads' h
  have hr : ReadsOf (Value.int .i64) (0 : Int) w (some ⟨g, 0, none⟩) xs.length xs := Kd.reads_of_C hC
  obtain ⟨ad, e, hc⟩ := hr.2.2 (by omega)
  injection e with e
  subst e
  have h2 := hc j hj
  rw [show (⟨g, 0, none⟩ : Addr).add j = ⟨g, j, none⟩ by unfold Addr.add; split <;> simp_all] at h2
  exact h2
set_option maxHeartbeats 8000000 in
set_option maxRecDepth 100000 in
theorem awake13_calls (w : World) : Calls Try.prog 8 #[] w fun e w' => e = .returned (.bool true) ∧ Below w.heap.size w w' := by
  have HB1 := Lib.hid (below_alloc (Below.refl w.heap.size w) (.cells #[.int .i64 1, .int .i64 3, .bool false, .bool false, .int .i64 0, .int .i64 0, .int .i64 0, .int .i64 0, .int .i64 0, .int .i64 2, .int .i64 3, .bool false, .bool false, .int .i64 0, .int .i64 7, .int .i64 1, .int .i64 0, .int .i64 0, .int .i64 3, .int .i64 9, .bool false, .bool false, .int .i64 0, .int .i64 0, .int .i64 0, .int .i64 0, .int .i64 0] 39))
  have T := Lib.hid (fold_ok 2 1 4 0 (some ⟨w.heap.size, 0, none⟩) 3 threeC (w.alloc (.cells #[.int .i64 1, .int .i64 3, .bool false, .bool false, .int .i64 0, .int .i64 0, .int .i64 0, .int .i64 0, .int .i64 0, .int .i64 2, .int .i64 3, .bool false, .bool false, .int .i64 0, .int .i64 7, .int .i64 1, .int .i64 0, .int .i64 0, .int .i64 3, .int .i64 9, .bool false, .bool false, .int .i64 0, .int .i64 0, .int .i64 0, .int .i64 0, .int .i64 0] 39)) (three_C (blk_new _ _)) (by decide) pool_yes)
  have e3 : threeC.length = 3 := rfl
  rw [e3] at T
  clear e3
  go_enter Try.func8, Try.ntmps8
  go_wp2_with fail
  refine T.out.mono ?_
  rintro e w2 ⟨ep, l, es, A', c', v, rfl, hs, hr, ht, hb⟩
  obtain ⟨rfl, rfl, rfl⟩ := steps_one hs three_steps
  have HB2 := Lib.hid (below_then HB1.out HB1.out.size hb)
  obtain ⟨gt, ct, rfl, _⟩ := Kd.R_form ht (by decide)
  have x2 : w2.cell? ⟨gt, 2, none⟩ = some (.int .i64 4) := cells_E ht 2 (by decide)
  have HX := Lib.hid x2
  have HC2 := Lib.hid (Kd.R_reads' hr).2.2
  clear hs hr ht hb T x2 HB1
  unfold boxM
  simp only [List.length_cons, List.length_nil, Nat.zero_add, Nat.reduceAdd]
  have HM3 : Hid ((w2.alloc (.cells #[.int .i64 2, .int .i64 2, .int .i64 1, .int .i64 4, .int .i64 0, .slice A' 1 c'] 28)).heap[w2.heap.size]? = some (.cells #[.int .i64 2, .int .i64 2, .int .i64 1, .int .i64 4, .int .i64 0, .slice A' 1 c'] 28 (0, 0))) := Lib.hid (blk_new _ _)
  have HB3 := Lib.hid (below_alloc HB2.out (.cells #[.int .i64 2, .int .i64 2, .int .i64 1, .int .i64 4, .int .i64 0, .slice A' 1 c'] 28))
  have TF := Lib.hid (aFind_calls 2 2 1 4 0 A' c' [oU] 3 _ (Kd.C_alloc HC2.out (.cells #[.int .i64 2, .int .i64 2, .int .i64 1, .int .i64 4, .int .i64 0, .slice A' 1 c'] 28)))
  rw [show descV (findO [oU] 3) = .tuple #[.agg #[.int .i64 3, .bool true, .bool false, .int .i64 0, .int .i64 7, .int .i64 1, .int .i64 0, .int .i64 0], .bool true] from rfl] at TF
  unfold boxM at TF
  have m0 := blk_cell HM3.out 0
  have m1 := blk_cell HM3.out 1
  have m2 := blk_cell HM3.out 2
  have m3 := blk_cell HM3.out 3
  have m4 := blk_cell HM3.out 4
  have m5 := blk_cell HM3.out 5
  go_wp2_with fail
  refine TF.out.mono ?_
  rintro e w4 ⟨rfl, hb⟩
  have HB4 := Lib.hid (below_then HB3.out HB3.out.size hb)
  have HM4 := Lib.hid (blk_below HM3.out hb)
  have HX4 := Lib.hid (pw_cell_below hb (cell_alloc HX.out (.cells #[.int .i64 2, .int .i64 2, .int .i64 1, .int .i64 4, .int .i64 0, .slice A' 1 c'] 28)))
  clear hb m0 m1 m2 m3 m4 m5 TF HB3 HM3 HX
  have HB5 := Lib.hid (below_alloc HB4.out (.cells #[.int .i64 3, .bool true, .bool false, .int .i64 0, .int .i64 7, .int .i64 1, .int .i64 0, .int .i64 0] 37))
  have HO5 : Hid ((w4.alloc (.cells #[.int .i64 3, .bool true, .bool false, .int .i64 0, .int .i64 7, .int .i64 1, .int .i64 0, .int .i64 0] 37)).heap[w4.heap.size]? = some (.cells #[.int .i64 3, .bool true, .bool false, .int .i64 0, .int .i64 7, .int .i64 1, .int .i64 0, .int .i64 0] 37 (0, 0))) := Lib.hid (blk_new _ _)
  have m0 := blk_cell (blk_alloc HM4.out (.cells #[.int .i64 3, .bool true, .bool false, .int .i64 0, .int .i64 7, .int .i64 1, .int .i64 0, .int .i64 0] 37)) 0
  have x2 := cell_alloc HX4.out (.cells #[.int .i64 3, .bool true, .bool false, .int .i64 0, .int .i64 7, .int .i64 1, .int .i64 0, .int .i64 0] 37)
  have y1 := blk_cell HO5.out 1
  have y4 := blk_cell HO5.out 4
  go_wp2_with fail
  go_ret
  exact ⟨rfl, HB5.out⟩
end Go.Proofs.Ytfikaekocgofoaa.AtW
/- Are maps alike? Both answers. -/
set_option linter.unusedSimpArgs false
namespace Go.Proofs.Ytfikaekocgofoaa.AtE
open Go Go.RowKit Go.Proofs.YtfikaekocgofoaaW.PrintWords Go.Proofs.YtfikaekocgofoaaW.PrintLast Go.Proofs.YtfikaekocgofoaaW.PrintMore Mem PAll KW AtA AtB Sl Dsc MayP ApP Fnd PlF Roo Awk McW ApY ApZ ApW AtK AtV AtX AtD AtC AtP Ins AtQ AtR AtS AtF AtW
open CrP hiding Od
theorem cond_eq (a b : Od) : (!(a.f0 == b.f0) || (!(a.f1 == b.f1) || (!(a.f2 == b.f2) || (!(a.f3 == b.f3) || (!(a.f4 == b.f4) || (!(a.f5 == b.f5) || (!(a.f6 == b.f6) || (!(a.f7 == b.f7))))))))) = !(eqO a b) := by
  unfold eqO
  simp only [Bool.not_and]
theorem eqO_iff' {a b : Od} : eqO a b = true ↔ a = b := by
  unfold eqO
  cases a
  cases b
  simp only [Bool.and_eq_true, beq_iff_eq, S37.mk.injEq]
instance : DecidableEq Od := fun a b => decidable_of_iff (eqO a b = true) eqO_iff'
theorem rd_get {l : List Od} {i : Nat} (h : i < l.length) : rd_T37 l (i : Int) = l[i] := by
  unfold rd_T37
  rw [Int.toNat_natCast, List.getD_eq_getElem?_getD, List.getElem?_eq_getElem h]
  rfl
theorem drop_eq {l l' : List Od} {i : Nat} (h : i < l.length) (h' : i < l'.length) : decide (l.drop i = l'.drop i) = (eqO l[i] l'[i] && decide (l.drop (i + 1) = l'.drop (i + 1))) := by
  rw [List.drop_eq_getElem_cons h, List.drop_eq_getElem_cons h', Bool.eq_iff_iff]
  simp only [Bool.and_eq_true, decide_eq_true_eq, List.cons.injEq, eqO_iff']
theorem wrap_succ {i n : Nat} (h : i < n) (hn : n ≤ 9223372036854775807) : wrap64 ((i : Int) + 1) = ((i + 1 : Nat) : Int) := by
  unfold wrap64
  omega
theorem rsame_l0 (e k m p d e' k' m' p' d' : Int) (l l' : List Od) (hlen : l.length = l'.length) (hm : l.length ≤ 9223372036854775807) : ∀ (r i : Nat), i + r = l.length → ∃ K, mooringref13_Same.l0 K (i : Int) e k m p d l e' k' m' p' d' l' = some (decide (l.drop i = l'.drop i)) := by
  intro r
  induction r with
  | zero =>
    intro i hi
    refine ⟨1, ?_⟩
    simp only [mooringref13_Same.l0]
    rw [if_neg (by omega), List.drop_eq_nil_of_le (by omega), List.drop_eq_nil_of_le (by omega)]
    simp
  | succ r ih =>
    intro i hi
    obtain ⟨K, hK⟩ := ih (i + 1) (by omega)
    have h1 : i < l.length := by omega
    have h2 : i < l'.length := by omega
    refine ⟨K + 1, ?_⟩
    simp only [mooringref13_Same.l0]
    rw [if_pos (by omega), if_pos (by omega), if_pos (by omega), rd_get h1, rd_get h2, cond_eq, drop_eq h1 h2, wrap_succ h1 hm]
    cases hq : eqO l[i] l'[i]
    · rfl
    · rw [if_neg (by decide), hK]
      rfl
def sameB (e k m p d : Int) (l : List Od) (e' k' m' p' d' : Int) (l' : List Od) : Bool := (e == e' && (k == k' && (m == m' && (p == p' && d == d')))) && decide (l = l')
theorem same_self (e k m p d : Int) (l : List Od) : sameB e k m p d l e k m p d l = true := by unfold sameB; simp
theorem rsame_f (e k m p d e' k' m' p' d' : Int) (l l' : List Od) (hm : l.length ≤ 9223372036854775807) : ∃ K, mooringref13_Same.f K e k m p d l e' k' m' p' d' l' = some (sameB e k m p d l e' k' m' p' d' l') := by
  by_cases he : e = e'
  · have q1 : (e == e') = true := by simpa using he
    cases hp : (k == k' && (m == m' && (p == p' && d == d'))) with
    | false =>
      refine ⟨1, ?_⟩
      unfold mooringref13_Same.f sameB
      rw [if_pos he, q1, hp, if_pos (by rw [show (!(k == k') || (!(m == m') || (!(p == p') || !(d == d')))) = !(k == k' && (m == m' && (p == p' && d == d'))) by simp only [Bool.not_and], hp]; rfl)]
      rfl
    | true =>
      by_cases hl : l.length = l'.length
      · obtain ⟨K, hK⟩ := rsame_l0 e k m p d e' k' m' p' d' l l' hl hm l.length 0 (by omega)
        refine ⟨K + 1, ?_⟩
        unfold mooringref13_Same.f sameB
        rw [if_pos he, q1, hp, if_neg (by rw [show (!(k == k') || (!(m == m') || (!(p == p') || !(d == d')))) = !(k == k' && (m == m' && (p == p' && d == d'))) by simp only [Bool.not_and], hp]; decide)]
        simp only [mooringref13_Same.j0]
        rw [if_neg (by simp [hl])]
        rw [List.drop_zero, List.drop_zero] at hK
        exact hK
      · refine ⟨1, ?_⟩
        unfold mooringref13_Same.f sameB
        rw [if_pos he, q1, hp, if_neg (by rw [show (!(k == k') || (!(m == m') || (!(p == p') || !(d == d')))) = !(k == k' && (m == m' && (p == p' && d == d'))) by simp only [Bool.not_and], hp]; decide)]
        simp only [mooringref13_Same.j0]
        have hb : ((l.length : Int) != (l'.length : Int)) = true := by simp; omega
        rw [if_pos hb, decide_eq_false (fun h => hl (congrArg List.length h))]
        rfl
  · refine ⟨1, ?_⟩
    unfold mooringref13_Same.f sameB
    have q1 : (e == e') = false := by simpa using he
    rw [if_neg he, q1]
    rfl
section
variable (e k m p d : Int) (A : Option Addr) (c : Nat) (l : List Od) (e' k' m' p' d' : Int) (A' : Option Addr) (c' : Nat) (l' : List Od) (w : World)
theorem rsame_calls (hx : kO.C w A l.length l) (hc : l.length ≤ c) (hx' : kO.C w A' l'.length l') (hc' : l'.length ≤ c') : Calls Try.prog 12 #[.agg (boxM e k m p d A c l), .agg (boxM e' k' m' p' d' A' c' l')] w fun en w' => en = .returned (.bool (sameB e k m p d l e' k' m' p' d' l')) ∧ Below w.heap.size w w' := by
  obtain ⟨K, hK⟩ := rsame_f e k m p d e' k' m' p' d' l l' hx.2.1
  exact mooringref13_Same.calls K e k m p d A c l e' k' m' p' d' A' c' l' _ w hx hc hx' hc' hK
end
end Go.Proofs.Ytfikaekocgofoaa.AtE
/- A map's numbers, a change's numbers; their bytes; unlike ones have unlike bytes. -/
set_option linter.unusedSimpArgs false
namespace Go.Proofs.Ytfikaekocgofoaa.EnP
open Go Go.RowKit Go.Proofs.YtfikaekocgofoaaW.PrintWords Mem PAll AtA AtB MayP AtE WireP UvW Put Puo McW
open CrP hiding Od
theorem uvs_inj : ∀ (a b : List Int), Nat63 a → Nat63 b → uvs a = uvs b → a = b := by
  intro a
  induction a with
  | nil =>
    intro b _ _ h
    cases b with
    | nil => rfl
    | cons y b =>
      have h2 := congrArg List.length h
      rw [uvs_cons, List.length_append] at h2
      have := uv_pos y.toNat
      simp only [uvs_nil, List.length_nil] at h2
      omega
  | cons x a ih =>
    intro b ha hb h
    cases b with
    | nil =>
      have h2 := congrArg List.length h
      rw [uvs_cons, List.length_append] at h2
      have := uv_pos x.toNat
      simp only [uvs_nil, List.length_nil] at h2
      omega
    | cons y b =>
      rw [uvs_cons, uvs_cons] at h
      have hx := ha x (List.mem_cons_self ..)
      have hy := hb y (List.mem_cons_self ..)
      have e := uv_prefix x.toNat y.toNat (uvs b) ⟨uvs a, h⟩
      have e2 : x = y := by omega
      subst e2
      rw [ih b (fun n hn => ha n (List.mem_cons_of_mem _ hn)) (fun n hn => hb n (List.mem_cons_of_mem _ hn)) (List.append_cancel_left h)]
/-- A map's numbers ahead of its OSDs. -/
abbrev headL (ep k m p d : Int) (n : Nat) : List Int := [ep, k, m, p, d, (n : Int)]
def osdsL (l : List Od) : List Int := l.flatMap osdL
def encL (ep k m p d : Int) (l : List Od) : List Int := uvs (headL ep k m p d l.length) ++ uvs (osdsL l)
def encC (kd : Int) (o : Od) : List Int := uvs [kd] ++ uvs (osdL o)
/-- Numbers that may be read. -/
def Nat31 (l : List Int) : Prop := ∀ n ∈ l, 0 ≤ n ∧ n < 2147483648
theorem Nat31.n63 {l : List Int} (h : Nat31 l) : Nat63 l := fun n hn => by have := h n hn; omega
theorem b2i_31 (b : Bool) : 0 ≤ b2i b ∧ b2i b < 2147483648 := by cases b <;> decide
theorem osd_31 {o : Od} (h : osdB o = true) : Nat31 (osdL o) := by
  unfold osdB winB at h
  simp only [Bool.and_eq_true, decide_eq_true_eq] at h
  intro n hn
  have h1 := b2i_31 o.f1
  have h2 := b2i_31 o.f2
  simp only [osdL, List.mem_cons, List.not_mem_nil, or_false] at hn
  rcases hn with rfl | rfl | rfl | rfl | rfl | rfl | rfl | rfl <;> omega
theorem osds_31 {l : List Od} (h : ∀ o ∈ l, osdB o = true) : Nat31 (osdsL l) := by
  intro n hn
  obtain ⟨o, ho, hn⟩ := List.mem_flatMap.1 hn
  exact osd_31 (h o ho) n hn
theorem head_31 {ep k m p d : Int} {l : List Od} (h : mayB ep k m p d l = true) : Nat31 (headL ep k m p d l.length) := by
  unfold mayB poolB winB at h
  simp only [Bool.and_eq_true, decide_eq_true_eq] at h
  intro n hn
  simp only [headL, List.mem_cons, List.not_mem_nil, or_false] at hn
  rcases hn with rfl | rfl | rfl | rfl | rfl | rfl <;> omega
theorem may_all {ep k m p d : Int} {l : List Od} (h : mayB ep k m p d l = true) : ∀ o ∈ l, osdB o = true := may_osd h
theorem eqO_eq {a b : Od} (h : eqO a b = true) : a = b := eqO_iff'.1 h
theorem mayc_31 {kd : Int} {o : Od} (h : mayC kd o = true) : Nat31 (osdL o) ∧ 1 ≤ kd ∧ kd ≤ 6 := by
  unfold mayC at h
  split at h
  · exact ⟨osd_31 h, by omega, by omega⟩
  · split at h
    · simp only [Bool.and_eq_true] at h
      have e := eqO_eq h.1
      have h2 := h.2
      unfold winB McW.within1 at h2
      simp only [Bool.and_eq_true, decide_eq_true_eq] at h2
      refine ⟨?_, by omega, by omega⟩
      rw [e]
      intro n hn
      simp only [osdL, b2i, List.mem_cons, List.not_mem_nil, or_false] at hn
      rcases hn with rfl | rfl | rfl | rfl | rfl | rfl | rfl | rfl <;> (try simp only [Bool.false_eq_true, if_false]) <;> omega
    · split at h
      · simp only [Bool.and_eq_true] at h
        have e := eqO_eq h.1
        have h2 := h.2
        unfold winB at h2
        simp only [Bool.and_eq_true, decide_eq_true_eq] at h2
        refine ⟨?_, by omega, by omega⟩
        rw [e]
        intro n hn
        simp only [osdL, b2i, List.mem_cons, List.not_mem_nil, or_false] at hn
        rcases hn with rfl | rfl | rfl | rfl | rfl | rfl | rfl | rfl <;> (try simp only [Bool.false_eq_true, if_false]) <;> omega
      · split at h
        · simp only [Bool.and_eq_true] at h
          have e := eqO_eq h.1
          have h2 := h.2
          unfold winB at h2
          simp only [Bool.and_eq_true, decide_eq_true_eq] at h2
          refine ⟨?_, by omega, by omega⟩
          rw [e]
          intro n hn
          simp only [osdL, b2i, List.mem_cons, List.not_mem_nil, or_false] at hn
          rcases hn with rfl | rfl | rfl | rfl | rfl | rfl | rfl | rfl <;> (try simp only [Bool.false_eq_true, if_false]) <;> omega
        · cases h
theorem b2i_inj {a b : Bool} (h : b2i a = b2i b) : a = b := by
  cases a <;> cases b <;> first | rfl | (exact absurd h (by decide))
theorem osdL_inj {a b : Od} (h : osdL a = osdL b) : a = b := by
  simp only [osdL, List.cons.injEq] at h
  obtain ⟨h0, h1, h2, h3, h4, h5, h6, h7, _⟩ := h
  have e1 := b2i_inj h1
  have e2 := b2i_inj h2
  cases a; cases b
  simp only at h0 e1 e2 h3 h4 h5 h6 h7
  subst h0; subst e1; subst e2; subst h3; subst h4; subst h5; subst h6; subst h7
  rfl
theorem osdsL_inj : ∀ (a b : List Od), a.length = b.length → osdsL a = osdsL b → a = b := by
  intro a
  induction a with
  | nil => intro b h _; exact (List.eq_nil_of_length_eq_zero h.symm).symm
  | cons x a ih =>
    intro b h e
    cases b with
    | nil => cases h
    | cons y b =>
      unfold osdsL at e
      rw [List.flatMap_cons, List.flatMap_cons] at e
      have e2 := List.append_inj e rfl
      rw [osdL_inj e2.1, ih b (by simpa using h) e2.2]
/-- Unlike maps have unlike bytes. -/
theorem encL_inj {ep k m p d ep' k' m' p' d' : Int} {l l' : List Od} (h : mayB ep k m p d l = true) (h' : mayB ep' k' m' p' d' l' = true) : (encL ep k m p d l = encL ep' k' m' p' d' l') ↔ sameB ep k m p d l ep' k' m' p' d' l' = true := by
  constructor
  · intro e
    unfold encL at e
    rw [← uvs_append, ← uvs_append] at e
    have e2 := uvs_inj _ _ (fun n hn => by
      rcases List.mem_append.1 hn with hn | hn
      · exact (head_31 h).n63 n hn
      · exact (osds_31 (may_all h)).n63 n hn) (fun n hn => by
      rcases List.mem_append.1 hn with hn | hn
      · exact (head_31 h').n63 n hn
      · exact (osds_31 (may_all h')).n63 n hn) e
    have e3 := List.append_inj e2 rfl
    have e4 := e3.1
    simp only [headL, List.cons.injEq] at e4
    obtain ⟨g0, g1, g2, g3, g4, g5, _⟩ := e4
    have e5 := osdsL_inj l l' (by omega) e3.2
    subst g0; subst g1; subst g2; subst g3; subst g4; subst e5
    exact same_self _ _ _ _ _ _
  · intro e
    unfold sameB at e
    simp only [Bool.and_eq_true, beq_iff_eq, decide_eq_true_eq] at e
    obtain ⟨⟨g0, g1, g2, g3, g4⟩, e5⟩ := e
    subst g0; subst g1; subst g2; subst g3; subst g4; subst e5
    rfl
/-- Unlike changes have unlike bytes. -/
theorem encC_inj {kd kd' : Int} {o o' : Od} (h : mayC kd o = true) (h' : mayC kd' o' = true) : (encC kd o = encC kd' o') ↔ (kd = kd' ∧ o = o') := by
  constructor
  · intro e
    unfold encC at e
    rw [← uvs_append, ← uvs_append] at e
    have m1 := mayc_31 h
    have m2 := mayc_31 h'
    have e2 := uvs_inj _ _ (fun n hn => by
      rcases List.mem_append.1 hn with hn | hn
      · have := List.mem_singleton.1 hn; omega
      · exact m1.1.n63 n hn) (fun n hn => by
      rcases List.mem_append.1 hn with hn | hn
      · have := List.mem_singleton.1 hn; omega
      · exact m2.1.n63 n hn) e
    have e3 := List.append_inj e2 rfl
    exact ⟨by simpa using e3.1, osdL_inj e3.2⟩
  · rintro ⟨rfl, rfl⟩; rfl
theorem osdsL_take {l : List Od} {i : Nat} {o : Od} (h : l[i]? = some o) : osdsL (l.take (i + 1)) = osdsL (l.take i) ++ osdL o := by
  unfold osdsL
  rw [List.take_add_one, h, List.flatMap_append]
  congr 1
theorem osdsL_len : ∀ (l : List Od), (osdsL l).length = 8 * l.length := by
  intro l
  induction l with
  | nil => rfl
  | cons o l ih => unfold osdsL at *; rw [List.flatMap_cons, List.length_append, ih]; simp only [List.length_cons, List.length_nil]; omega
end Go.Proofs.Ytfikaekocgofoaa.EnP
/- Numbers read one behind the other, and what stands there: the plain law. -/
set_option linter.unusedSimpArgs false
namespace Go.Proofs.Ytfikaekocgofoaa.RdL
open Go Go.RowKit Go.Proofs.YtfikaekocgofoaaW.PrintWords Mem PAll AtA AtB MayP AtE WireP UvW Put Puo EnP RdW McW
open CrP hiding Od
/-- Numbers read, each at most another one. -/
inductive Nums (xs : List Int) : Nat → Int → List (Int × Int) → Nat → Int → Prop
  | nil {a : Nat} {e : Int} : Nums xs a e [] a e
  | cons {a b c : Nat} {e f g most n : Int} {l : List (Int × Int)} (h : RdN xs a e most n b f) (t : Nums xs b f l c g) : Nums xs a e ((most, n) :: l) c g
theorem Nums.one {xs : List Int} {a b : Nat} {e f most n : Int} (h : RdN xs a e most n b f) : Nums xs a e [(most, n)] b f := .cons h .nil
theorem rdN_bad {xs : List Int} {a b : Nat} {e f most n : Int} (h : RdN xs a e most n b f) (he : e ≠ 0) : f ≠ 0 := by
  rcases h with ⟨_, _, _, h⟩ | ⟨h, _⟩
  · rw [h]; exact he
  · exact absurd h he
theorem Nums.bad {xs : List Int} {a b : Nat} {e f : Int} {l : List (Int × Int)} (h : Nums xs a e l b f) (he : e ≠ 0) : f ≠ 0 := by
  induction h with
  | nil => exact he
  | cons h1 _ ih => exact ih (rdN_bad h1 he)
/-- What was read without fault stands there. -/
theorem rdN_clean {xs : List Int} {a b : Nat} {most n : Int} (h : RdN xs a 0 most n b 0) : 0 ≤ n ∧ n ≤ most ∧ xs.drop a = uv n.toNat ++ xs.drop b := by
  rcases h with ⟨h, _⟩ | ⟨_, m, k, hp, h⟩
  · exact absurd rfl h
  · rcases h with ⟨_, _, _, h⟩ | ⟨_, _, _, _, h⟩ | ⟨h1, h2, rfl, rfl, _⟩
    · omega
    · omega
    · refine ⟨by omega, h2, ?_⟩
      rcases hp with ⟨_, _, h3, h4⟩ | ⟨_, h3, _⟩
      · obtain ⟨t, ht⟩ := h3
        have e : (m : Int).toNat = m := by omega
        rw [e, ← List.drop_drop, ← ht, h4, List.drop_left]
      · omega
theorem Nums.clean {xs : List Int} {a b : Nat} {e f : Int} {l : List (Int × Int)} (h : Nums xs a e l b f) (hf : f = 0) : e = 0 ∧ (∀ p ∈ l, 0 ≤ p.2 ∧ p.2 ≤ p.1) ∧ xs.drop a = uvs (l.map (·.2)) ++ xs.drop b := by
  induction h with
  | nil => exact ⟨hf, (fun p hp => absurd hp List.not_mem_nil), (by simp [uvs])⟩
  | @cons a b c e f g most n l h1 t ih =>
    obtain ⟨rfl, h2, h3⟩ := ih hf
    have he : e = 0 := by
      by_cases h : e = 0
      · exact h
      · exact absurd rfl (rdN_bad h1 h)
    subst he
    obtain ⟨q1, q2, q3⟩ := rdN_clean h1
    refine ⟨rfl, fun p hp => ?_, ?_⟩
    · rcases List.mem_cons.1 hp with rfl | hp
      · exact ⟨q1, q2⟩
      · exact h2 p hp
    · rw [q3, h3, List.map_cons, uvs_cons, List.append_assoc]
/-- What stands there is read. -/
theorem rdN_back {xs : List Int} {a b : Nat} {f most n m : Int} {t : List Int} (h : RdN xs a 0 most n b f) (hm : 0 ≤ m ∧ m ≤ most ∧ m < 18446744073709551616) (hx : xs.drop a = uv m.toNat ++ t) : n = m ∧ f = 0 ∧ xs.drop b = t := by
  rcases h with ⟨h, _⟩ | ⟨_, q, k, hp, h⟩
  · exact absurd rfl h
  · rw [hx] at hp
    obtain ⟨rfl, rfl⟩ := pk_of_uv (by omega) hp
    have hk := uv_pos m.toNat
    rcases h with ⟨h, _⟩ | ⟨_, h, _⟩ | ⟨_, _, rfl, rfl, rfl⟩
    · omega
    · omega
    · refine ⟨by omega, rfl, ?_⟩
      rw [← List.drop_drop, hx, List.drop_left]
theorem Nums.back {xs : List Int} {a b : Nat} {e f : Int} {l : List (Int × Int)} (h : Nums xs a e l b f) : e = 0 → ∀ (ms t : List Int), ms.length = l.length → (∀ (i : Nat) (p : Int × Int) (m : Int), l[i]? = some p → ms[i]? = some m → 0 ≤ m ∧ m ≤ p.1 ∧ m < 18446744073709551616) → xs.drop a = uvs ms ++ t → l.map (·.2) = ms ∧ f = 0 ∧ xs.drop b = t := by
  induction h with
  | nil =>
    intro he ms t hl _ hx
    obtain rfl : ms = [] := List.eq_nil_of_length_eq_zero hl
    exact ⟨rfl, he, hx⟩
  | @cons a b c e f g most n l h1 _ ih =>
    intro he ms t hl hr hx
    subst he
    cases ms with
    | nil => cases hl
    | cons m ms =>
      rw [uvs_cons, List.append_assoc] at hx
      obtain ⟨rfl, rfl, h3⟩ := rdN_back h1 (hr 0 _ _ rfl rfl) hx
      obtain ⟨h4, h5, h6⟩ := ih rfl ms t (by simpa using hl) (fun i p m hi hm => hr (i + 1) p m hi hm) h3
      exact ⟨by rw [List.map_cons, h4], h5, h6⟩
/-- An OSD read. -/
def GetO (q : Int) (xs : List Int) (a : Nat) (e : Int) (o : Od) (b : Nat) (f : Int) : Prop :=
  ∃ n1 n2 : Int, o.f1 = (n1 == 1) ∧ o.f2 = (n2 == 1) ∧ Nums xs a e [(2147483647, o.f0), (q, n1), (q, n2), (2147483647, o.f3), (2147483647, o.f4), (2147483647, o.f5), (2147483647, o.f6), (2147483647, o.f7)] b f
/-- Many. -/
inductive GetOs (q : Int) (xs : List Int) : Nat → Int → List Od → Nat → Int → Prop
  | nil {a : Nat} {e : Int} : GetOs q xs a e [] a e
  | snoc {a b c : Nat} {e f g : Int} {l : List Od} {o : Od} (t : GetOs q xs a e l b f) (h : GetO q xs b f o c g) : GetOs q xs a e (l ++ [o]) c g
theorem GetO.clean {xs : List Int} {a b : Nat} {e f : Int} {o : Od} (h : GetO 1 xs a e o b f) (hf : f = 0) : e = 0 ∧ xs.drop a = uvs (osdL o) ++ xs.drop b := by
  obtain ⟨n1, n2, h1, h2, h3⟩ := h
  obtain ⟨k1, k2, k3⟩ := h3.clean hf
  refine ⟨k1, ?_⟩
  have g1 := k2 (1, n1) (by simp)
  have g2 := k2 (1, n2) (by simp)
  simp only at g1 g2
  have e1 : b2i o.f1 = n1 := by
    rw [h1]
    have : n1 = 0 ∨ n1 = 1 := by omega
    rcases this with rfl | rfl <;> rfl
  have e2 : b2i o.f2 = n2 := by
    rw [h2]
    have : n2 = 0 ∨ n2 = 1 := by omega
    rcases this with rfl | rfl <;> rfl
  rw [k3, osdL, e1, e2]
  rfl
theorem GetOs.clean {xs : List Int} {a b : Nat} {e f : Int} {l : List Od} (h : GetOs 1 xs a e l b f) (hf : f = 0) : e = 0 ∧ xs.drop a = uvs (osdsL l) ++ xs.drop b := by
  induction h with
  | nil => exact ⟨hf, by simp [uvs, osdsL]⟩
  | snoc _ h ih =>
    obtain ⟨k1, k2⟩ := h.clean hf
    obtain ⟨j1, j2⟩ := ih k1
    refine ⟨j1, ?_⟩
    have : ∀ (l : List Od) (o : Od), osdsL (l ++ [o]) = osdsL l ++ osdL o := fun l o => by unfold osdsL; rw [List.flatMap_append]; congr 1
    rw [j2, k2, this, uvs_append, List.append_assoc]
theorem GetO.back {q : Int} {xs : List Int} {a b : Nat} {f : Int} {o o' : Od} {t : List Int} (h : GetO q xs a 0 o b f) (hq : 1 ≤ q) (hn : Nat31 (osdL o')) (hx : xs.drop a = uvs (osdL o') ++ t) : o = o' ∧ f = 0 ∧ xs.drop b = t := by
  obtain ⟨n1, n2, h1, h2, h3⟩ := h
  have hb1 : 0 ≤ b2i o'.f1 ∧ b2i o'.f1 ≤ 1 := by cases o'.f1 <;> decide
  have hb2 : 0 ≤ b2i o'.f2 ∧ b2i o'.f2 ≤ 1 := by cases o'.f2 <;> decide
  have hn' : ∀ n ∈ osdL o', 0 ≤ n ∧ n < 2147483648 := hn
  obtain ⟨k1, k2, k3⟩ := h3.back rfl (osdL o') t rfl (fun i p m hp hm => by
    have hmm := hn' m (List.mem_of_getElem? hm)
    match i, hp, hm with
    | 0, hp, hm => obtain rfl := Option.some.inj hp; simp only; omega
    | 1, hp, hm => obtain rfl := Option.some.inj hp; obtain rfl := Option.some.inj hm; simp only; omega
    | 2, hp, hm => obtain rfl := Option.some.inj hp; obtain rfl := Option.some.inj hm; simp only; omega
    | 3, hp, hm => obtain rfl := Option.some.inj hp; simp only; omega
    | 4, hp, hm => obtain rfl := Option.some.inj hp; simp only; omega
    | 5, hp, hm => obtain rfl := Option.some.inj hp; simp only; omega
    | 6, hp, hm => obtain rfl := Option.some.inj hp; simp only; omega
    | 7, hp, hm => obtain rfl := Option.some.inj hp; simp only; omega
    | i + 8, hp, hm => cases hp) hx
  refine ⟨?_, k2, k3⟩
  simp only [List.map_cons, List.map_nil, osdL, List.cons.injEq] at k1
  obtain ⟨g0, g1, g2, g3, g4, g5, g6, g7, _⟩ := k1
  have e1 : o.f1 = o'.f1 := by rw [h1, g1]; cases o'.f1 <;> rfl
  have e2 : o.f2 = o'.f2 := by rw [h2, g2]; cases o'.f2 <;> rfl
  cases o; cases o'
  simp only at g0 e1 e2 g3 g4 g5 g6 g7
  subst g0; subst e1; subst e2; subst g3; subst g4; subst g5; subst g6; subst g7
  rfl
theorem GetOs.back {q : Int} {xs : List Int} {a b : Nat} {e f : Int} {l : List Od} (h : GetOs q xs a e l b f) (hq : 1 ≤ q) : e = 0 → ∀ (l' : List Od) (t : List Int), l'.length = l.length → (∀ o ∈ l', Nat31 (osdL o)) → xs.drop a = uvs (osdsL l') ++ t → l = l' ∧ f = 0 ∧ xs.drop b = t := by
  induction h with
  | nil =>
    intro he l' t hl _ hx
    obtain rfl : l' = [] := List.eq_nil_of_length_eq_zero hl
    exact ⟨rfl, he, hx⟩
  | @snoc b c e f g l o _ h ih =>
    intro he l' t hl hn hx
    have hne : l' ≠ [] := fun h0 => by rw [h0] at hl; simp at hl
    obtain ⟨l2, o2, rfl⟩ : ∃ l2 o2, l' = l2 ++ [o2] := ⟨_, _, (List.dropLast_concat_getLast hne).symm⟩
    have e1 : osdsL (l2 ++ [o2]) = osdsL l2 ++ osdL o2 := by unfold osdsL; rw [List.flatMap_append]; congr 1
    rw [e1, uvs_append, List.append_assoc] at hx
    obtain ⟨rfl, rfl, h3⟩ := ih he l2 _ (by simpa using hl) (fun o ho => hn o (List.mem_append_left _ ho)) hx
    obtain ⟨rfl, rfl, h6⟩ := h.back hq (hn o2 (by simp)) h3
    exact ⟨rfl, rfl, h6⟩
/-- A map read: the numbers ahead, the OSDs. -/
structure GetM (q : Int) (xs : List Int) (ep k m p d : Int) (l : List Od) (b : Nat) (f : Int) : Prop where
  read : ∃ (a : Nat) (e n : Int), Nums xs 0 0 [(2147483647, ep), (2147483647, k), (2147483647, m), (2147483647, p), (2147483647, d), (64, n)] a e ∧ (l.length : Int) = n ∧ GetOs q xs a e l b f
theorem GetM.clean {xs : List Int} {ep k m p d : Int} {l : List Od} {b : Nat} (h : GetM 1 xs ep k m p d l b 0) (hb : xs.length ≤ b) : encL ep k m p d l = xs := by
  obtain ⟨a, e, n, h1, h2, h3⟩ := h.read
  obtain ⟨rfl, k2⟩ := h3.clean rfl
  obtain ⟨_, _, k3⟩ := h1.clean rfl
  rw [List.drop_zero] at k3
  rw [List.drop_eq_nil_of_le hb, List.append_nil] at k2
  rw [k3, k2, encL, headL, h2]
  rfl
theorem GetM.back {q : Int} {xs : List Int} {ep k m p d ep' k' m' p' d' : Int} {l l' : List Od} {b : Nat} {f : Int} (h : GetM q xs ep k m p d l b f) (hq : 1 ≤ q) (hm : mayB ep' k' m' p' d' l' = true) (hx : encL ep' k' m' p' d' l' = xs) : ep = ep' ∧ k = k' ∧ m = m' ∧ p = p' ∧ d = d' ∧ l = l' ∧ f = 0 ∧ xs.drop b = [] := by
  obtain ⟨a, e, n, h1, h2, h3⟩ := h.read
  have h31 : ∀ n ∈ headL ep' k' m' p' d' l'.length, 0 ≤ n ∧ n < 2147483648 := head_31 hm
  have h64 := (may_good hm).1
  obtain ⟨k1, rfl, k3⟩ := h1.back rfl (headL ep' k' m' p' d' l'.length) (uvs (osdsL l')) rfl (fun i p m hp hm => by
    have hmm := h31 m (List.mem_of_getElem? hm)
    match i, hp, hm with
    | 0, hp, hm => obtain rfl := Option.some.inj hp; simp only; omega
    | 1, hp, hm => obtain rfl := Option.some.inj hp; simp only; omega
    | 2, hp, hm => obtain rfl := Option.some.inj hp; simp only; omega
    | 3, hp, hm => obtain rfl := Option.some.inj hp; simp only; omega
    | 4, hp, hm => obtain rfl := Option.some.inj hp; simp only; omega
    | 5, hp, hm => obtain rfl := Option.some.inj hp; obtain rfl := Option.some.inj hm; simp only; omega
    | i + 6, hp, hm => cases hp) (by rw [List.drop_zero, ← hx]; rfl)
  simp only [List.map_cons, List.map_nil, headL, List.cons.injEq] at k1
  obtain ⟨g0, g1, g2, g3, g4, g5, _⟩ := k1
  obtain ⟨j1, j2, j3⟩ := h3.back hq rfl l' [] (by omega) (fun o ho => osd_31 (may_all hm o ho)) (by rw [k3, List.append_nil])
  exact ⟨g0, g1, g2, g3, g4, j1, j2, j3⟩
/-- A change read. -/
def GetC (q : Int) (xs : List Int) (kd : Int) (o : Od) (b : Nat) (f : Int) : Prop := ∃ (a : Nat) (e : Int), Nums xs 0 0 [(2147483647, kd)] a e ∧ GetO q xs a e o b f
theorem GetC.clean {xs : List Int} {kd : Int} {o : Od} {b : Nat} (h : GetC 1 xs kd o b 0) (hb : xs.length ≤ b) : encC kd o = xs := by
  obtain ⟨a, e, h1, h3⟩ := h
  obtain ⟨rfl, k2⟩ := h3.clean rfl
  obtain ⟨_, _, k3⟩ := h1.clean rfl
  rw [List.drop_zero] at k3
  rw [List.drop_eq_nil_of_le hb, List.append_nil] at k2
  rw [k3, k2]
  rfl
theorem GetC.back {q : Int} {xs : List Int} {kd kd' : Int} {o o' : Od} {b : Nat} {f : Int} (h : GetC q xs kd o b f) (hq : 1 ≤ q) (hm : mayC kd' o' = true) (hx : encC kd' o' = xs) : kd = kd' ∧ o = o' ∧ f = 0 ∧ xs.drop b = [] := by
  obtain ⟨a, e, h1, h3⟩ := h
  have m1 := mayc_31 hm
  obtain ⟨k1, rfl, k3⟩ := h1.back rfl [kd'] (uvs (osdL o')) rfl (fun i p m hp hm => by
    match i, hp, hm with
    | 0, hp, hm => obtain rfl := Option.some.inj hp; obtain rfl := Option.some.inj hm; simp only; omega
    | i + 1, hp, hm => cases hp) (by rw [List.drop_zero, ← hx]; rfl)
  simp only [List.map_cons, List.map_nil, List.cons.injEq] at k1
  obtain ⟨j1, j2, j3⟩ := h3.back hq m1.1 (by rw [k3, List.append_nil])
  exact ⟨k1.1, j1, j2, j3⟩
end Go.Proofs.Ytfikaekocgofoaa.RdL
/- Numbers and OSDs read by the program. -/
set_option linter.unusedSimpArgs false
namespace Go.Proofs.Ytfikaekocgofoaa.Get
open Go Go.RowKit Go.Proofs.YtfikaekocgofoaaW.PrintWords Go.Proofs.YtfikaekocgofoaaW.PrintLast Go.Proofs.YtfikaekocgofoaaW.PrintMore Mem PAll AtA WireP UvW Put Puo RdW RdL
open CrP hiding Od
/-- A reader, another block written. -/
theorem IsRd.beside {w w1 : World} {base p g : Nat} {xs : List Int} {a : Nat} {e : Int} {cs : Array Value} {t : TypeId} (h : IsRd w base p xs a e) (hb : w.heap[g]? = some (.cells cs t (0, 0))) (h1 : 5 ≠ t) (h2 : 107 ≠ t) (hg : w.grownBy w1 (some g)) : IsRd w1 base p xs a e := by
  obtain ⟨A, c, k1, k2, k3, k4⟩ := h
  exact ⟨A, c, Kd.R_grown2 k1 rfl hg (fun k hk => by cases hk; exact Kd.R_ne k1 hb h1), blk_grown k2 hg (fun e => blk_ne k2 hb h2 (Option.some.inj e)), k3, k4⟩
theorem IsRd.ne {w : World} {base p g : Nat} {xs : List Int} {a : Nat} {e : Int} {cs : Array Value} {t : TypeId} (h : IsRd w base p xs a e) (hb : w.heap[g]? = some (.cells cs t (0, 0))) (h2 : 107 ≠ t) : g ≠ p := by
  obtain ⟨A, c, k1, k2, k3, k4⟩ := h
  exact fun e => blk_ne k2 hb h2 e.symm
theorem grown_over {w w2 w3 w4 : World} {p R : Nat} (h1 : Below w.heap.size w w2) (h2 : w2.grownBy w3 (some p)) (h3 : w3.grownBy w4 (some R)) (hR : w.heap.size ≤ R) : w.grownBy w4 (some p) := by
  obtain ⟨a1, a2, a3, a4, a5⟩ := World.grownBy.trans (grown_of_below h1 (some p)) h2
  obtain ⟨b1, b2, b3, b4, b5⟩ := h3
  exact ⟨b1.trans a1, b2.trans a2, b3.trans a3, Nat.le_trans a4 b4, fun k hk hne => (b5 k (Nat.lt_of_lt_of_le hk a4) (fun e => by have := Option.some.inj e; omega)).trans (a5 k hk hne)⟩
section
variable {P : Program} {ops : Array Oper} {Q : Exit → Act → World → Prop} {Kc : Act → World → Prop}
/-- A call of a function value with what it captured, in a region that draws its order. -/
theorem goesF_ {oi : Oper} {N : Option Tmp} {a : Act} {w : World} {K : Act → World → Prop} {f : FuncId} {fn : Func} {ars : Array Operand} {ts : Array TypeId} (s : Operand) (caps : Array Value) (hf : P.funcs[f]? = some fn) (hname : (fn.name == "runtime.NumGoroutine") = false) (hb : fn.body.isSome = true) (args : Array Value)
    (hw : Region.wanted oi (yielded ops a.tmps) = true) (hN : oi.dst = N) (hop : oi.op = .call { callee := .value s, args := ars, argTypes := ts }) (hs : a.eval s = .func (.func f) #[] caps) (hargs : ars.map a.eval ++ caps = args)
    (h : Calls P f args w fun e w' => ∃ v, e = .returned v ∧ K (a.put N v) w') : if Region.wanted oi (yielded ops a.tmps) = true then Oper.wp P oi a w K Q else K (a.put N undef) w := by
  refine call_ f args hw hN ?_ h
  have he := enters_ hf hname hb args w
  unfold execOp
  simp [hop, resolve, Deferred.ofValue, invoke, hs, hargs, he]
end
theorem dnum_calls (base p q : Nat) (xs : List Int) (a : Nat) (e : Int) (w : World) (h : IsRd w base p xs a e) (hb : ∀ c ∈ xs, 0 ≤ c ∧ c < 256) (hq : w.heap[q]? = some (.cells #[.pointer (some ⟨p, 0, none⟩)] 76 (0, 0))) :
    Calls Try.prog 40 #[.pointer (some ⟨q, 0, none⟩)] w fun r w' => ∃ (n : Int) (a' : Nat) (e' : Int), r = .returned (.int .i64 n) ∧ RdN xs a e 2147483647 n a' e' ∧ IsRd w' base p xs a' e' ∧ w.grownBy w' (some p) := by
  have H := Lib.hid h
  have HB := Lib.hid hb
  have c0 := blk_cell hq 0
  clear h hb hq
  go_enter Try.func40, Try.ntmps40
  go_wp2_with fail
  refine (numberR base p xs a e 2147483647 w H.out HB.out (by decide)).mono ?_
  rintro r w1 ⟨n, a', e', rfl, h1, h2, hg⟩
  have H1 := Lib.hid h1
  have H2 := Lib.hid h2
  have HG := Lib.hid hg
  clear h1 h2 hg c0
  go_wp2_with fail
  go_ret
  exact ⟨n, a', e', rfl, H1.out, H2.out, HG.out⟩
theorem onum_calls (base p q : Nat) (xs : List Int) (a : Nat) (e : Int) (w : World) (h : IsRd w base p xs a e) (hb : ∀ c ∈ xs, 0 ≤ c ∧ c < 256) (hq : w.heap[q]? = some (.cells #[.pointer (some ⟨p, 0, none⟩)] 76 (0, 0))) :
    Calls Try.prog 73 #[.pointer (some ⟨q, 0, none⟩)] w fun r w' => ∃ (n : Int) (a' : Nat) (e' : Int), r = .returned (.int .i64 n) ∧ RdN xs a e 2147483647 n a' e' ∧ IsRd w' base p xs a' e' ∧ w.grownBy w' (some p) := by
  have H := Lib.hid h
  have HB := Lib.hid hb
  have c0 := blk_cell hq 0
  clear h hb hq
  go_enter Try.func73, Try.ntmps73
  go_wp2_with fail
  refine (numberR base p xs a e 2147483647 w H.out HB.out (by decide)).mono ?_
  rintro r w1 ⟨n, a', e', rfl, h1, h2, hg⟩
  have H1 := Lib.hid h1
  have H2 := Lib.hid h2
  have HG := Lib.hid hg
  clear h1 h2 hg c0
  go_wp2_with fail
  go_ret
  exact ⟨n, a', e', rfl, H1.out, H2.out, HG.out⟩
set_option maxHeartbeats 8000000 in
set_option maxRecDepth 100000 in
theorem agetOsd_calls (base p : Nat) (xs : List Int) (a : Nat) (e : Int) (w : World) (h : IsRd w base p xs a e) (hb : ∀ c ∈ xs, 0 ≤ c ∧ c < 256) :
    Calls Try.prog 42 #[.pointer (some ⟨p, 0, none⟩)] w fun r w' => ∃ (o : Od) (a' : Nat) (e' : Int), r = .returned (.agg (aggO o)) ∧ GetO 1 xs a e o a' e' ∧ IsRd w' base p xs a' e' ∧ w.grownBy w' (some p) := by
  have HB := Lib.hid hb
  have hs1 : (w.alloc (.cells #[.pointer (some ⟨p, 0, none⟩)] 76)).heap.size = w.heap.size + 1 := by simp only [World.alloc, Array.size_push]
  have hs2 : ((w.alloc (.cells #[.pointer (some ⟨p, 0, none⟩)] 76)).alloc (.cells #[.int .i64 0, .bool false, .bool false, .int .i64 0, .int .i64 0, .int .i64 0, .int .i64 0, .int .i64 0] 37)).heap.size = w.heap.size + 2 := by simp only [World.alloc, Array.size_push]
  obtain ⟨w2, hw2⟩ : ∃ w2, w2 = (w.alloc (.cells #[.pointer (some ⟨p, 0, none⟩)] 76)).alloc (.cells #[.int .i64 0, .bool false, .bool false, .int .i64 0, .int .i64 0, .int .i64 0, .int .i64 0, .int .i64 0] 37) := ⟨_, rfl⟩
  have HB1 : Hid (Below w.heap.size w w2) := Lib.hid (by rw [hw2]; exact below_alloc (below_alloc (Below.refl _ _) _) _)
  have HQ2 : Hid (w2.heap[w.heap.size]? = some (.cells #[.pointer (some ⟨p, 0, none⟩)] 76 (0, 0))) := Lib.hid (by rw [hw2]; exact blk_below (blk_new _ _) (below_alloc (Below.refl _ _) _))
  have HZ : Hid (w2.heap[w.heap.size + 1]? = some (.cells #[.int .i64 0, .bool false, .bool false, .int .i64 0, .int .i64 0, .int .i64 0, .int .i64 0, .int .i64 0] 37 (0, 0))) := Lib.hid (by
    have h := blk_new (w.alloc (.cells #[.pointer (some ⟨p, 0, none⟩)] 76)) (.cells #[.int .i64 0, .bool false, .bool false, .int .i64 0, .int .i64 0, .int .i64 0, .int .i64 0, .int .i64 0] 37)
    rw [hs1] at h
    rw [hw2]
    exact h)
  have HR2 := Lib.hid (h.grown HB1.out)
  have HNE : Hid (some w.heap.size ≠ some p) := Lib.hid (fun e => IsRd.ne HR2.out HQ2.out (by decide) (Option.some.inj e))
  have HNZ : Hid (some (w.heap.size + 1) ≠ some p) := Lib.hid (fun e => IsRd.ne HR2.out HZ.out (by decide) (Option.some.inj e))
  have HS2 : Hid (w2.heap.size = w.heap.size + 2) := Lib.hid (by rw [hw2]; exact hs2)
  have HWN := Lib.hid hw2
  clear h hb hs1 hs2 hw2
  go_enter Try.func42, Try.ntmps42
  go_wp2_with fail
  rw [← HWN.out]
  clear HWN
  have hG0 : Hid (w2.grownBy w2.drew (some p)) := Lib.hid (grown_of_below (below_drew (Below.refl _ _)) _)
  have HR0 : Hid (IsRd w2.drew base p xs a e) := Lib.hid (HR2.out.grown (below_drew (Below.refl _ _)))
  refine start_ (n := 20) (S := fun w' => w2.grownBy w' (some p)) (ds := [19]) #[false, false, false, false, false, false, false, false, false, false, false, false, false, false, false, false, false, false, false, false] (by kernel_rfl) rfl rfl hG0.out (fun hHeld => ?_)
  generalize w2.drew = wd at hG0 HR0 hHeld ⊢
  refine pure_ (i := 0) (N := some 5) (v := ?_) (a' := ?_) #[true, false, false, false, false, false, false, false, false, false, false, false, false, false, false, false, false, false, false, false] rfl rfl (by kernel_rfl) (fun _ _ _ h => h) (Or.inl ⟨by rfl, ?_⟩) ?_ ?_
  rotate_left
  · intro w'
    go_simp
    with_reducible rfl
  rotate_left
  · simp only [Act.put, List.setIfInBounds_toArray, List.set_cons_zero, List.set_cons_succ, i64_w, i32_w]
    rfl
  refine pure_ (i := 8) (N := some 13) (v := ?_) (a' := ?_) #[true, false, false, false, false, false, false, false, true, false, false, false, false, false, false, false, false, false, false, false] rfl rfl (by kernel_rfl) (fun _ _ _ h => h) (Or.inl ⟨by rfl, ?_⟩) ?_ ?_
  rotate_left
  · intro w'
    go_simp
    with_reducible rfl
  rotate_left
  · simp only [Act.put, List.setIfInBounds_toArray, List.set_cons_zero, List.set_cons_succ, i64_w, i32_w]
    rfl
  refine pure_ (i := 10) (N := some 15) (v := ?_) (a' := ?_) #[true, false, false, false, false, false, false, false, true, false, true, false, false, false, false, false, false, false, false, false] rfl rfl (by kernel_rfl) (fun _ _ _ h => h) (Or.inl ⟨by rfl, ?_⟩) ?_ ?_
  rotate_left
  · intro w'
    go_simp
    with_reducible rfl
  rotate_left
  · simp only [Act.put, List.setIfInBounds_toArray, List.set_cons_zero, List.set_cons_succ, i64_w, i32_w]
    rfl
  refine pure_ (i := 12) (N := some 17) (v := ?_) (a' := ?_) #[true, false, false, false, false, false, false, false, true, false, true, false, true, false, false, false, false, false, false, false] rfl rfl (by kernel_rfl) (fun _ _ _ h => h) (Or.inl ⟨by rfl, ?_⟩) ?_ ?_
  rotate_left
  · intro w'
    go_simp
    with_reducible rfl
  rotate_left
  · simp only [Act.put, List.setIfInBounds_toArray, List.set_cons_zero, List.set_cons_succ, i64_w, i32_w]
    rfl
  refine pure_ (i := 14) (N := some 19) (v := ?_) (a' := ?_) #[true, false, false, false, false, false, false, false, true, false, true, false, true, false, true, false, false, false, false, false] rfl rfl (by kernel_rfl) (fun _ _ _ h => h) (Or.inl ⟨by rfl, ?_⟩) ?_ ?_
  rotate_left
  · intro w'
    go_simp
    with_reducible rfl
  rotate_left
  · simp only [Act.put, List.setIfInBounds_toArray, List.set_cons_zero, List.set_cons_succ, i64_w, i32_w]
    rfl
  refine pure_ (i := 16) (N := some 21) (v := ?_) (a' := ?_) #[true, false, false, false, false, false, false, false, true, false, true, false, true, false, true, false, true, false, false, false] rfl rfl (by kernel_rfl) (fun _ _ _ h => h) (Or.inl ⟨by rfl, ?_⟩) ?_ ?_
  rotate_left
  · intro w'
    go_simp
    with_reducible rfl
  rotate_left
  · simp only [Act.put, List.setIfInBounds_toArray, List.set_cons_zero, List.set_cons_succ, i64_w, i32_w]
    rfl
  refine take_ (i := 2) (N := some 7) (v := ?_) (a' := ?_) #[true, false, true, false, false, false, false, false, true, false, true, false, true, false, true, false, true, false, false, false] rfl rfl (by kernel_rfl) (fun _ _ _ h => h) (Or.inl ⟨by rfl, ?_⟩) hHeld ?_ ?_
  rotate_left
  · rintro w' hS
    have c0 := blk_cell (blk_grown HQ2.out hS HNE.out) 0
    go_simp
    with_reducible rfl
  rotate_left
  · simp only [Act.put, List.setIfInBounds_toArray, List.set_cons_zero, List.set_cons_succ, i64_w, i32_w]
    rfl
  refine take_ (i := 5) (N := some 10) (v := ?_) (a' := ?_) #[true, false, true, false, false, true, false, false, true, false, true, false, true, false, true, false, true, false, false, false] rfl rfl (by kernel_rfl) (fun _ _ _ h => h) (Or.inl ⟨by rfl, ?_⟩) hHeld ?_ ?_
  rotate_left
  · rintro w' hS
    have c0 := blk_cell (blk_grown HQ2.out hS HNE.out) 0
    go_simp
    with_reducible rfl
  rotate_left
  · simp only [Act.put, List.setIfInBounds_toArray, List.set_cons_zero, List.set_cons_succ, i64_w, i32_w]
    rfl
  refine one_ (i := 1) (N := some 6) #[true, true, true, false, false, true, false, false, true, false, true, false, true, false, true, false, true, false, false, false] rfl rfl (by kernel_rfl) (by decide) (fun K hK => ?_)
  refine goesF_ (.tmp 5) #[.pointer (some ⟨w.heap.size, 0, none⟩)] Try.func73 (by kernel_rfl) rfl #[.pointer (some ⟨w.heap.size, 0, none⟩)] (by rfl) rfl rfl (by rfl) (by simp) ?_
  refine (onum_calls base p w.heap.size xs a e wd HR0.out HB.out (blk_grown HQ2.out hG0.out HNE.out)).mono ?_
  rintro r w10_ ⟨n10, a10, e10, rfl, h1, h2, hg⟩
  refine ⟨_, rfl, ?_⟩
  have hN10 := Lib.hid h1
  have HR10_ := Lib.hid h2
  have hG10_ := Lib.hid (World.grownBy.trans hG0.out hg)
  clear h1 h2 hg hG0 HR0
  refine hK.out _ _ hG10_.out (fun hHeld => ?_)
  clear hK K
  refine norm_ (a' := ?_) ?_ ?_
  rotate_left
  · show Act.put _ (some 6) _ = _
    simp only [Act.put, List.setIfInBounds_toArray, List.set_cons_zero, List.set_cons_succ, i64_w, i32_w]
    rfl
  refine one_ (i := 3) (N := some 8) #[true, true, true, true, false, true, false, false, true, false, true, false, true, false, true, false, true, false, false, false] rfl rfl (by kernel_rfl) (by decide) (fun K hK => ?_)
  refine goes_ Try.func41 (by kernel_rfl) rfl #[.pointer (some ⟨p, 0, none⟩), .int .i64 1] (by rfl) rfl rfl (by (try simp only [List.map_toArray, List.map_cons, List.map_nil]); first | done | rfl | (go_simp; done) | (go_simp; rfl)) ?_
  refine (numberR base p xs a10 e10 1 w10_ HR10_.out HB.out (by decide)).mono ?_
  rintro r w11_ ⟨n11, a11, e11, rfl, h1, h2, hg⟩
  refine ⟨_, rfl, ?_⟩
  have hN11 := Lib.hid h1
  have HR11_ := Lib.hid h2
  have hG11_ := Lib.hid (World.grownBy.trans hG10_.out hg)
  clear h1 h2 hg hG10_ HR10_
  refine hK.out _ _ hG11_.out (fun hHeld => ?_)
  clear hK K
  refine norm_ (a' := ?_) ?_ ?_
  rotate_left
  · show Act.put _ (some 8) _ = _
    simp only [Act.put, List.setIfInBounds_toArray, List.set_cons_zero, List.set_cons_succ, i64_w, i32_w]
    rfl
  refine pure_ (i := 4) (N := some 9) (v := ?_) (a' := ?_) #[true, true, true, true, true, true, false, false, true, false, true, false, true, false, true, false, true, false, false, false] rfl rfl (by kernel_rfl) (fun _ _ _ h => h) (Or.inl ⟨by rfl, ?_⟩) ?_ ?_
  rotate_left
  · intro w'
    go_simp
    with_reducible rfl
  rotate_left
  · simp only [Act.put, List.setIfInBounds_toArray, List.set_cons_zero, List.set_cons_succ, i64_w, i32_w]
    rfl
  refine one_ (i := 6) (N := some 11) #[true, true, true, true, true, true, true, false, true, false, true, false, true, false, true, false, true, false, false, false] rfl rfl (by kernel_rfl) (by decide) (fun K hK => ?_)
  refine goes_ Try.func41 (by kernel_rfl) rfl #[.pointer (some ⟨p, 0, none⟩), .int .i64 1] (by rfl) rfl rfl (by (try simp only [List.map_toArray, List.map_cons, List.map_nil]); first | done | rfl | (go_simp; done) | (go_simp; rfl)) ?_
  refine (numberR base p xs a11 e11 1 w11_ HR11_.out HB.out (by decide)).mono ?_
  rintro r w12_ ⟨n12, a12, e12, rfl, h1, h2, hg⟩
  refine ⟨_, rfl, ?_⟩
  have hN12 := Lib.hid h1
  have HR12_ := Lib.hid h2
  have hG12_ := Lib.hid (World.grownBy.trans hG11_.out hg)
  clear h1 h2 hg hG11_ HR11_
  refine hK.out _ _ hG12_.out (fun hHeld => ?_)
  clear hK K
  refine norm_ (a' := ?_) ?_ ?_
  rotate_left
  · show Act.put _ (some 11) _ = _
    simp only [Act.put, List.setIfInBounds_toArray, List.set_cons_zero, List.set_cons_succ, i64_w, i32_w]
    rfl
  refine pure_ (i := 7) (N := some 12) (v := ?_) (a' := ?_) #[true, true, true, true, true, true, true, true, true, false, true, false, true, false, true, false, true, false, false, false] rfl rfl (by kernel_rfl) (fun _ _ _ h => h) (Or.inl ⟨by rfl, ?_⟩) ?_ ?_
  rotate_left
  · intro w'
    go_simp
    with_reducible rfl
  rotate_left
  · simp only [Act.put, List.setIfInBounds_toArray, List.set_cons_zero, List.set_cons_succ, i64_w, i32_w]
    rfl
  refine one_ (i := 9) (N := some 14) #[true, true, true, true, true, true, true, true, true, true, true, false, true, false, true, false, true, false, false, false] rfl rfl (by kernel_rfl) (by decide) (fun K hK => ?_)
  refine goesF_ (.tmp 13) #[.pointer (some ⟨w.heap.size, 0, none⟩)] Try.func73 (by kernel_rfl) rfl #[.pointer (some ⟨w.heap.size, 0, none⟩)] (by rfl) rfl rfl (by rfl) (by simp) ?_
  refine (onum_calls base p w.heap.size xs a12 e12 w12_ HR12_.out HB.out (blk_grown HQ2.out hG12_.out HNE.out)).mono ?_
  rintro r w13_ ⟨n13, a13, e13, rfl, h1, h2, hg⟩
  refine ⟨_, rfl, ?_⟩
  have hN13 := Lib.hid h1
  have HR13_ := Lib.hid h2
  have hG13_ := Lib.hid (World.grownBy.trans hG12_.out hg)
  clear h1 h2 hg hG12_ HR12_
  refine hK.out _ _ hG13_.out (fun hHeld => ?_)
  clear hK K
  refine norm_ (a' := ?_) ?_ ?_
  rotate_left
  · show Act.put _ (some 14) _ = _
    simp only [Act.put, List.setIfInBounds_toArray, List.set_cons_zero, List.set_cons_succ, i64_w, i32_w]
    rfl
  refine one_ (i := 11) (N := some 16) #[true, true, true, true, true, true, true, true, true, true, true, true, true, false, true, false, true, false, false, false] rfl rfl (by kernel_rfl) (by decide) (fun K hK => ?_)
  refine goesF_ (.tmp 15) #[.pointer (some ⟨w.heap.size, 0, none⟩)] Try.func73 (by kernel_rfl) rfl #[.pointer (some ⟨w.heap.size, 0, none⟩)] (by rfl) rfl rfl (by rfl) (by simp) ?_
  refine (onum_calls base p w.heap.size xs a13 e13 w13_ HR13_.out HB.out (blk_grown HQ2.out hG13_.out HNE.out)).mono ?_
  rintro r w14_ ⟨n14, a14, e14, rfl, h1, h2, hg⟩
  refine ⟨_, rfl, ?_⟩
  have hN14 := Lib.hid h1
  have HR14_ := Lib.hid h2
  have hG14_ := Lib.hid (World.grownBy.trans hG13_.out hg)
  clear h1 h2 hg hG13_ HR13_
  refine hK.out _ _ hG14_.out (fun hHeld => ?_)
  clear hK K
  refine norm_ (a' := ?_) ?_ ?_
  rotate_left
  · show Act.put _ (some 16) _ = _
    simp only [Act.put, List.setIfInBounds_toArray, List.set_cons_zero, List.set_cons_succ, i64_w, i32_w]
    rfl
  refine one_ (i := 13) (N := some 18) #[true, true, true, true, true, true, true, true, true, true, true, true, true, true, true, false, true, false, false, false] rfl rfl (by kernel_rfl) (by decide) (fun K hK => ?_)
  refine goesF_ (.tmp 17) #[.pointer (some ⟨w.heap.size, 0, none⟩)] Try.func73 (by kernel_rfl) rfl #[.pointer (some ⟨w.heap.size, 0, none⟩)] (by rfl) rfl rfl (by rfl) (by simp) ?_
  refine (onum_calls base p w.heap.size xs a14 e14 w14_ HR14_.out HB.out (blk_grown HQ2.out hG14_.out HNE.out)).mono ?_
  rintro r w15_ ⟨n15, a15, e15, rfl, h1, h2, hg⟩
  refine ⟨_, rfl, ?_⟩
  have hN15 := Lib.hid h1
  have HR15_ := Lib.hid h2
  have hG15_ := Lib.hid (World.grownBy.trans hG14_.out hg)
  clear h1 h2 hg hG14_ HR14_
  refine hK.out _ _ hG15_.out (fun hHeld => ?_)
  clear hK K
  refine norm_ (a' := ?_) ?_ ?_
  rotate_left
  · show Act.put _ (some 18) _ = _
    simp only [Act.put, List.setIfInBounds_toArray, List.set_cons_zero, List.set_cons_succ, i64_w, i32_w]
    rfl
  refine one_ (i := 15) (N := some 20) #[true, true, true, true, true, true, true, true, true, true, true, true, true, true, true, true, true, false, false, false] rfl rfl (by kernel_rfl) (by decide) (fun K hK => ?_)
  refine goesF_ (.tmp 19) #[.pointer (some ⟨w.heap.size, 0, none⟩)] Try.func73 (by kernel_rfl) rfl #[.pointer (some ⟨w.heap.size, 0, none⟩)] (by rfl) rfl rfl (by rfl) (by simp) ?_
  refine (onum_calls base p w.heap.size xs a15 e15 w15_ HR15_.out HB.out (blk_grown HQ2.out hG15_.out HNE.out)).mono ?_
  rintro r w16_ ⟨n16, a16, e16, rfl, h1, h2, hg⟩
  refine ⟨_, rfl, ?_⟩
  have hN16 := Lib.hid h1
  have HR16_ := Lib.hid h2
  have hG16_ := Lib.hid (World.grownBy.trans hG15_.out hg)
  clear h1 h2 hg hG15_ HR15_
  refine hK.out _ _ hG16_.out (fun hHeld => ?_)
  clear hK K
  refine norm_ (a' := ?_) ?_ ?_
  rotate_left
  · show Act.put _ (some 20) _ = _
    simp only [Act.put, List.setIfInBounds_toArray, List.set_cons_zero, List.set_cons_succ, i64_w, i32_w]
    rfl
  refine one_ (i := 17) (N := some 22) #[true, true, true, true, true, true, true, true, true, true, true, true, true, true, true, true, true, true, false, false] rfl rfl (by kernel_rfl) (by decide) (fun K hK => ?_)
  refine goesF_ (.tmp 21) #[.pointer (some ⟨w.heap.size, 0, none⟩)] Try.func73 (by kernel_rfl) rfl #[.pointer (some ⟨w.heap.size, 0, none⟩)] (by rfl) rfl rfl (by rfl) (by simp) ?_
  refine (onum_calls base p w.heap.size xs a16 e16 w16_ HR16_.out HB.out (blk_grown HQ2.out hG16_.out HNE.out)).mono ?_
  rintro r w17_ ⟨n17, a17, e17, rfl, h1, h2, hg⟩
  refine ⟨_, rfl, ?_⟩
  have hN17 := Lib.hid h1
  have HR17_ := Lib.hid h2
  have hG17_ := Lib.hid (World.grownBy.trans hG16_.out hg)
  clear h1 h2 hg hG16_ HR16_
  refine hK.out _ _ hG17_.out (fun hHeld => ?_)
  clear hK K
  refine norm_ (a' := ?_) ?_ ?_
  rotate_left
  · show Act.put _ (some 22) _ = _
    simp only [Act.put, List.setIfInBounds_toArray, List.set_cons_zero, List.set_cons_succ, i64_w, i32_w]
    rfl
  refine pure_ (i := 18) (N := some 23) (v := ?_) (a' := ?_) #[true, true, true, true, true, true, true, true, true, true, true, true, true, true, true, true, true, true, true, false] rfl rfl (by kernel_rfl) (fun _ _ _ h => h) (Or.inl ⟨by rfl, ?_⟩) ?_ ?_
  rotate_left
  · intro w'
    go_simp
    with_reducible rfl
  rotate_left
  · simp only [Act.put, List.setIfInBounds_toArray, List.set_cons_zero, List.set_cons_succ, i64_w, i32_w]
    rfl
  refine last_ (i := 19) (N := none) #[true, true, true, true, true, true, true, true, true, true, true, true, true, true, true, true, true, true, true, true] rfl rfl (by kernel_rfl) (by decide) (fun K hK => ?_)
  have HZ2 := Lib.hid (blk_grown HZ.out hG17_.out HNZ.out)
  refine Stb.store_step (by rfl) rfl 37 (.tmp 2) (.tmp 23) (by rfl) (cur' := #[.int .i64 n10, .bool (n11 == 1), .bool (n12 == 1), .int .i64 n13, .int .i64 n14, .int .i64 n15, .int .i64 n16, .int .i64 n17]) [.int .i64 n10, .bool (n11 == 1), .bool (n12 == 1), .int .i64 n13, .int .i64 n14, .int .i64 n15, .int .i64 n16, .int .i64 n17] HZ2.out (by rfl) (by rfl) (by rfl) (by kernel_rfl) (Nat.le_refl 8) (by rfl) (by rfl) ?_
  intro wf hz hg hs
  have HF := Lib.hid hz
  have HRF := Lib.hid (IsRd.beside HR17_.out HZ2.out (by decide) (by decide) hg)
  have HGF := Lib.hid (grown_over HB1.out hG17_.out hg (Nat.le_add_right _ 1))
  clear hz hg hs
  refine hK.out _ _ ?_
  clear hK K
  refine norm_ (a' := ?_) ?_ ?_
  rotate_left
  · show Act.put _ (none) _ = _
    simp only [Act.put, List.setIfInBounds_toArray, List.set_cons_zero, List.set_cons_succ, i64_w, i32_w]
    rfl
  refine done_ (by kernel_rfl) ?_
  go_wp2_with fail
  refine bodyPost_ret (results_single rfl (.cell (w.heap.size + 1) 37 #[.int .i64 n10, .bool (n11 == 1), .bool (n12 == 1), .int .i64 n13, .int .i64 n14, .int .i64 n15, .int .i64 n16, .int .i64 n17] (0, 0) _ rfl HF.out Try.underlying37 rfl (by kernel_rfl) .nil)) rfl ?_
  refine ⟨⟨n10, n11 == 1, n12 == 1, n13, n14, n15, n16, n17⟩, a17, e17, rfl, ⟨n11, n12, rfl, rfl, .cons hN10.out (.cons hN11.out (.cons hN12.out (.cons hN13.out (.cons hN14.out (.cons hN15.out (.cons hN16.out (.one hN17.out)))))))⟩, HRF.out, HGF.out⟩
end Go.Proofs.Ytfikaekocgofoaa.Get
/- A map's bytes, a change's bytes: the program's and the document's. -/
set_option linter.unusedSimpArgs false
namespace Go.Proofs.Ytfikaekocgofoaa.Enc
open Go Go.RowKit Go.Proofs.YtfikaekocgofoaaW.PrintWords Go.Proofs.YtfikaekocgofoaaW.PrintLast Go.Proofs.YtfikaekocgofoaaW.PrintMore Mem PAll KW AtA AtB Sl Dsc MayP ApP Fnd PlF Roo Awk McW ApY ApZ ApW AtK AtV AtX AtD AtC AtP Ins AtQ AtR AtS AtF AtW AtE WireP UvW Put Puo EnP
open CrP hiding Od
theorem eqA39 (d : Nat) (w : World) (x0 y0 : Int) (x1 y1 : Int) (x2 y2 : Bool) (x3 y3 : Bool) (x4 y4 : Int) (x5 y5 : Int) (x6 y6 : Int) (x7 y7 : Int) (x8 y8 : Int) :
    (Op.equalIn (d + 3) 39 (.agg #[.int .i64 x0, .int .i64 x1, .bool x2, .bool x3, .int .i64 x4, .int .i64 x5, .int .i64 x6, .int .i64 x7, .int .i64 x8]) (.agg #[.int .i64 y0, .int .i64 y1, .bool y2, .bool y3, .int .i64 y4, .int .i64 y5, .int .i64 y6, .int .i64 y7, .int .i64 y8])).run Try.prog w = .ok (x0 == y0 && ((x1 == y1 && (x2 == y2 && (x3 == y3 && (x4 == y4 && (x5 == y5 && (x6 == y6 && (x7 == y7 && (x8 == y8)))))))))) w := by
  refine eqA_of Try.underlying39 (by kernel_rfl) ?_
  refine eqf_cons (by rfl) (by go_simp; rfl) (by go_simp; rfl) (by go_simp) ?_
  exact eqf_last (by rfl) (by go_simp) (by go_simp) (eqA37 (d + 0) w _ _ _ _ _ _ _ _ _ _ _ _ _ _ _ _)
theorem eql_C (kd : Int) (a : Od) (kd' : Int) (b : Od) (W : World) : (binOp .eql 39 (.agg #[.int .i64 kd, .int .i64 a.f0, .bool a.f1, .bool a.f2, .int .i64 a.f3, .int .i64 a.f4, .int .i64 a.f5, .int .i64 a.f6, .int .i64 a.f7]) (.agg #[.int .i64 kd', .int .i64 b.f0, .bool b.f1, .bool b.f2, .int .i64 b.f3, .int .i64 b.f4, .int .i64 b.f5, .int .i64 b.f6, .int .i64 b.f7])).run Try.prog W = .ok (.bool (kd == kd' && eqO a b)) W := by
  have h := fun d => eqA39 d W kd kd' a.f0 b.f0 a.f1 b.f1 a.f2 b.f2 a.f3 b.f3 a.f4 b.f4 a.f5 b.f5 a.f6 b.f6 a.f7 b.f7
  unfold eqO
  go_simp
section
variable (ep k m p d : Int) (A : Option Addr) (c : Nat) (l : List Od) (w : World)
theorem enc_len {i : Nat} (h : mayB ep k m p d l = true) : (uvs (headL ep k m p d l.length) ++ uvs (osdsL (l.take i))).length ≤ 5300 := by
  have h1 := uvs_len (head_31 h).n63
  have h2 := uvs_len (l := osdsL (l.take i)) (fun n hn => by
    obtain ⟨o, ho, hn⟩ := List.mem_flatMap.1 hn
    exact (osd_31 (may_all h o (List.mem_of_mem_take ho))).n63 n hn)
  rw [osdsL_len, List.length_take] at h2
  have h3 := (may_good h).1
  simp only [List.length_cons, List.length_nil] at h1
  rw [List.length_append]
  omega
set_option maxHeartbeats 4000000 in
theorem renc_bad (hx : kO.C w A l.length l) (hc : l.length ≤ c) (hm : mayB ep k m p d l = false) : Calls Try.prog 22 #[.agg (boxM ep k m p d A c l)] w fun e w' => e = .returned (.tuple #[.slice none 0 0, .int .i64 1]) ∧ Below w.heap.size w w' := by
  unfold boxM
  have HC1 := Lib.hid (Kd.C_alloc hx (.cells #[.int .i64 ep, .int .i64 k, .int .i64 m, .int .i64 p, .int .i64 d, .slice A l.length c] 28))
  have HB1 := Lib.hid (below_alloc (Below.refl w.heap.size w) (.cells #[.int .i64 ep, .int .i64 k, .int .i64 m, .int .i64 p, .int .i64 d, .slice A l.length c] 28))
  have HM1 : Hid ((w.alloc (.cells #[.int .i64 ep, .int .i64 k, .int .i64 m, .int .i64 p, .int .i64 d, .slice A l.length c] 28)).heap[w.heap.size]? = some (.cells #[.int .i64 ep, .int .i64 k, .int .i64 m, .int .i64 p, .int .i64 d, .slice A l.length c] 28 (0, 0))) := Lib.hid (blk_new _ _)
  obtain ⟨w1, hw1⟩ : ∃ w1, w1 = w.alloc (.cells #[.int .i64 ep, .int .i64 k, .int .i64 m, .int .i64 p, .int .i64 d, .slice A l.length c] 28) := ⟨_, rfl⟩
  have HWN := Lib.hid hw1
  rw [← hw1] at HC1 HB1 HM1
  have T := Lib.hid (may_calls ep k m p d A c l w1 HC1.out hc)
  rw [hm] at T
  have HMB := Lib.hid hm
  unfold boxM at T
  have y0 := blk_cell HM1.out 0
  have y1 := blk_cell HM1.out 1
  have y2 := blk_cell HM1.out 2
  have y3 := blk_cell HM1.out 3
  have y4 := blk_cell HM1.out 4
  have y5 := blk_cell HM1.out 5
  rw [HWN.out] at y0 y1 y2 y3 y4 y5
  clear hx hc hm hw1
  go_enter Try.func22, Try.ntmps22
  go_wp2_with fail
  rw [← HWN.out]
  refine T.out.mono ?_
  rintro e w2 ⟨rfl, hb⟩
  have HB2 := Lib.hid (below_then HB1.out HB1.out.size hb)
  clear hb T y0 y1 y2 y3 y4 y5
  go_wp2_with fail
  go_ret2
  exact ⟨rfl, HB2.out⟩
set_option maxHeartbeats 8000000 in
set_option maxRecDepth 100000 in
theorem renc_ok (hx : kO.C w A l.length l) (hc : l.length ≤ c) (hm : mayB ep k m p d l = true) : Calls Try.prog 22 #[.agg (boxM ep k m p d A c l)] w fun e w' => ∃ (B : Option Addr) (cb : Nat), e = .returned (.tuple #[.slice B (encL ep k m p d l).length cb, .int .i64 0]) ∧ (encL ep k m p d l).length ≤ cb ∧ BK.C w' B (encL ep k m p d l).length (encL ep k m p d l) ∧ Below w.heap.size w w' := by
  unfold boxM
  have HC1 := Lib.hid (Kd.C_alloc hx (.cells #[.int .i64 ep, .int .i64 k, .int .i64 m, .int .i64 p, .int .i64 d, .slice A l.length c] 28))
  have HB1 := Lib.hid (below_alloc (Below.refl w.heap.size w) (.cells #[.int .i64 ep, .int .i64 k, .int .i64 m, .int .i64 p, .int .i64 d, .slice A l.length c] 28))
  have HM1 : Hid ((w.alloc (.cells #[.int .i64 ep, .int .i64 k, .int .i64 m, .int .i64 p, .int .i64 d, .slice A l.length c] 28)).heap[w.heap.size]? = some (.cells #[.int .i64 ep, .int .i64 k, .int .i64 m, .int .i64 p, .int .i64 d, .slice A l.length c] 28 (0, 0))) := Lib.hid (blk_new _ _)
  obtain ⟨w1, hw1⟩ : ∃ w1, w1 = w.alloc (.cells #[.int .i64 ep, .int .i64 k, .int .i64 m, .int .i64 p, .int .i64 d, .slice A l.length c] 28) := ⟨_, rfl⟩
  have HWN := Lib.hid hw1
  rw [← hw1] at HC1 HB1 HM1
  have T := Lib.hid (may_calls ep k m p d A c l w1 HC1.out hc)
  rw [hm] at T
  have HMB := Lib.hid hm
  unfold boxM at T
  have HC0 := Lib.hid hx
  have y0 := blk_cell HM1.out 0
  have y1 := blk_cell HM1.out 1
  have y2 := blk_cell HM1.out 2
  have y3 := blk_cell HM1.out 3
  have y4 := blk_cell HM1.out 4
  have y5 := blk_cell HM1.out 5
  rw [HWN.out] at y0 y1 y2 y3 y4 y5
  clear hx hm hw1
  go_enter Try.func22, Try.ntmps22
  go_wp2_with fail
  rw [← HWN.out]
  refine T.out.mono ?_
  rintro e w2 ⟨rfl, hb⟩
  have HB2 := Lib.hid (below_then HB1.out HB1.out.size hb)
  have HM2 := Lib.hid (blk_below HM1.out hb)
  clear hb T y0 y1 y2 y3 y4 y5 HC1 HB1 HM1 HWN
  have y0 := blk_cell HM2.out 0
  have y1 := blk_cell HM2.out 1
  have y2 := blk_cell HM2.out 2
  have y3 := blk_cell HM2.out 3
  have y4 := blk_cell HM2.out 4
  have y5 := blk_cell HM2.out 5
  have HBZ := Lib.hid (Below.refl w2.heap.size w2)
  go_wp2_with fail
  refine (rput_calls w2 w2.heap.size w2.heap.size (.slice none 0 0) [] #[.int .i64 ep, .int .i64 k, .int .i64 m, .int .i64 p, .int .i64 d, .int .i64 (l.length : Int)] (headL ep k m p d l.length) _ (Kd.R_nil _ _ _ _ _) (blk_new _ _) rfl (below_alloc HBZ.out _) (below_alloc HBZ.out _).size (head_31 HMB.out).n63 (by simp only [List.length_cons, List.length_nil]; omega)).mono ?_
  rintro e w3 ⟨v3, rfl, ho, hb⟩
  rw [List.nil_append] at ho
  obtain ⟨hd, hhd⟩ : ∃ hd, hd = uvs (headL ep k m p d l.length) := ⟨_, rfl⟩
  rw [← hhd] at ho
  have HHD := Lib.hid hhd
  have HO3 := Lib.hid ho
  have HB3 := Lib.hid hb
  clear y0 y1 y2 y3 y4 y5 hb hhd ho HBZ
  go_wp2_with fail
  go_loopw [4, 5] (fun b' i' wr => ∃ (i : Nat) (ys : List Int) (bv : Value), bv = b' ∧ i' = .int .i64 i ∧ Hid (i ≤ l.length) ∧ Hid (ys = hd ++ uvs (osdsL (l.take i))) ∧ Hid (Ow .u8 5 wr w2.heap.size bv ys) ∧ Hid (Below w2.heap.size w2 wr)) (fun _ i' _ => (l.length - intOf i').toNat)
  case atStart => exact ⟨0, hd, v3, rfl, rfl, Lib.hid (Nat.zero_le _), Lib.hid (by rw [List.take_zero]; exact (List.append_nil _).symm), HO3, HB3⟩
  case round =>
    obtain ⟨i, ys, bv, rfl, rfl, HI, HY, HBY, HB⟩ := hrel
    clear HO3 HB3
    have hl64 := (may_good HMB.out).1
    have HMR := Lib.hid (blk_below HM2.out HB.out)
    have y5 := blk_cell HMR.out 5
    by_cases h : i < l.length
    · have hlt : decide (i < l.length) = true := decide_eq_true h
      have hlt2 : decide ((i : Int) < (l.length : Int)) = true := decide_eq_true (by omega)
      have i0 : (0 : Int) ≤ i := by omega
      have i1 : (i : Int) < l.length := by omega
      obtain ⟨ad, o, ho, hA, a0, a1, a2, a3, a4, a5, a6, a7⟩ := AtA.at_O (Kd.C_below HC0.out (below_then HB2.out HB2.out.size HB.out)) i h
      subst hA
      have HON := Lib.hid ho
      have HLT := Lib.hid h
      have HNO := Lib.hid (osd_31 (may_all HMB.out o (List.mem_of_getElem? ho))).n63
      have HLY : Hid (ys.length + 100 ≤ 140737488355328) := Lib.hid (by
        have h1 := enc_len ep k m p d l (i := i) HMB.out
        rw [HY.out, HHD.out]
        omega)
      clear h ho
      go_wp2_with fail
      clear a0 a1 a2 a3 a4 a5 a6 a7 y5
      refine (rputOsd_calls w2 w2.heap.size bv ys o wr HBY.out HB.out HB.out.size HNO.out HLY.out).mono ?_
      rintro e w5 ⟨v5, rfl, ho, hb⟩
      obtain ⟨zs, hzs⟩ : ∃ zs, zs = ys ++ uvs (osdL o) := ⟨_, rfl⟩
      rw [← hzs] at ho
      have HZ := Lib.hid hzs
      have HO5 := Lib.hid ho
      have HB5 := Lib.hid hb
      clear ho hb hzs HB HBY HMR
      go_wp2_with fail
      go_roundw
      case rel =>
        refine ⟨i + 1, zs, v5, rfl, by go_num, Lib.hid (by have := HLT.out; omega), Lib.hid ?_, HO5, HB5⟩
        rw [HZ.out, HY.out, osdsL_take HON.out, uvs_append, List.append_assoc]
      case measure => have := HLT.out; simp only [intOf]; omega
    · obtain rfl : i = l.length := by have := HI.out; omega
      have hlt : decide (l.length < l.length) = false := decide_eq_false (Nat.lt_irrefl _)
      have hlt2 : decide ((l.length : Int) < (l.length : Int)) = false := decide_eq_false (by omega)
      clear h hl64
      have hy : ys = encL ep k m p d l := by rw [HY.out, List.take_length, HHD.out]; rfl
      subst hy
      clear HY
      go_wp2_with fail
      go_ret2
      obtain ⟨B, cb, rfl, h1, h2⟩ := HBY.out.reads
      exact ⟨B, cb, rfl, h1, h2, below_then HB2.out HB2.out.size HB.out⟩
end
set_option maxHeartbeats 4000000 in
set_option maxRecDepth 100000 in
theorem rencc_bad (kd : Int) (o : Od) (w : World) (hm : mayC kd o = false) : Calls Try.prog 23 #[.agg (chA kd o)] w fun e w' => e = .returned (.tuple #[.slice none 0 0, .int .i64 1]) ∧ Below w.heap.size w w' := by
  unfold chA
  have HB1 := Lib.hid (below_alloc (Below.refl w.heap.size w) (.cells #[.int .i64 kd, .int .i64 o.f0, .bool o.f1, .bool o.f2, .int .i64 o.f3, .int .i64 o.f4, .int .i64 o.f5, .int .i64 o.f6, .int .i64 o.f7] 39))
  have HM1 : Hid ((w.alloc (.cells #[.int .i64 kd, .int .i64 o.f0, .bool o.f1, .bool o.f2, .int .i64 o.f3, .int .i64 o.f4, .int .i64 o.f5, .int .i64 o.f6, .int .i64 o.f7] 39)).heap[w.heap.size]? = some (.cells #[.int .i64 kd, .int .i64 o.f0, .bool o.f1, .bool o.f2, .int .i64 o.f3, .int .i64 o.f4, .int .i64 o.f5, .int .i64 o.f6, .int .i64 o.f7] 39 (0, 0))) := Lib.hid (blk_new _ _)
  obtain ⟨w1, hw1⟩ : ∃ w1, w1 = w.alloc (.cells #[.int .i64 kd, .int .i64 o.f0, .bool o.f1, .bool o.f2, .int .i64 o.f3, .int .i64 o.f4, .int .i64 o.f5, .int .i64 o.f6, .int .i64 o.f7] 39) := ⟨_, rfl⟩
  have HWN := Lib.hid hw1
  rw [← hw1] at HB1 HM1
  have T := Lib.hid (mayChange_calls kd o w1)
  rw [hm] at T
  unfold chA at T
  have HMB := Lib.hid hm
  have y0 := blk_cell HM1.out 0
  have y1 := blk_cell HM1.out 1
  have y2 := blk_cell HM1.out 2
  have y3 := blk_cell HM1.out 3
  have y4 := blk_cell HM1.out 4
  have y5 := blk_cell HM1.out 5
  have y6 := blk_cell HM1.out 6
  have y7 := blk_cell HM1.out 7
  have y8 := blk_cell HM1.out 8
  rw [HWN.out] at y0 y1 y2 y3 y4 y5 y6 y7 y8
  clear hm hw1
  go_enter Try.func23, Try.ntmps23
  go_wp2_with fail
  rw [← HWN.out]
  refine T.out.mono ?_
  rintro e w2 ⟨rfl, hb⟩
  have HB2 := Lib.hid (below_then HB1.out HB1.out.size hb)
  clear hb T y0 y1 y2 y3 y4 y5 y6 y7 y8
  go_wp2_with fail
  go_ret2
  exact ⟨rfl, HB2.out⟩
set_option maxHeartbeats 4000000 in
set_option maxRecDepth 100000 in
theorem rencc_ok (kd : Int) (o : Od) (w : World) (hm : mayC kd o = true) : Calls Try.prog 23 #[.agg (chA kd o)] w fun e w' => ∃ (B : Option Addr) (cb : Nat), e = .returned (.tuple #[.slice B (encC kd o).length cb, .int .i64 0]) ∧ (encC kd o).length ≤ cb ∧ BK.C w' B (encC kd o).length (encC kd o) ∧ Below w.heap.size w w' := by
  unfold chA
  have HB1 := Lib.hid (below_alloc (Below.refl w.heap.size w) (.cells #[.int .i64 kd, .int .i64 o.f0, .bool o.f1, .bool o.f2, .int .i64 o.f3, .int .i64 o.f4, .int .i64 o.f5, .int .i64 o.f6, .int .i64 o.f7] 39))
  have HM1 : Hid ((w.alloc (.cells #[.int .i64 kd, .int .i64 o.f0, .bool o.f1, .bool o.f2, .int .i64 o.f3, .int .i64 o.f4, .int .i64 o.f5, .int .i64 o.f6, .int .i64 o.f7] 39)).heap[w.heap.size]? = some (.cells #[.int .i64 kd, .int .i64 o.f0, .bool o.f1, .bool o.f2, .int .i64 o.f3, .int .i64 o.f4, .int .i64 o.f5, .int .i64 o.f6, .int .i64 o.f7] 39 (0, 0))) := Lib.hid (blk_new _ _)
  obtain ⟨w1, hw1⟩ : ∃ w1, w1 = w.alloc (.cells #[.int .i64 kd, .int .i64 o.f0, .bool o.f1, .bool o.f2, .int .i64 o.f3, .int .i64 o.f4, .int .i64 o.f5, .int .i64 o.f6, .int .i64 o.f7] 39) := ⟨_, rfl⟩
  have HWN := Lib.hid hw1
  rw [← hw1] at HB1 HM1
  have T := Lib.hid (mayChange_calls kd o w1)
  rw [hm] at T
  unfold chA at T
  have HMB := Lib.hid hm
  have y0 := blk_cell HM1.out 0
  have y1 := blk_cell HM1.out 1
  have y2 := blk_cell HM1.out 2
  have y3 := blk_cell HM1.out 3
  have y4 := blk_cell HM1.out 4
  have y5 := blk_cell HM1.out 5
  have y6 := blk_cell HM1.out 6
  have y7 := blk_cell HM1.out 7
  have y8 := blk_cell HM1.out 8
  rw [HWN.out] at y0 y1 y2 y3 y4 y5 y6 y7 y8
  clear hm hw1
  go_enter Try.func23, Try.ntmps23
  go_wp2_with fail
  rw [← HWN.out]
  refine T.out.mono ?_
  rintro e w2 ⟨rfl, hb⟩
  have HB2 := Lib.hid (below_then HB1.out HB1.out.size hb)
  have HM2 := Lib.hid (blk_below HM1.out hb)
  clear hb T y0 y1 y2 y3 y4 y5 y6 y7 y8 HM1 HB1 HWN
  have y0 := blk_cell HM2.out 0
  have y1 := blk_cell HM2.out 1
  have y2 := blk_cell HM2.out 2
  have y3 := blk_cell HM2.out 3
  have y4 := blk_cell HM2.out 4
  have y5 := blk_cell HM2.out 5
  have y6 := blk_cell HM2.out 6
  have y7 := blk_cell HM2.out 7
  have y8 := blk_cell HM2.out 8
  have HNK : Hid (Nat63 [kd]) := Lib.hid (fun n hn => by have := List.mem_singleton.1 hn; have := (mayc_31 HMB.out).2; omega)
  have HNO := Lib.hid (mayc_31 HMB.out).1.n63
  have HKL : Hid ((uvs [kd]).length ≤ 10) := Lib.hid (uvs_len HNK.out)
  go_wp2_with fail
  have hB0 := Lib.hid (below_drew (Below.refl w2.heap.size w2))
  refine start_ (n := 9) (S := fun w' => Below w2.heap.size w2 w') (ds := [6]) #[false, false, false, false, false, false, false, false, false] (by kernel_rfl) rfl rfl hB0.out (fun hHeld => ?_)
  generalize w2.drew = wd at hB0 hHeld ⊢
  refine pure_ (i := 0) (N := some 7) (v := ?_) (a' := ?_) #[true, false, false, false, false, false, false, false, false] rfl rfl (by kernel_rfl) (fun _ _ _ h => h) (Or.inl ⟨by rfl, ?_⟩) ?_ ?_
  rotate_left
  · intro w'
    go_simp
    with_reducible rfl
  rotate_left
  · simp only [Act.put, List.setIfInBounds_toArray, List.set_cons_zero, List.set_cons_succ, i64_w, i32_w]
    rfl
  refine pure_ (i := 4) (N := some 11) (v := ?_) (a' := ?_) #[true, false, false, false, true, false, false, false, false] rfl rfl (by kernel_rfl) (fun _ _ _ h => h) (Or.inl ⟨by rfl, ?_⟩) ?_ ?_
  rotate_left
  · intro w'
    go_simp
    with_reducible rfl
  rotate_left
  · simp only [Act.put, List.setIfInBounds_toArray, List.set_cons_zero, List.set_cons_succ, i64_w, i32_w]
    rfl
  refine take_ (i := 1) (N := some 8) (v := ?_) (a' := ?_) #[true, true, false, false, true, false, false, false, false] rfl rfl (by kernel_rfl) (fun _ _ _ h => h) (Or.inl ⟨by rfl, ?_⟩) hHeld ?_ ?_
  rotate_left
  · rintro w' hS
    have c0 := (hS.cell (World.block_lt_of_cell? _ _ y0)).trans y0
    go_simp
    with_reducible rfl
  rotate_left
  · simp only [Act.put, List.setIfInBounds_toArray, List.set_cons_zero, List.set_cons_succ, i64_w, i32_w]
    rfl
  refine take_ (i := 5) (N := some 12) (v := ?_) (a' := ?_) #[true, true, false, false, true, true, false, false, false] rfl rfl (by kernel_rfl) (fun _ _ _ h => h) (Or.inl ⟨by rfl, ?_⟩) hHeld ?_ ?_
  rotate_left
  · rintro w' hS
    have c1 := (hS.cell (World.block_lt_of_cell? _ _ y1)).trans y1
    have c2 := (hS.cell (World.block_lt_of_cell? _ _ y2)).trans y2
    have c3 := (hS.cell (World.block_lt_of_cell? _ _ y3)).trans y3
    have c4 := (hS.cell (World.block_lt_of_cell? _ _ y4)).trans y4
    have c5 := (hS.cell (World.block_lt_of_cell? _ _ y5)).trans y5
    have c6 := (hS.cell (World.block_lt_of_cell? _ _ y6)).trans y6
    have c7 := (hS.cell (World.block_lt_of_cell? _ _ y7)).trans y7
    have c8 := (hS.cell (World.block_lt_of_cell? _ _ y8)).trans y8
    go_simp
    with_reducible rfl
  rotate_left
  · simp only [Act.put, List.setIfInBounds_toArray, List.set_cons_zero, List.set_cons_succ, i64_w, i32_w]
    rfl
  refine one_ (i := 2) (N := some 9) #[true, true, true, false, true, true, false, false, false] rfl rfl (by kernel_rfl) (by decide) (fun K hK => ?_)
  refine value_ (w1 := ?_) (v := ?_) (by rfl) rfl ?_ ?_
  rotate_left 2
  · go_simp
    constructor
    · rfl
    · rfl
  refine hK.out _ _ (below_alloc hB0.out _) (fun hHeld => ?_)
  clear hK K
  refine norm_ (a' := ?_) ?_ ?_
  rotate_left
  · show Act.put _ (some 9) _ = _
    simp only [Act.put, List.setIfInBounds_toArray, List.set_cons_zero, List.set_cons_succ, i64_w, i32_w]
    rfl
  refine one_ (i := 3) (N := some 10) #[true, true, true, true, true, true, false, false, false] rfl rfl (by kernel_rfl) (by decide) (fun K hK => ?_)
  refine goes_ Try.func47 (by kernel_rfl) rfl #[.slice none 0 0, .slice (some ⟨wd.heap.size, 0, none⟩) 1 1] (by rfl) rfl rfl (by (try simp only [List.map_toArray, List.map_cons, List.map_nil]); first | done | rfl | (go_simp; done) | (go_simp; rfl)) ?_
  refine (rput_calls w2 w2.heap.size wd.heap.size (.slice none 0 0) [] #[.int .i64 kd] [kd] _ (Kd.R_nil _ _ _ _ _) (blk_new _ _) rfl (below_alloc hB0.out _) (below_alloc hB0.out _).size HNK.out (by simp only [List.length_cons, List.length_nil]; omega)).mono ?_
  rintro e w13 ⟨v3, rfl, ho, hb⟩
  rw [List.nil_append] at ho
  refine ⟨_, rfl, ?_⟩
  have hB3 := Lib.hid hb
  obtain ⟨hd, hhd⟩ : ∃ hd, hd = uvs [kd] := ⟨_, rfl⟩
  rw [← hhd] at ho HKL
  have HHD := Lib.hid hhd
  have HO3 := Lib.hid ho
  clear hb hhd ho hB0
  refine hK.out _ _ hB3.out (fun hHeld => ?_)
  clear hK K
  refine norm_ (a' := ?_) ?_ ?_
  rotate_left
  · show Act.put _ (some 10) _ = _
    simp only [Act.put, List.setIfInBounds_toArray, List.set_cons_zero, List.set_cons_succ, i64_w, i32_w]
    rfl
  refine last_ (i := 6) (N := some 13) #[true, true, true, true, true, true, true, false, false] rfl rfl (by kernel_rfl) (by decide) (fun K hK => ?_)
  refine goes_ Try.func48 (by kernel_rfl) rfl #[v3, .agg (aggO o)] (by rfl) rfl rfl (by (try simp only [List.map_toArray, List.map_cons, List.map_nil]); first | done | rfl | (go_simp; done) | (go_simp; rfl)) ?_
  refine (rputOsd_calls w2 w2.heap.size v3 hd o w13 HO3.out hB3.out hB3.out.size HNO.out (by have := HKL.out; omega)).mono ?_
  rintro e w5 ⟨v5, rfl, ho, hb⟩
  refine ⟨_, rfl, ?_⟩
  obtain ⟨zs, hzs⟩ : ∃ zs, zs = hd ++ uvs (osdL o) := ⟨_, rfl⟩
  rw [← hzs] at ho
  have HZ := Lib.hid hzs
  have HO5 := Lib.hid ho
  have HB5 := Lib.hid (below_then HB2.out HB2.out.size hb)
  clear ho hb hzs hB3
  refine hK.out _ _ ?_
  clear hK K
  refine norm_ (a' := ?_) ?_ ?_
  rotate_left
  · show Act.put _ (some 13) _ = _
    simp only [Act.put, List.setIfInBounds_toArray, List.set_cons_zero, List.set_cons_succ, i64_w, i32_w]
    rfl
  refine pure_ (i := 7) (N := some 2) (v := ?_) (a' := ?_) #[true, true, true, true, true, true, true, true, false] rfl rfl (by kernel_rfl) (fun _ _ _ h => h) (Or.inl ⟨by rfl, ?_⟩) ?_ ?_
  rotate_left
  · intro w'
    go_simp
    with_reducible rfl
  rotate_left
  · simp only [Act.put, List.setIfInBounds_toArray, List.set_cons_zero, List.set_cons_succ, i64_w, i32_w]
    rfl
  refine pure_ (i := 8) (N := some 3) (v := ?_) (a' := ?_) #[true, true, true, true, true, true, true, true, true] rfl rfl (by kernel_rfl) (fun _ _ _ h => h) (Or.inl ⟨by rfl, ?_⟩) ?_ ?_
  rotate_left
  · intro w'
    go_simp
    with_reducible rfl
  rotate_left
  · simp only [Act.put, List.setIfInBounds_toArray, List.set_cons_zero, List.set_cons_succ, i64_w, i32_w]
    rfl
  refine done_ (by kernel_rfl) ?_
  go_wp2_with fail
  go_ret2
  have hz : zs = encC kd o := by rw [HZ.out, HHD.out]; rfl
  subst hz
  obtain ⟨B, cb, rfl, h1, h2⟩ := HO5.out.reads
  exact ⟨B, cb, rfl, h1, h2, HB5.out⟩
/-- Either way, in one shape. -/
def Coded (ok : Bool) (l : List Int) (w w' : World) (e : Ending) : Prop := ∃ (er : Int) (B : Option Addr) (cb : Nat) (xs : List Int), e = .returned (.tuple #[.slice B xs.length cb, .int .i64 er]) ∧ xs.length ≤ cb ∧ BK.C w' B xs.length xs ∧ Below w.heap.size w w' ∧ er = (if ok = true then 0 else 1) ∧ xs = (if ok = true then l else [])
theorem coded_bad {l : List Int} {w w' : World} {e : Ending} (h : e = .returned (.tuple #[.slice none 0 0, .int .i64 1]) ∧ Below w.heap.size w w') : Coded false l w w' e := by
  obtain ⟨A', c', e1, _, h1⟩ := (ow0 w' 0).reads
  cases e1
  exact ⟨1, none, 0, [], h.1, Nat.le_refl _, h1, h.2, rfl, rfl⟩
theorem coded_ok {l : List Int} {w w' : World} {e : Ending} (h : ∃ (B : Option Addr) (cb : Nat), e = .returned (.tuple #[.slice B l.length cb, .int .i64 0]) ∧ l.length ≤ cb ∧ BK.C w' B l.length l ∧ Below w.heap.size w w') : Coded true l w w' e := by
  obtain ⟨B, cb, h1, h2, h3, h4⟩ := h
  exact ⟨0, B, cb, l, h1, h2, h3, h4, rfl, rfl⟩
theorem renc_any (ep k m p d : Int) (A : Option Addr) (c : Nat) (l : List Od) (w : World) (hx : kO.C w A l.length l) (hc : l.length ≤ c) : Calls Try.prog 22 #[.agg (boxM ep k m p d A c l)] w fun e w' => Coded (mayB ep k m p d l) (encL ep k m p d l) w w' e := by
  cases h : mayB ep k m p d l with
  | false => exact (renc_bad ep k m p d A c l w hx hc h).mono (fun _ _ h => coded_bad h)
  | true => exact (renc_ok ep k m p d A c l w hx hc h).mono (fun _ _ h => coded_ok h)
theorem rencc_any (kd : Int) (o : Od) (w : World) : Calls Try.prog 23 #[.agg (chA kd o)] w fun e w' => Coded (mayC kd o) (encC kd o) w w' e := by
  cases h : mayC kd o with
  | false => exact (rencc_bad kd o w h).mono (fun _ _ h => coded_bad h)
  | true => exact (rencc_ok kd o w h).mono (fun _ _ h => coded_ok h)
end Go.Proofs.Ytfikaekocgofoaa.Enc
/- Which map, or change, bytes are: the program's answer. -/
set_option linter.unusedSimpArgs false
namespace Go.Proofs.Ytfikaekocgofoaa.Dec
open Go Go.RowKit Go.Proofs.YtfikaekocgofoaaW.PrintWords Go.Proofs.YtfikaekocgofoaaW.PrintLast Go.Proofs.YtfikaekocgofoaaW.PrintMore Mem PAll KW AtA AtB Sl Dsc MayP ApP Fnd PlF Roo Awk McW ApY ApZ ApW AtK AtV AtX AtD AtC AtP Ins AtQ AtR AtS AtF AtW AtE WireP UvW Put Puo EnP Enc RdW RdL Get
open CrP hiding Od
/-- What Decode answers. -/
def DecM (xs : List Int) (w w' : World) (e : Ending) : Prop := Below w.heap.size w w' ∧ ((∃ (ep k m p d : Int) (l : List Od) (A : Option Addr) (c : Nat), e = .returned (.tuple #[.agg (boxM ep k m p d A c l), .int .i64 0]) ∧ l.length ≤ c ∧ kO.C w' A l.length l ∧ mayB ep k m p d l = true ∧ encL ep k m p d l = xs) ∨ (e = .returned (.tuple #[.agg zM, .int .i64 5]) ∧ ∀ (ep k m p d : Int) (l : List Od), mayB ep k m p d l = true → encL ep k m p d l ≠ xs))
abbrev zC : Array Value := #[.int .i64 0, .int .i64 0, .bool false, .bool false, .int .i64 0, .int .i64 0, .int .i64 0, .int .i64 0, .int .i64 0]
/-- What DecodeChange answers. -/
def DecC (xs : List Int) (w w' : World) (e : Ending) : Prop := Below w.heap.size w w' ∧ ((∃ (kd : Int) (o : Od), e = .returned (.tuple #[.agg (chA kd o), .int .i64 0]) ∧ mayC kd o = true ∧ encC kd o = xs) ∨ (e = .returned (.tuple #[.agg zC, .int .i64 5]) ∧ ∀ (kd : Int) (o : Od), mayC kd o = true → encC kd o ≠ xs))
theorem rdN_range {xs : List Int} {a b : Nat} {e f most n : Int} (h : RdN xs a e most n b f) : 0 ≤ n ∧ (n ≤ most ∨ n = 0) := by
  rcases h with ⟨_, rfl, _⟩ | ⟨_, m, k, _, h⟩
  · exact ⟨by omega, .inr rfl⟩
  · rcases h with ⟨_, rfl, _⟩ | ⟨_, _, rfl, _⟩ | ⟨_, h2, rfl, _⟩
    · exact ⟨by omega, .inr rfl⟩
    · exact ⟨by omega, .inr rfl⟩
    · exact ⟨by omega, .inl h2⟩
theorem IsRd.at {w : World} {base p : Nat} {xs : List Int} {a : Nat} {e : Int} (h : IsRd w base p xs a e) : ∃ cs : Array Value, w.heap[p]? = some (.cells cs 107 (0, 0)) := by
  obtain ⟨A, c, _, h2, _⟩ := h
  exact ⟨_, h2⟩
theorem nums_range {xs : List Int} {a b : Nat} {e f : Int} {l : List (Int × Int)} (h : Nums xs a e l b f) : ∀ p ∈ l, 0 ≤ p.2 ∧ (p.2 ≤ p.1 ∨ p.2 = 0) := by
  induction h with
  | nil => intro p hp; exact absurd hp List.not_mem_nil
  | cons h1 _ ih =>
    intro p hp
    rcases List.mem_cons.1 hp with rfl | hp
    · exact rdN_range h1
    · exact ih p hp
theorem wf_31 {n : Int} (h : 0 ≤ n ∧ (n ≤ 2147483647 ∨ n = 0)) : (Lit.int .i64 n).wf = true := by
  exact wf_int (by omega)
theorem getO_wf {q : Int} {xs : List Int} {a b : Nat} {e f : Int} {o : Od} (h : GetO q xs a e o b f) : (Lit.int .i64 o.f0).wf = true ∧ (Lit.int .i64 o.f6).wf = true ∧ (Lit.int .i64 o.f7).wf = true := by
  obtain ⟨n1, n2, _, _, h⟩ := h
  have hr := nums_range h
  exact ⟨wf_31 (hr (2147483647, o.f0) (by simp)), wf_31 (hr (2147483647, o.f6) (by simp)), wf_31 (hr (2147483647, o.f7) (by simp))⟩
theorem getOs_wf {q : Int} {xs : List Int} {a b : Nat} {e f : Int} {l : List Od} (h : GetOs q xs a e l b f) : WfL l := by
  induction h with
  | nil => intro o ho; exact absurd ho List.not_mem_nil
  | snoc _ h ih =>
    intro o ho
    rcases List.mem_append.1 ho with ho | ho
    · exact ih o ho
    · obtain rfl := List.mem_singleton.1 ho
      exact getO_wf h
/-- A row of OSDs, another block written. -/
theorem row_beside {w w1 : World} {base g : Nat} {u : Value} {l : List Od} {cs : Array Value} {t : TypeId} (h : kO.R 37 w base (fun _ => True) u l) (hb : w.heap[g]? = some (.cells cs t (0, 0))) (ht : 37 ≠ t) (hg : w.grownBy w1 (some g)) : kO.R 37 w1 base (fun _ => True) u l :=
  Kd.R_grown2 h rfl hg (fun k hk => by cases hk; exact Kd.R_ne h hb ht)
/-- A block, a row of OSDs written. -/
theorem blk_beside {w w1 : World} {base g : Nat} {u : Value} {l : List Od} {cs : Array Value} {t : TypeId} (h : kO.R 37 w base (fun _ => True) u l) (hb : w.heap[g]? = some (.cells cs t (0, 0))) (ht : 37 ≠ t) (hg : w.grownBy w1 u.ownBlock) : w1.heap[g]? = some (.cells cs t (0, 0)) :=
  blk_grown hb hg (Kd.R_ne h hb ht)
theorem IsRd.row {w w1 : World} {base base' p : Nat} {xs : List Int} {a : Nat} {e : Int} {u : Value} {l : List Od} (h : IsRd w base p xs a e) (hu : kO.R 37 w base' (fun _ => True) u l) (hg : w.grownBy w1 u.ownBlock) : IsRd w1 base p xs a e := by
  obtain ⟨A, c, k1, k2, k3, k4⟩ := h
  refine ⟨A, c, Kd.R_grown2 k1 rfl hg (fun k hk => ?_), blk_grown k2 hg (Kd.R_ne hu k2 (by decide)), k3, k4⟩
  obtain ⟨_, _, _, q, hq, cells, hc⟩ := (Kd.R_bound hu).1 k hk
  have e : q = 37 := by
    have hq' : q ∈ [37] := hq
    exact List.mem_singleton.1 hq'
  subst e
  exact Kd.R_ne k1 hc (by decide)
set_option maxHeartbeats 16000000 in
set_option maxRecDepth 100000 in
theorem adec_calls (A0 : Option Addr) (c0 : Nat) (xs : List Int) (w : World) (hc : xs.length ≤ c0) (hx : BK.C w A0 xs.length xs) (hb : ∀ c ∈ xs, 0 ≤ c ∧ c < 256) (hl : xs.length ≤ 140737488355328) :
    Calls Try.prog 18 #[.slice A0 xs.length c0] w fun e w' => DecM xs w w' e := by
  have HBY := Lib.hid hb
  have hs1 : (w.alloc (.cells #[.int .i64 0, .int .i64 0, .int .i64 0, .int .i64 0, .int .i64 0, .slice none 0 0] 28)).heap.size = w.heap.size + 1 := by simp only [World.alloc, Array.size_push]
  obtain ⟨w1, hw1⟩ : ∃ w1, w1 = w.alloc (.cells #[.int .i64 0, .int .i64 0, .int .i64 0, .int .i64 0, .int .i64 0, .slice none 0 0] 28) := ⟨_, rfl⟩
  have HWN := Lib.hid hw1
  have HB1 : Hid (Below w.heap.size w w1) := Lib.hid (by rw [hw1]; exact below_alloc (Below.refl _ _) _)
  have HZ1 : Hid (w1.heap[w.heap.size]? = some (.cells #[.int .i64 0, .int .i64 0, .int .i64 0, .int .i64 0, .int .i64 0, .slice none 0 0] 28 (0, 0))) := Lib.hid (by rw [hw1]; exact blk_new _ _)
  have HSZ : Hid (w1.heap.size = w.heap.size + 1) := Lib.hid (by rw [hw1]; exact hs1)
  have T := Lib.hid (read_calls A0 c0 xs w1 hc (Kd.C_below hx HB1.out) hl)
  have HLX := Lib.hid hl
  clear hc hx hb hl hs1 hw1
  go_enter Try.func18, Try.ntmps18
  go_wp2_with fail
  rw [← HWN.out]
  refine T.out.mono ?_
  rintro r w2 ⟨p, rfl, hr, hb⟩
  have HB2 := Lib.hid (below_then HB1.out HB1.out.size hb)
  have HZ2 := Lib.hid (blk_below HZ1.out hb)
  have HPL : Hid (w1.heap.size ≤ p) := Lib.hid (hr.choose_spec.choose_spec.2.2.1)
  have HPB : Hid (w.heap.size ≤ p) := Lib.hid (by have := HPL.out; have := HSZ.out; omega)
  have HR2 := Lib.hid (hr.lower (Nat.le_of_lt (by have := HSZ.out; omega)) : IsRd w2 w.heap.size p xs 0 0)
  clear hr hb T HWN HB1 HZ1
  have HQ3 : Hid ((w2.alloc (.cells #[.pointer (some ⟨p, 0, none⟩)] 76)).heap[w2.heap.size]? = some (.cells #[.pointer (some ⟨p, 0, none⟩)] 76 (0, 0))) := Lib.hid (blk_new _ _)
  have HB3 := Lib.hid (below_alloc HB2.out (.cells #[.pointer (some ⟨p, 0, none⟩)] 76))
  have HZ3 := Lib.hid (blk_alloc HZ2.out (.cells #[.pointer (some ⟨p, 0, none⟩)] 76))
  have HR3 := Lib.hid (HR2.out.grown (below_alloc (Below.refl _ _) (.cells #[.pointer (some ⟨p, 0, none⟩)] 76)))
  obtain ⟨w3, hw3⟩ : ∃ w3, w3 = w2.alloc (.cells #[.pointer (some ⟨p, 0, none⟩)] 76) := ⟨_, rfl⟩
  obtain ⟨q, hq⟩ : ∃ q, q = w2.heap.size := ⟨_, rfl⟩
  have HW3 := Lib.hid hw3
  have HQN := Lib.hid hq
  rw [← hw3] at HQ3 HB3 HZ3 HR3
  rw [← hq] at HQ3
  clear hw3 hq HR2 HZ2 HB2
  go_wp2_with fail
  rw [← HW3.out, ← HQN.out]
  clear HW3 HQN
  go_wp2_with fail
  refine (dnum_calls w.heap.size p q xs 0 0 w3 HR3.out HBY.out HQ3.out).mono ?_
  rintro r w4 ⟨ep, a4, e4, rfl, h1, h2, hg⟩
  have HN4 := Lib.hid h1
  have HR4 := Lib.hid h2
  have HQ4 := Lib.hid (blk_grown HQ3.out hg (fun e => IsRd.ne HR3.out HQ3.out (by decide) (Option.some.inj e)))
  have HZ4 := Lib.hid (blk_grown HZ3.out hg (fun e => IsRd.ne HR3.out HZ3.out (by decide) (Option.some.inj e)))
  have HB4 := Lib.hid (Stb.below_grown1 HB3.out hg HPB.out HB3.out.size)
  clear h1 h2 hg HR3 HQ3 HZ3 HB3
  go_wp2_with fail
  refine (dnum_calls w.heap.size p q xs a4 e4 w4 HR4.out HBY.out HQ4.out).mono ?_
  rintro r w5 ⟨k, a5, e5, rfl, h1, h2, hg⟩
  have HN5 := Lib.hid h1
  have HR5 := Lib.hid h2
  have HQ5 := Lib.hid (blk_grown HQ4.out hg (fun e => IsRd.ne HR4.out HQ4.out (by decide) (Option.some.inj e)))
  have HZ5 := Lib.hid (blk_grown HZ4.out hg (fun e => IsRd.ne HR4.out HZ4.out (by decide) (Option.some.inj e)))
  have HB5 := Lib.hid (Stb.below_grown1 HB4.out hg HPB.out HB4.out.size)
  clear h1 h2 hg HR4 HQ4 HZ4 HB4
  go_wp2_with fail
  refine (dnum_calls w.heap.size p q xs a5 e5 w5 HR5.out HBY.out HQ5.out).mono ?_
  rintro r w6 ⟨m, a6, e6, rfl, h1, h2, hg⟩
  have HN6 := Lib.hid h1
  have HR6 := Lib.hid h2
  have HQ6 := Lib.hid (blk_grown HQ5.out hg (fun e => IsRd.ne HR5.out HQ5.out (by decide) (Option.some.inj e)))
  have HZ6 := Lib.hid (blk_grown HZ5.out hg (fun e => IsRd.ne HR5.out HZ5.out (by decide) (Option.some.inj e)))
  have HB6 := Lib.hid (Stb.below_grown1 HB5.out hg HPB.out HB5.out.size)
  clear h1 h2 hg HR5 HQ5 HZ5 HB5
  go_wp2_with fail
  refine (dnum_calls w.heap.size p q xs a6 e6 w6 HR6.out HBY.out HQ6.out).mono ?_
  rintro r w7 ⟨pg, a7, e7, rfl, h1, h2, hg⟩
  have HN7 := Lib.hid h1
  have HR7 := Lib.hid h2
  have HQ7 := Lib.hid (blk_grown HQ6.out hg (fun e => IsRd.ne HR6.out HQ6.out (by decide) (Option.some.inj e)))
  have HZ7 := Lib.hid (blk_grown HZ6.out hg (fun e => IsRd.ne HR6.out HZ6.out (by decide) (Option.some.inj e)))
  have HB7 := Lib.hid (Stb.below_grown1 HB6.out hg HPB.out HB6.out.size)
  clear h1 h2 hg HR6 HQ6 HZ6 HB6
  go_wp2_with fail
  refine (dnum_calls w.heap.size p q xs a7 e7 w7 HR7.out HBY.out HQ7.out).mono ?_
  rintro r w8 ⟨d, a8, e8, rfl, h1, h2, hg⟩
  have HN8 := Lib.hid h1
  have HR8 := Lib.hid h2
  have HQ8 := Lib.hid (blk_grown HQ7.out hg (fun e => IsRd.ne HR7.out HQ7.out (by decide) (Option.some.inj e)))
  have HZ8 := Lib.hid (blk_grown HZ7.out hg (fun e => IsRd.ne HR7.out HZ7.out (by decide) (Option.some.inj e)))
  have HB8 := Lib.hid (Stb.below_grown1 HB7.out hg HPB.out HB7.out.size)
  clear h1 h2 hg HR7 HQ7 HZ7 HB7
  have HN8' := HN8
  have HM9 : Hid ((w8.alloc (.cells #[.int .i64 ep, .int .i64 k, .int .i64 m, .int .i64 pg, .int .i64 d, .slice none 0 0] 28)).heap[w8.heap.size]? = some (.cells #[.int .i64 ep, .int .i64 k, .int .i64 m, .int .i64 pg, .int .i64 d, .slice none 0 0] 28 (0, 0))) := Lib.hid (blk_new _ _)
  have HB9 := Lib.hid (below_alloc HB8.out (.cells #[.int .i64 ep, .int .i64 k, .int .i64 m, .int .i64 pg, .int .i64 d, .slice none 0 0] 28))
  have HZ9 := Lib.hid (blk_alloc HZ8.out (.cells #[.int .i64 ep, .int .i64 k, .int .i64 m, .int .i64 pg, .int .i64 d, .slice none 0 0] 28))
  have HQ9 := Lib.hid (blk_alloc HQ8.out (.cells #[.int .i64 ep, .int .i64 k, .int .i64 m, .int .i64 pg, .int .i64 d, .slice none 0 0] 28))
  have HR9 := Lib.hid (HR8.out.grown (below_alloc (Below.refl _ _) (.cells #[.int .i64 ep, .int .i64 k, .int .i64 m, .int .i64 pg, .int .i64 d, .slice none 0 0] 28)))
  obtain ⟨w9, hw9⟩ : ∃ w9, w9 = w8.alloc (.cells #[.int .i64 ep, .int .i64 k, .int .i64 m, .int .i64 pg, .int .i64 d, .slice none 0 0] 28) := ⟨_, rfl⟩
  obtain ⟨g6, hg6⟩ : ∃ g6, g6 = w8.heap.size := ⟨_, rfl⟩
  have HW9 := Lib.hid hw9
  have HGN := Lib.hid hg6
  have HGB : Hid (w.heap.size ≤ g6) := Lib.hid (by rw [hg6]; exact HB8.out.size)
  have HGZ : Hid (g6 ≠ w.heap.size) := Lib.hid (by rw [hg6]; have := blk_lt HZ8.out; omega)
  rw [← hw9] at HM9 HB9 HZ9 HQ9 HR9
  rw [← hg6] at HM9
  clear hw9 hg6 HR8 HZ8 HB8 HQ8 HN8'
  have c0 := blk_cell HQ9.out 0
  rw [HW9.out] at c0
  go_wp2_with fail
  rw [← HW9.out, ← HGN.out]
  refine (numberR w.heap.size p xs a8 e8 64 w9 HR9.out HBY.out (by decide)).mono ?_
  rintro r w10 ⟨n, a1, e1, rfl, h1, h2, hg⟩
  have HN9 := Lib.hid h1
  have HR10 := Lib.hid h2
  have HQ10 := Lib.hid (blk_grown HQ9.out hg (fun e => IsRd.ne HR9.out HQ9.out (by decide) (Option.some.inj e)))
  have HZ10 := Lib.hid (blk_grown HZ9.out hg (fun e => IsRd.ne HR9.out HZ9.out (by decide) (Option.some.inj e)))
  have HM10 := Lib.hid (blk_grown HM9.out hg (fun e => IsRd.ne HR9.out HM9.out (by decide) (Option.some.inj e)))
  have HB10 := Lib.hid (Stb.below_grown1 HB9.out hg HPB.out HB9.out.size)
  have hnr := rdN_range h1
  obtain ⟨N, hN⟩ := Int.eq_ofNat_of_zero_le hnr.1
  subst hN
  have HN64 : Hid (N ≤ 64) := Lib.hid (by omega)
  have HNUMS := Lib.hid (Nums.cons HN4.out (.cons HN5.out (.cons HN6.out (.cons HN7.out (.cons HN8.out (.one HN9.out))))))
  have HU10 : Hid (kO.R 37 w10 w.heap.size (fun _ => True) (.slice none 0 0) []) := Lib.hid (Kd.R_nil _ _ _ _ _)
  clear h1 h2 hg c0 hnr HN4 HN5 HN6 HN7 HN8 HN9 HR9 HQ9 HZ9 HM9 HB9 HW9 HGN
  go_wp2_with fail
  go_loopw [24] (fun i' wr => ∃ (i : Nat) (l : List Od) (A : Option Addr) (c a : Nat) (e : Int), i' = .int .i64 i ∧ Hid (i ≤ N) ∧ Hid (l.length = i) ∧ Hid (GetOs 1 xs a1 e1 l a e) ∧ Hid (IsRd wr w.heap.size p xs a e) ∧ Hid (kO.R 37 wr w.heap.size (fun _ => True) (.slice A l.length c) l) ∧ Hid (wr.heap[g6]? = some (.cells #[.int .i64 ep, .int .i64 k, .int .i64 m, .int .i64 pg, .int .i64 d, .slice A l.length c] 28 (0, 0))) ∧ Hid (wr.heap[q]? = some (.cells #[.pointer (some ⟨p, 0, none⟩)] 76 (0, 0))) ∧ Hid (wr.heap[w.heap.size]? = some (.cells #[.int .i64 0, .int .i64 0, .int .i64 0, .int .i64 0, .int .i64 0, .slice none 0 0] 28 (0, 0))) ∧ Hid (Below w.heap.size w wr)) (fun i' _ => (N - intOf i').toNat)
  case atStart => exact ⟨0, [], none, 0, a1, e1, rfl, Lib.hid (Nat.zero_le _), Lib.hid rfl, Lib.hid .nil, HR10, HU10, HM10, HQ10, HZ10, HB10⟩
  case round =>
    obtain ⟨i, l, A, c, a, e, rfl, HI, HLN, HGO, HR, HU, HM, HQ, HZ, HB⟩ := hrel
    clear HR10 HU10 HM10 HQ10 HZ10 HB10
    have HN := HN64
    have hn64 := HN64.out
    by_cases h : i < N
    · have hlt : decide (i < N) = true := decide_eq_true h
      have hlt2 : decide ((i : Int) < (N : Int)) = true := decide_eq_true (by omega)
      have HLT := Lib.hid h
      have hi64 : i < 64 := by omega
      have hi64b : (i : Int) < 64 := by omega
      go_wp2_with fail
      clear h
      have hB0 : Hid (Below w.heap.size w wr.drew) := Lib.hid (below_then HB.out HB.out.size (below_drew (Below.refl _ _)))
      have hR0 := Lib.hid (HR.out.grown (below_drew (Below.refl _ _)))
      have hU0 := Lib.hid (Kd.R_below HU.out (below_drew (Below.refl _ _)))
      have hM0 := Lib.hid (blk_below HM.out (below_drew (Below.refl _ _)))
      have hQ0 := Lib.hid (blk_below HQ.out (below_drew (Below.refl _ _)))
      have hZ0 := Lib.hid (blk_below HZ.out (below_drew (Below.refl _ _)))
      refine start_ (n := 8) (S := fun w' => w'.heap[g6]? = wr.heap[g6]? ∧ w'.heap[q]? = wr.heap[q]?) (ds := [7]) #[false, false, false, false, false, false, false, false] (by kernel_rfl) rfl rfl ⟨rfl, rfl⟩ (fun hHeld => ?_)
      generalize wr.drew = wd at hB0 hR0 hU0 hM0 hQ0 hZ0 hHeld ⊢
      refine pure_ (i := 0) (N := some 26) (v := ?_) (a' := ?_) #[true, false, false, false, false, false, false, false] rfl rfl (by kernel_rfl) (fun _ _ _ h => h) (Or.inl ⟨by rfl, ?_⟩) ?_ ?_
      rotate_left
      · intro w'
        go_simp
        with_reducible rfl
      rotate_left
      · simp only [Act.put, List.setIfInBounds_toArray, List.set_cons_zero, List.set_cons_succ, i64_w, i32_w]
        rfl
      refine take_ (i := 1) (N := some 27) (v := ?_) (a' := ?_) #[true, true, false, false, false, false, false, false] rfl rfl (by kernel_rfl) (fun _ _ _ h => h) (Or.inl ⟨by rfl, ?_⟩) hHeld ?_ ?_
      rotate_left
      · rintro w' hS
        have c5 := blk_cell (hS.1.trans HM.out) 5
        go_simp
        with_reducible rfl
      rotate_left
      · simp only [Act.put, List.setIfInBounds_toArray, List.set_cons_zero, List.set_cons_succ, i64_w, i32_w]
        rfl
      refine take_ (i := 2) (N := some 28) (v := ?_) (a' := ?_) #[true, true, true, false, false, false, false, false] rfl rfl (by kernel_rfl) (fun _ _ _ h => h) (Or.inl ⟨by rfl, ?_⟩) hHeld ?_ ?_
      rotate_left
      · rintro w' hS
        have c0 := blk_cell (hS.2.trans HQ.out) 0
        go_simp
        with_reducible rfl
      rotate_left
      · simp only [Act.put, List.setIfInBounds_toArray, List.set_cons_zero, List.set_cons_succ, i64_w, i32_w]
        rfl
      refine one_ (i := 3) (N := some 29) #[true, true, true, true, false, false, false, false] rfl rfl (by kernel_rfl) (by decide) (fun K hK => ?_)
      refine goes_ Try.func42 (by kernel_rfl) rfl #[.pointer (some ⟨p, 0, none⟩)] (by rfl) rfl rfl (by (try simp only [List.map_toArray, List.map_cons, List.map_nil]); first | done | rfl | (go_simp; done) | (go_simp; rfl)) ?_
      refine (agetOsd_calls w.heap.size p xs a e wd hR0.out HBY.out).mono ?_
      rintro r w29 ⟨o, a2, e2, rfl, h1, h2, hg⟩
      refine ⟨_, rfl, ?_⟩
      obtain ⟨cp, hcp⟩ := IsRd.at hR0.out
      have hO := Lib.hid h1
      have hR1 := Lib.hid h2
      have hU1 := Lib.hid (row_beside hU0.out hcp (by decide) hg)
      have hM1 := Lib.hid (blk_grown hM0.out hg (fun e => IsRd.ne hR0.out hM0.out (by decide) (Option.some.inj e)))
      have hQ1 := Lib.hid (blk_grown hQ0.out hg (fun e => IsRd.ne hR0.out hQ0.out (by decide) (Option.some.inj e)))
      have hZ1 := Lib.hid (blk_grown hZ0.out hg (fun e => IsRd.ne hR0.out hZ0.out (by decide) (Option.some.inj e)))
      have hB1 := Lib.hid (Stb.below_grown1 hB0.out hg HPB.out hB0.out.size)
      clear h1 h2 hg hcp hB0 hR0 hU0 hM0 hQ0 hZ0
      refine hK.out _ _ ⟨hM1.out.trans HM.out.symm, hQ1.out.trans HQ.out.symm⟩ (fun hHeld => ?_)
      clear hK K
      refine norm_ (a' := ?_) ?_ ?_
      rotate_left
      · show Act.put _ (some 29) _ = _
        simp only [Act.put, List.setIfInBounds_toArray, List.set_cons_zero, List.set_cons_succ, i64_w, i32_w]
        rfl
      refine one_ (i := 4) (N := some 30) #[true, true, true, true, true, false, false, false] rfl rfl (by kernel_rfl) (by decide) (fun K hK => ?_)
      refine value_ (w1 := ?_) (v := ?_) (by rfl) rfl ?_ ?_
      rotate_left 2
      · go_simp
        constructor
        · rfl
        · rfl
      refine hK.out _ _ ⟨(blk_alloc hM1.out _).trans HM.out.symm, (blk_alloc hQ1.out _).trans HQ.out.symm⟩ (fun hHeld => ?_)
      clear hK K
      refine norm_ (a' := ?_) ?_ ?_
      rotate_left
      · show Act.put _ (some 30) _ = _
        simp only [Act.put, List.setIfInBounds_toArray, List.set_cons_zero, List.set_cons_succ, i64_w, i32_w]
        rfl
      have HLA : Hid ((w29.alloc (.cells #[.int .i64 o.f0, .bool o.f1, .bool o.f2, .int .i64 o.f3, .int .i64 o.f4, .int .i64 o.f5, .int .i64 o.f6, .int .i64 o.f7] 37)).heap[w29.heap.size]? = some (.cells #[.int .i64 o.f0, .bool o.f1, .bool o.f2, .int .i64 o.f3, .int .i64 o.f4, .int .i64 o.f5, .int .i64 o.f6, .int .i64 o.f7] 37 (0, 0))) := Lib.hid (blk_new _ _)
      refine one_ (i := 5) (N := some 31) #[true, true, true, true, true, true, false, false] rfl rfl (by kernel_rfl) (by decide) (fun K hK => ?_)
      refine Kd.R_append_step kO (w0 := w) w.heap.size (by rfl) (.tmp 27) (.tmp 30) 26 37 (.agg #[.int .i64 0, .bool false, .bool false, .int .i64 0, .int .i64 0, .int .i64 0, .int .i64 0, .int .i64 0]) 56 rfl Try.underlying26 infoO rfl (by decide) (by decide) (.slice A l.length c) l o [.int .i64 o.f0, .bool o.f1, .bool o.f2, .int .i64 o.f3, .int .i64 o.f4, .int .i64 o.f5, .int .i64 o.f6, .int .i64 o.f7] (fun _ => True) (fun _ => False) rfl rfl (k37_mkM _ _ _ o) (fun _ hk => hk.elim) (fun _ _ => trivial) hU1.out hB1.out hB1.out.size ?aL ?_
      (case aL => have h1 := HI.out; have h2 := HLN.out; have h3 := HN.out; omega)
      intro v31 w31 ho hb hg hat
      obtain ⟨A2, c2, hv31⟩ := Kd.R_slice ho
      subst hv31
      obtain ⟨L2, hL2⟩ : ∃ L2, L2 = (l ++ [o]).length := ⟨_, rfl⟩
      rw [← hL2] at ho ⊢
      have HL2 := Lib.hid hL2
      clear hL2
      have hU2 := Lib.hid ho
      have hB2 := Lib.hid hb
      have hR2 := Lib.hid (IsRd.row hR1.out hU1.out hg)
      have hM2 := Lib.hid (blk_beside hU1.out hM1.out (by decide) hg)
      have hQ2 := Lib.hid (blk_beside hU1.out hQ1.out (by decide) hg)
      have hZ2 := Lib.hid (blk_beside hU1.out hZ1.out (by decide) hg)
      clear ho hb hg hat HLA hB1 hR1 hU1 hM1 hQ1 hZ1
      refine hK.out _ _ ⟨hM2.out.trans HM.out.symm, hQ2.out.trans HQ.out.symm⟩ (fun hHeld => ?_)
      clear hK K
      refine norm_ (a' := ?_) ?_ ?_
      rotate_left
      · show Act.put _ (some 31) _ = _
        simp only [Act.put, List.setIfInBounds_toArray, List.set_cons_zero, List.set_cons_succ, i64_w, i32_w]
        rfl
      refine pure_ (i := 6) (N := some 32) (v := ?_) (a' := ?_) #[true, true, true, true, true, true, true, false] rfl rfl (by kernel_rfl) (fun _ _ _ h => h) (Or.inl ⟨by rfl, ?_⟩) ?_ ?_
      rotate_left
      · intro w'
        go_simp
        with_reducible rfl
      rotate_left
      · simp only [Act.put, List.setIfInBounds_toArray, List.set_cons_zero, List.set_cons_succ, i64_w, i32_w]
        rfl
      refine last_ (i := 7) (N := none) #[true, true, true, true, true, true, true, true] rfl rfl (by kernel_rfl) (by decide) (fun K hK => ?_)
      refine Stb.store_step (by rfl) rfl 26 (.tmp 32) (.tmp 31) (by rfl) (cur' := #[.int .i64 ep, .int .i64 k, .int .i64 m, .int .i64 pg, .int .i64 d, .slice A2 L2 c2]) [.slice A2 L2 c2] hM2.out (by rfl) (by rfl) (by rfl) (by kernel_rfl) (Nat.le_refl 6) (by rfl) (by rfl) ?_
      intro w33 hz hg hs
      have hM3 := Lib.hid hz
      have hU3 := Lib.hid (row_beside hU2.out hM2.out (by decide) hg)
      have hR3 := Lib.hid (IsRd.beside hR2.out hM2.out (by decide) (by decide) hg)
      have hQ3 := Lib.hid (blk_grown hQ2.out hg (fun e => blk_ne hQ2.out hM2.out (by decide) (Option.some.inj e)))
      have hZ3 := Lib.hid (blk_grown hZ2.out hg (fun e => HGZ.out (Option.some.inj e).symm))
      have hB3 := Lib.hid (Stb.below_grown1 hB2.out hg HGB.out hB2.out.size)
      clear hz hg hs hB2 hR2 hU2 hM2 hQ2 hZ2
      refine hK.out _ _ ?_
      clear hK K
      refine norm_ (a' := ?_) ?_ ?_
      rotate_left
      · show Act.put _ (none) _ = _
        simp only [Act.put, List.setIfInBounds_toArray, List.set_cons_zero, List.set_cons_succ, i64_w, i32_w]
        rfl
      refine done_ (by kernel_rfl) ?_
      go_wp2_with fail
      go_roundw
      case rel =>
        refine ⟨i + 1, l ++ [o], A2, c2, a2, e2, by go_num, Lib.hid (by have := HLT.out; omega), Lib.hid (by rw [List.length_append, HLN.out]; rfl), Lib.hid (.snoc HGO.out hO.out), hR3, ?_, ?_, hQ3, hZ3, hB3⟩
        · rw [← HL2.out]; exact hU3
        · rw [← HL2.out]; exact hM3
      case measure => have := HLT.out; simp only [intOf]; omega
    · obtain rfl : i = N := by have := HI.out; omega
      have hlt : decide (i < i) = false := decide_eq_false (Nat.lt_irrefl _)
      have hlt2 : decide ((i : Int) < (i : Int)) = false := decide_eq_false (by omega)
      have HGM : Hid (GetM 1 xs ep k m pg d l a e) := Lib.hid ⟨a1, e1, i, HNUMS.out, by rw [HLN.out], HGO.out⟩
      clear h hn64
      have c0 := blk_cell HQ.out 0
      obtain ⟨dn, hdn⟩ : ∃ dn : Int, dn = (if e = 0 then (if a < xs.length then 5 else 0) else e) := ⟨_, rfl⟩
      have HDN := Lib.hid hdn
      have T := Lib.hid (done_calls w.heap.size p xs a e wr HR.out)
      rw [← hdn] at T
      clear hdn
      go_wp2_with fail
      refine T.out.mono ?_
      rintro r w40 ⟨rfl, hb⟩
      have HB4 := Lib.hid (below_then HB.out HB.out.size hb)
      have HM4 := Lib.hid (blk_below HM.out hb)
      have HZ4 := Lib.hid (blk_below HZ.out hb)
      have HU4 := Lib.hid (Kd.R_below HU.out hb)
      clear hb T c0 HB HM HZ HU HR HQ
      have c0 := blk_cell HM4.out 0
      have c1 := blk_cell HM4.out 1
      have c2 := blk_cell HM4.out 2
      have c3 := blk_cell HM4.out 3
      have c4 := blk_cell HM4.out 4
      have c5 := blk_cell HM4.out 5
      by_cases hd : dn = 0
      · have HD := Lib.hid hd
        subst hd
        have T := Lib.hid (check_calls ep k m pg d A c l w40 (Kd.R_reads' HU4.out).2.2 (getOs_wf HGO.out))
        unfold boxM at T
        have hfin : e = 0 ∧ xs.length ≤ a := by
          have h9 := HD.out
          have h8 := HDN.out
          by_cases he : e = 0
          · rw [if_pos he] at h8
            by_cases ha : a < xs.length
            · rw [if_pos ha] at h8; omega
            · exact ⟨he, by omega⟩
          · rw [if_neg he] at h8; omega
        obtain ⟨rfl, hal⟩ := hfin
        have HENC := Lib.hid (HGM.out.clean hal)
        clear hal
        obtain ⟨mb, hmb⟩ : ∃ mb, mb = mayB ep k m pg d l := ⟨_, rfl⟩
        rw [← hmb] at T
        have HMB := Lib.hid hmb
        clear hmb
        cases mb with
        | true =>
          simp only [if_true] at T
          go_wp2_with fail
          refine T.out.mono ?_
          rintro r w41 ⟨rfl, hb⟩
          have HB5 := Lib.hid (below_then HB4.out HB4.out.size hb)
          have HM5 := Lib.hid (blk_below HM4.out hb)
          have HZ5 := Lib.hid (blk_below HZ4.out hb)
          have HU5 := Lib.hid (Kd.R_below HU4.out hb)
          clear hb T c0 c1 c2 c3 c4 c5 HB4 HM4 HZ4 HU4
          have c0 := blk_cell HM5.out 0
          have c1 := blk_cell HM5.out 1
          have c2 := blk_cell HM5.out 2
          have c3 := blk_cell HM5.out 3
          have c4 := blk_cell HM5.out 4
          have c5 := blk_cell HM5.out 5
          go_wp2_with (first | (refine gate_ (.store 28 (.tmp 2) (.tmp 43)) rfl ?_; go_must (refine Stb.store_list rfl rfl 28 (.tmp 2) (.tmp 43) rfl (cur' := #[.int .i64 ep, .int .i64 k, .int .i64 m, .int .i64 pg, .int .i64 d, .slice A l.length c]) [.int .i64 ep, .int .i64 k, .int .i64 m, .int .i64 pg, .int .i64 d, .slice A l.length c] (by exact HZ5.out) (by rfl) (by rfl) (by rfl) (by kernel_rfl) (Nat.le_of_ble_eq_true rfl) (by rfl) (by rfl) ?_; intro wf hz_ hg_ hs_; have HF := Lib.hid hz_; have HUF := Lib.hid (row_beside HU5.out HZ5.out (by decide) hg_); have HBF := Lib.hid (Stb.below_grown1 HB5.out hg_ (Nat.le_refl _) HB5.out.size); clear hz_ hg_ hs_)))
          refine bodyPost_ret (results_ct rfl _ _ w.heap.size 28 #[.int .i64 ep, .int .i64 k, .int .i64 m, .int .i64 pg, .int .i64 d, .slice A l.length c] (0, 0) _ rfl HF.out Try.underlying28 rfl (by kernel_rfl)) rfl ?_
          have hrd := Kd.R_reads' HUF.out
          exact ⟨HBF.out, .inl ⟨ep, k, m, pg, d, l, A, c, rfl, hrd.2.1, hrd.2.2, HMB.out.symm, HENC.out⟩⟩
        | false =>
          simp only [if_false, Bool.false_eq_true] at T
          go_wp2_with fail
          refine T.out.mono ?_
          rintro r w41 ⟨rfl, hb⟩
          have HB5 := Lib.hid (below_then HB4.out HB4.out.size hb)
          have HZ5 := Lib.hid (blk_below HZ4.out hb)
          clear hb T c0 c1 c2 c3 c4 c5 HB4 HM4 HZ4 HU4
          go_wp2_with (first | (refine gate_ (.store 28 (.tmp 2) (.tmp 42)) rfl ?_; go_must (refine Stb.store_list rfl rfl 28 (.tmp 2) (.tmp 42) rfl (cur' := zM) [.int .i64 0, .int .i64 0, .int .i64 0, .int .i64 0, .int .i64 0, .slice none 0 0] (by exact HZ5.out) (by rfl) (by rfl) (by rfl) (by kernel_rfl) (Nat.le_of_ble_eq_true rfl) (by rfl) (by rfl) ?_; intro wf hz_ hg_ hs_; have HF := Lib.hid hz_; have HBF := Lib.hid (Stb.below_grown1 HB5.out hg_ (Nat.le_refl _) HB5.out.size); clear hz_ hg_ hs_)))
          refine bodyPost_ret (results_ct rfl _ _ w.heap.size 28 zM (0, 0) _ rfl HF.out Try.underlying28 rfl (by kernel_rfl)) rfl ?_
          refine ⟨HBF.out, .inr ⟨rfl, fun ep' k' m' p' d' l' hm he => ?_⟩⟩
          obtain ⟨rfl, rfl, rfl, rfl, rfl, rfl, _, _⟩ := HGM.out.back (by decide) hm he
          have := HMB.out
          rw [hm] at this
          cases this
      · have hdb : (dn == 0) = false := beq_eq_false_iff_ne.2 hd
        have hdc : (dn != 0) = true := by rw [bne, hdb]; rfl
        have HD := Lib.hid hd
        clear hd
        go_wp2_with (first | (refine gate_ (.store 28 (.tmp 2) (.tmp 42)) rfl ?_; go_must (refine Stb.store_list rfl rfl 28 (.tmp 2) (.tmp 42) rfl (cur' := zM) [.int .i64 0, .int .i64 0, .int .i64 0, .int .i64 0, .int .i64 0, .slice none 0 0] (by exact HZ4.out) (by rfl) (by rfl) (by rfl) (by kernel_rfl) (Nat.le_of_ble_eq_true rfl) (by rfl) (by rfl) ?_; intro wf hz_ hg_ hs_; have HF := Lib.hid hz_; have HBF := Lib.hid (Stb.below_grown1 HB4.out hg_ (Nat.le_refl _) HB4.out.size); clear hz_ hg_ hs_)))
        refine bodyPost_ret (results_ct rfl _ _ w.heap.size 28 zM (0, 0) _ rfl HF.out Try.underlying28 rfl (by kernel_rfl)) rfl ?_
        refine ⟨HBF.out, .inr ⟨rfl, fun ep' k' m' p' d' l' hm he => ?_⟩⟩
        obtain ⟨_, _, _, _, _, _, rfl, h8⟩ := HGM.out.back (by decide) hm he
        have h9 := HDN.out
        rw [if_pos rfl, if_neg (by have := congrArg List.length h8; rw [List.length_drop, List.length_nil] at this; omega)] at h9
        exact HD.out h9
set_option maxHeartbeats 16000000 in
set_option maxRecDepth 100000 in
theorem adecc_calls (A0 : Option Addr) (c0 : Nat) (xs : List Int) (w : World) (hc : xs.length ≤ c0) (hx : BK.C w A0 xs.length xs) (hb : ∀ c ∈ xs, 0 ≤ c ∧ c < 256) (hl : xs.length ≤ 140737488355328) :
    Calls Try.prog 20 #[.slice A0 xs.length c0] w fun e w' => DecC xs w w' e := by
  have HBY := Lib.hid hb
  have hs1 : (w.alloc (.cells #[.int .i64 0, .int .i64 0, .bool false, .bool false, .int .i64 0, .int .i64 0, .int .i64 0, .int .i64 0, .int .i64 0] 39)).heap.size = w.heap.size + 1 := by simp only [World.alloc, Array.size_push]
  obtain ⟨w1, hw1⟩ : ∃ w1, w1 = w.alloc (.cells #[.int .i64 0, .int .i64 0, .bool false, .bool false, .int .i64 0, .int .i64 0, .int .i64 0, .int .i64 0, .int .i64 0] 39) := ⟨_, rfl⟩
  have HWN := Lib.hid hw1
  have HB1 : Hid (Below w.heap.size w w1) := Lib.hid (by rw [hw1]; exact below_alloc (Below.refl _ _) _)
  have HZ1 : Hid (w1.heap[w.heap.size]? = some (.cells #[.int .i64 0, .int .i64 0, .bool false, .bool false, .int .i64 0, .int .i64 0, .int .i64 0, .int .i64 0, .int .i64 0] 39 (0, 0))) := Lib.hid (by rw [hw1]; exact blk_new _ _)
  have HSZ : Hid (w1.heap.size = w.heap.size + 1) := Lib.hid (by rw [hw1]; exact hs1)
  have T := Lib.hid (read_calls A0 c0 xs w1 hc (Kd.C_below hx HB1.out) hl)
  clear hc hx hb hl hs1 hw1
  go_enter Try.func20, Try.ntmps20
  go_wp2_with fail
  rw [← HWN.out]
  refine T.out.mono ?_
  rintro r w2 ⟨p, rfl, hr, hb⟩
  have HB2 := Lib.hid (below_then HB1.out HB1.out.size hb)
  have HZ2 := Lib.hid (blk_below HZ1.out hb)
  have HPL : Hid (w1.heap.size ≤ p) := Lib.hid (hr.choose_spec.choose_spec.2.2.1)
  have HPB : Hid (w.heap.size ≤ p) := Lib.hid (by have := HPL.out; have := HSZ.out; omega)
  have HR2 := Lib.hid (hr.lower (Nat.le_of_lt (by have := HSZ.out; omega)) : IsRd w2 w.heap.size p xs 0 0)
  clear hr hb T HWN HB1 HZ1
  go_wp2_with fail
  refine (numberR w.heap.size p xs 0 0 2147483647 w2 HR2.out HBY.out (by decide)).mono ?_
  rintro r w3 ⟨kd, a1, e1, rfl, h1, h2, hg⟩
  have HN3 := Lib.hid h1
  have HR3 := Lib.hid h2
  have HZ3 := Lib.hid (blk_grown HZ2.out hg (fun e => IsRd.ne HR2.out HZ2.out (by decide) (Option.some.inj e)))
  have HB3 := Lib.hid (Stb.below_grown1 HB2.out hg HPB.out HB2.out.size)
  clear h1 h2 hg HR2 HZ2 HB2
  have HM4 : Hid ((w3.alloc (.cells #[.int .i64 kd, .int .i64 0, .bool false, .bool false, .int .i64 0, .int .i64 0, .int .i64 0, .int .i64 0, .int .i64 0] 39)).heap[w3.heap.size]? = some (.cells #[.int .i64 kd, .int .i64 0, .bool false, .bool false, .int .i64 0, .int .i64 0, .int .i64 0, .int .i64 0, .int .i64 0] 39 (0, 0))) := Lib.hid (blk_new _ _)
  have HB4 := Lib.hid (below_alloc HB3.out (.cells #[.int .i64 kd, .int .i64 0, .bool false, .bool false, .int .i64 0, .int .i64 0, .int .i64 0, .int .i64 0, .int .i64 0] 39))
  have HZ4 := Lib.hid (blk_alloc HZ3.out (.cells #[.int .i64 kd, .int .i64 0, .bool false, .bool false, .int .i64 0, .int .i64 0, .int .i64 0, .int .i64 0, .int .i64 0] 39))
  have HR4 := Lib.hid (HR3.out.grown (below_alloc (Below.refl _ _) (.cells #[.int .i64 kd, .int .i64 0, .bool false, .bool false, .int .i64 0, .int .i64 0, .int .i64 0, .int .i64 0, .int .i64 0] 39)))
  obtain ⟨w4, hw4⟩ : ∃ w4, w4 = w3.alloc (.cells #[.int .i64 kd, .int .i64 0, .bool false, .bool false, .int .i64 0, .int .i64 0, .int .i64 0, .int .i64 0, .int .i64 0] 39) := ⟨_, rfl⟩
  obtain ⟨g5, hg5⟩ : ∃ g5, g5 = w3.heap.size := ⟨_, rfl⟩
  have HW4 := Lib.hid hw4
  have HGN := Lib.hid hg5
  have HGB : Hid (w.heap.size ≤ g5) := Lib.hid (by rw [hg5]; exact HB3.out.size)
  have HGZ : Hid (g5 ≠ w.heap.size) := Lib.hid (by rw [hg5]; have := blk_lt HZ3.out; omega)
  rw [← hw4] at HM4 HB4 HZ4 HR4
  rw [← hg5] at HM4
  clear hw4 hg5 HR3 HZ3 HB3
  go_wp2_with fail
  rw [← HW4.out, ← HGN.out]
  clear HW4 HGN
  refine (agetOsd_calls w.heap.size p xs a1 e1 w4 HR4.out HBY.out).mono ?_
  rintro r w5 ⟨o, a, e, rfl, h1, h2, hg⟩
  have HO := Lib.hid h1
  have HR5 := Lib.hid h2
  have HM5 := Lib.hid (blk_grown HM4.out hg (fun e => IsRd.ne HR4.out HM4.out (by decide) (Option.some.inj e)))
  have HZ5 := Lib.hid (blk_grown HZ4.out hg (fun e => IsRd.ne HR4.out HZ4.out (by decide) (Option.some.inj e)))
  have HB5 := Lib.hid (Stb.below_grown1 HB4.out hg HPB.out HB4.out.size)
  have HGC : Hid (GetC 1 xs kd o a e) := Lib.hid ⟨a1, e1, .one HN3.out, HO.out⟩
  clear h1 h2 hg HR4 HM4 HZ4 HB4 HN3 HO
  go_wp2_with (first | (refine gate_ (.store 37 (.tmp 13) (.tmp 12)) rfl ?_; go_must (refine Stb.store_list rfl rfl 37 (.tmp 13) (.tmp 12) rfl (g := g5) (j := 1) (cur' := #[.int .i64 kd, .int .i64 o.f0, .bool o.f1, .bool o.f2, .int .i64 o.f3, .int .i64 o.f4, .int .i64 o.f5, .int .i64 o.f6, .int .i64 o.f7]) [.int .i64 o.f0, .bool o.f1, .bool o.f2, .int .i64 o.f3, .int .i64 o.f4, .int .i64 o.f5, .int .i64 o.f6, .int .i64 o.f7] (by exact HM5.out) (by rfl) (by rfl) (by rfl) (by kernel_rfl) (Nat.le_of_ble_eq_true rfl) (by rfl) (by rfl) ?_; intro w6 hz_ hg_ hs_; have HM6 := Lib.hid hz_; have HR6 := Lib.hid (IsRd.beside HR5.out HM5.out (by decide) (by decide) hg_); have HZ6 := Lib.hid (blk_grown HZ5.out hg_ (fun e => HGZ.out (Option.some.inj e).symm)); have HB6 := Lib.hid (Stb.below_grown1 HB5.out hg_ HGB.out HB5.out.size); have T := Lib.hid (done_calls w.heap.size p xs a e w6 HR6.out); clear hz_ hg_ hs_ HM5 HR5 HZ5 HB5)))
  obtain ⟨dn, hdn⟩ : ∃ dn : Int, dn = (if e = 0 then (if a < xs.length then 5 else 0) else e) := ⟨_, rfl⟩
  have HDN := Lib.hid hdn
  rw [← hdn] at T
  clear hdn
  refine T.out.mono ?_
  rintro r w7 ⟨rfl, hb⟩
  have HB7 := Lib.hid (below_then HB6.out HB6.out.size hb)
  have HM7 := Lib.hid (blk_below HM6.out hb)
  have HZ7 := Lib.hid (blk_below HZ6.out hb)
  clear hb T HB6 HM6 HZ6 HR6
  have c0 := blk_cell HM7.out 0
  have c1 := blk_cell HM7.out 1
  have c2 := blk_cell HM7.out 2
  have c3 := blk_cell HM7.out 3
  have c4 := blk_cell HM7.out 4
  have c5 := blk_cell HM7.out 5
  have c6 := blk_cell HM7.out 6
  have c7 := blk_cell HM7.out 7
  have c8 := blk_cell HM7.out 8
  by_cases hd : dn = 0
  · have HD := Lib.hid hd
    subst hd
    have T := Lib.hid (checkc_calls kd o w7)
    unfold chA at T
    have hfin : e = 0 ∧ xs.length ≤ a := by
      have h9 := HD.out
      have h8 := HDN.out
      by_cases he : e = 0
      · rw [if_pos he] at h8
        by_cases ha : a < xs.length
        · rw [if_pos ha] at h8; omega
        · exact ⟨he, by omega⟩
      · rw [if_neg he] at h8; omega
    obtain ⟨rfl, hal⟩ := hfin
    have HENC := Lib.hid (HGC.out.clean hal)
    clear hal
    obtain ⟨mb, hmb⟩ : ∃ mb, mb = mayC kd o := ⟨_, rfl⟩
    rw [← hmb] at T
    have HMB := Lib.hid hmb
    clear hmb
    cases mb with
    | true =>
      simp only [if_true] at T
      go_wp2_with fail
      refine T.out.mono ?_
      rintro r w8 ⟨rfl, hb⟩
      have HB8 := Lib.hid (below_then HB7.out HB7.out.size hb)
      have HM8 := Lib.hid (blk_below HM7.out hb)
      have HZ8 := Lib.hid (blk_below HZ7.out hb)
      clear hb T HB7 HM7 HZ7 c0 c1 c2 c3 c4 c5 c6 c7 c8
      have c0 := blk_cell HM8.out 0
      have c1 := blk_cell HM8.out 1
      have c2 := blk_cell HM8.out 2
      have c3 := blk_cell HM8.out 3
      have c4 := blk_cell HM8.out 4
      have c5 := blk_cell HM8.out 5
      have c6 := blk_cell HM8.out 6
      have c7 := blk_cell HM8.out 7
      have c8 := blk_cell HM8.out 8
      go_wp2_with (first | (refine gate_ (.store 39 (.tmp 2) (.tmp 23)) rfl ?_; go_must (refine Stb.store_list rfl rfl 39 (.tmp 2) (.tmp 23) rfl (cur' := #[.int .i64 kd, .int .i64 o.f0, .bool o.f1, .bool o.f2, .int .i64 o.f3, .int .i64 o.f4, .int .i64 o.f5, .int .i64 o.f6, .int .i64 o.f7]) [.int .i64 kd, .int .i64 o.f0, .bool o.f1, .bool o.f2, .int .i64 o.f3, .int .i64 o.f4, .int .i64 o.f5, .int .i64 o.f6, .int .i64 o.f7] (by exact HZ8.out) (by rfl) (by rfl) (by rfl) (by kernel_rfl) (Nat.le_of_ble_eq_true rfl) (by rfl) (by rfl) ?_; intro wf hz_ hg_ hs_; have HF := Lib.hid hz_; have HBF := Lib.hid (Stb.below_grown1 HB8.out hg_ (Nat.le_refl _) HB8.out.size); clear hz_ hg_ hs_)))
      refine bodyPost_ret (results_ct rfl _ _ w.heap.size 39 #[.int .i64 kd, .int .i64 o.f0, .bool o.f1, .bool o.f2, .int .i64 o.f3, .int .i64 o.f4, .int .i64 o.f5, .int .i64 o.f6, .int .i64 o.f7] (0, 0) _ rfl HF.out Try.underlying39 rfl (by kernel_rfl)) rfl ?_
      exact ⟨HBF.out, .inl ⟨kd, o, rfl, HMB.out.symm, HENC.out⟩⟩
    | false =>
      simp only [if_false, Bool.false_eq_true] at T
      go_wp2_with fail
      refine T.out.mono ?_
      rintro r w8 ⟨rfl, hb⟩
      have HB8 := Lib.hid (below_then HB7.out HB7.out.size hb)
      have HZ8 := Lib.hid (blk_below HZ7.out hb)
      clear hb T HB7 HM7 HZ7 c0 c1 c2 c3 c4 c5 c6 c7 c8
      go_wp2_with (first | (refine gate_ (.store 39 (.tmp 2) (.tmp 22)) rfl ?_; go_must (refine Stb.store_list rfl rfl 39 (.tmp 2) (.tmp 22) rfl (cur' := #[.int .i64 0, .int .i64 0, .bool false, .bool false, .int .i64 0, .int .i64 0, .int .i64 0, .int .i64 0, .int .i64 0]) [.int .i64 0, .int .i64 0, .bool false, .bool false, .int .i64 0, .int .i64 0, .int .i64 0, .int .i64 0, .int .i64 0] (by exact HZ8.out) (by rfl) (by rfl) (by rfl) (by kernel_rfl) (Nat.le_of_ble_eq_true rfl) (by rfl) (by rfl) ?_; intro wf hz_ hg_ hs_; have HF := Lib.hid hz_; have HBF := Lib.hid (Stb.below_grown1 HB8.out hg_ (Nat.le_refl _) HB8.out.size); clear hz_ hg_ hs_)))
      refine bodyPost_ret (results_ct rfl _ _ w.heap.size 39 zC (0, 0) _ rfl HF.out Try.underlying39 rfl (by kernel_rfl)) rfl ?_
      refine ⟨HBF.out, .inr ⟨rfl, fun kd' o' hm he => ?_⟩⟩
      obtain ⟨rfl, rfl, _, _⟩ := HGC.out.back (by decide) hm he
      have := HMB.out
      rw [hm] at this
      cases this
  · have hdb : (dn == 0) = false := beq_eq_false_iff_ne.2 hd
    have hdc : (dn != 0) = true := by rw [bne, hdb]; rfl
    have HD := Lib.hid hd
    clear hd
    go_wp2_with (first | (refine gate_ (.store 39 (.tmp 2) (.tmp 22)) rfl ?_; go_must (refine Stb.store_list rfl rfl 39 (.tmp 2) (.tmp 22) rfl (cur' := #[.int .i64 0, .int .i64 0, .bool false, .bool false, .int .i64 0, .int .i64 0, .int .i64 0, .int .i64 0, .int .i64 0]) [.int .i64 0, .int .i64 0, .bool false, .bool false, .int .i64 0, .int .i64 0, .int .i64 0, .int .i64 0, .int .i64 0] (by exact HZ7.out) (by rfl) (by rfl) (by rfl) (by kernel_rfl) (Nat.le_of_ble_eq_true rfl) (by rfl) (by rfl) ?_; intro wf hz_ hg_ hs_; have HF := Lib.hid hz_; have HBF := Lib.hid (Stb.below_grown1 HB7.out hg_ (Nat.le_refl _) HB7.out.size); clear hz_ hg_ hs_)))
    refine bodyPost_ret (results_ct rfl _ _ w.heap.size 39 zC (0, 0) _ rfl HF.out Try.underlying39 rfl (by kernel_rfl)) rfl ?_
    refine ⟨HBF.out, .inr ⟨rfl, fun kd' o' hm he => ?_⟩⟩
    obtain ⟨_, _, rfl, h8⟩ := HGC.out.back (by decide) hm he
    have h9 := HDN.out
    rw [if_pos rfl, if_neg (by have := congrArg List.length h8; rw [List.length_drop, List.length_nil] at this; omega)] at h9
    exact HD.out h9
end Go.Proofs.Ytfikaekocgofoaa.Dec
/- The document's reader reads as the program's does: the plain law, over the printed functions. -/
set_option linter.unusedSimpArgs false
namespace Go.Proofs.Ytfikaekocgofoaa.RdP
open Go.RowKit Go.Proofs.YtfikaekocgofoaaW.PrintWords Go.Proofs.YtfikaekocgofoaaW.PrintMore Mem WireP RdW PAll
theorem or_shl {j acc y : Nat} (hj : j ≤ 64) (ha : acc < 2 ^ j) (ha' : acc < 18446744073709551616) (hb : y * 2 ^ j < 18446744073709551616) :
    Go.bits .or .u64 (acc : Int) (shl .u64 (y : Int) (j : Int)) = ((acc + y * 2 ^ j : Nat) : Int) := by
  have e : shl .u64 (y : Int) (j : Int) = ((y * 2 ^ j : Nat) : Int) := by
    unfold shl
    rw [show min ((j : Nat) : Int).toNat (IntKind.u64).bits = j by simp [IntKind.bits]; omega, Go.IntKind.wrap_u64]
    have : ((y : Int) * 2 ^ j) = ((y * 2 ^ j : Nat) : Int) := by rw [Int.natCast_mul, Int.natCast_pow]; rfl
    rw [this]; omega
  rw [e, bits_or_u64_nat _ _ ha' hb]
  congr 1
  have := Nat.two_pow_add_eq_or_of_lt (i := j) (b := acc) ha y
  rw [Nat.or_comm, Nat.mul_comm y, ← this]; omega
theorem wrap_mul (m i : Nat) (h : m * i ≤ 1000) : IntKind.u64.wrap (wrap64 ((m : Int) * (i : Int))) = ((m * i : Nat) : Int) := by
  have : (m : Int) * (i : Int) = ((m * i : Nat) : Int) := by rw [Int.natCast_mul]
  rw [this, Go.IntKind.wrap_u64]
  unfold wrap64
  omega
theorem wrap_succ (n : Nat) (h : n < 9223372036854775807) : wrap64 ((n : Int) + 1) = ((n + 1 : Nat) : Int) := by unfold wrap64; omega
theorem next_yes (xs : List Int) (a : Nat) (h : a < xs.length) (hs : xs.length ≤ 9223372036854775807) : mooringref05_next.f xs (a : Int) 0 = some (xs.getD a 0, true, ((a + 1 : Nat) : Int), 0) := by
  unfold mooringref05_next.f
  have e1 : wrap64 (wrap64 ((a : Int) + 1) - 1) = (a : Int) := by unfold wrap64; omega
  rw [if_pos rfl, if_neg (by omega), e1, if_pos (by omega), if_pos (by omega), wrap_succ a (by omega)]
  simp [rd]
theorem next_no (xs : List Int) (a : Nat) (h : xs.length ≤ a) : mooringref05_next.f xs (a : Int) 0 = some (0, false, (a : Int), 0) := by
  unfold mooringref05_next.f
  rw [if_pos rfl, if_pos (by omega)]
theorem next_bad (xs : List Int) (a : Int) (e : Int) (h : e ≠ 0) : mooringref05_next.f xs a e = some (0, false, a, e) := by
  unfold mooringref05_next.f
  rw [if_neg h]
theorem wrong_yes (xs : List Int) (a b e : Int) : mooringref05_wrong.f xs a 0 e b = some (b, e) := by
  unfold mooringref05_wrong.f
  rw [if_pos rfl]
theorem wrong_no (xs : List Int) (a b e e1 : Int) (h : e ≠ 0) : mooringref05_wrong.f xs a e e1 b = some (a, e) := by
  unfold mooringref05_wrong.f
  rw [if_neg h]
theorem drop_get {xs : List Int} {a i : Nat} (h : a + i < xs.length) : (xs.drop a)[i]? = some (xs.getD (a + i) 0) := by
  rw [List.getElem?_drop, List.getElem?_eq_getElem h, List.getD_eq_getElem?_getD, List.getElem?_eq_getElem h]; rfl
theorem ruv_loop (xs : List Int) (hx : ∀ c ∈ xs, 0 ≤ c ∧ c < 256) (hs : xs.length ≤ 9223372036854775807) (a : Nat) (ha : a ≤ xs.length) : ∀ (d i acc : Nat), d + i = 9 → PkI (xs.drop a) i acc →
    ∃ (K n a' : Nat) (e' : Int), mooringref05_ReadUvarint.l0 K (a : Int) (acc : Int) (i : Int) xs ((a + i : Nat) : Int) 0 = some ((n : Int), (a' : Int), e') ∧ Rd1 xs a 0 n a' e' := by
  intro d
  induction d with
  | zero =>
    intro i acc hi hI
    obtain rfl : i = 9 := by omega
    have e7 : IntKind.u64.wrap (wrap64 (7 * ((9 : Nat) : Int))) = ((63 : Nat) : Int) := wrap_mul 7 9 (by decide)
    have e10 : ¬ (wrap64 (((9 : Nat) : Int) + 1) < 10) := by unfold wrap64; omega
    by_cases h : a + 9 < xs.length
    · have hc := drop_get h
      have hr := hx (xs.getD (a + 9) 0) (by rw [List.getD_eq_getElem?_getD, List.getElem?_eq_getElem h]; exact List.getElem_mem h)
      obtain ⟨y, hy⟩ := Int.eq_ofNat_of_zero_le hr.1
      rw [hy] at hc hr
      have hmod : IntKind.u64.wrap (Int.tmod (y : Int) 128) = ((y % 128 : Nat) : Int) := by rw [Go.IntKind.wrap_u64, Int.tmod_eq_emod_of_nonneg (by omega)]; omega
      by_cases hy1 : 1 < y
      · have hbig := pkI_big hI hc (by omega)
        by_cases hd : 1 < y % 128
        · refine ⟨2, 0, a, 5, ?_, .inr ⟨rfl, 0, hbig, rfl, rfl⟩⟩
          simp only [mooringref05_ReadUvarint.l0, next_yes xs (a + 9) h hs, hy, Option.bind_some, hmod, mooringref05_ReadUvarint.j1, wrong_yes]
          rw [if_pos (by decide), if_pos True.intro, if_pos (by rfl), if_pos (by rw [decide_eq_true_eq]; omega)]; rfl
        · refine ⟨3, 0, a, 5, ?_, .inr ⟨rfl, 0, hbig, rfl, rfl⟩⟩
          simp only [mooringref05_ReadUvarint.l0, next_yes xs (a + 9) h hs, hy, Option.bind_some, hmod, mooringref05_ReadUvarint.j1, wrong_yes]
          rw [if_pos (by decide), if_pos True.intro, if_pos (by rfl), if_neg (by rw [decide_eq_true_eq]; omega), e7, if_pos (by omega), if_neg (by omega), if_neg e10]; rfl
      · by_cases hz : y = 0
        · subst hz
          refine ⟨2, 0, a, 5, ?_, .inr ⟨rfl, 0, pkI_zero hI hc (by omega), rfl, rfl⟩⟩
          simp only [mooringref05_ReadUvarint.l0, next_yes xs (a + 9) h hs, hy, Option.bind_some, hmod, mooringref05_ReadUvarint.j1, wrong_yes]
          rw [if_pos (by decide), if_pos True.intro, if_pos (by rfl), if_neg (by decide), e7, if_pos (by omega), if_pos (by omega), if_pos (by omega), if_pos (by omega)]; rfl
        · have hd := pkI_done (c := y) hI hc (by omega) (by omega) (by omega)
          refine ⟨2, acc + y * 128 ^ 9, a + (9 + 1), 0, ?_, .inr ⟨rfl, 9 + 1, hd, rfl, rfl⟩⟩
          simp only [mooringref05_ReadUvarint.l0, next_yes xs (a + 9) h hs, hy, Option.bind_some, hmod, mooringref05_ReadUvarint.j1, wrong_yes]
          have hlt := hI.lt
          have h8 : (128 : Nat) ^ 9 = 9223372036854775808 := by decide
          rw [h8] at hlt
          have ho := or_shl (j := 63) (acc := acc) (y := y % 128) (by omega) (by rw [show (2 : Nat) ^ 63 = 9223372036854775808 by decide]; omega) (by omega) (by rw [show (2 : Nat) ^ 63 = 9223372036854775808 by decide]; omega)
          rw [if_pos (by decide), if_pos True.intro, if_pos (by rfl), if_neg (by rw [decide_eq_true_eq]; omega), e7, if_pos (by omega), if_pos (by omega), if_neg (by omega), ho, show y % 128 = y by omega]
          first | done | rfl
    · refine ⟨1, 0, a, 5, ?_, .inr ⟨rfl, 0, pkI_end hI (by rw [List.length_drop]; omega), rfl, rfl⟩⟩
      simp only [mooringref05_ReadUvarint.l0, next_no xs (a + 9) (by omega), Option.bind_some, wrong_yes]
      rw [if_pos (by decide), if_neg (by decide)]; rfl
  | succ d ih =>
    intro i acc hi hI
    have i10 : (i : Int) < 10 := by omega
    have i9 : ¬ ((i : Int) = 9) := by omega
    by_cases h : a + i < xs.length
    · have hc := drop_get h
      have hr := hx (xs.getD (a + i) 0) (by rw [List.getD_eq_getElem?_getD, List.getElem?_eq_getElem h]; exact List.getElem_mem h)
      obtain ⟨y, hy⟩ := Int.eq_ofNat_of_zero_le hr.1
      rw [hy] at hc hr
      have hmod : IntKind.u64.wrap (Int.tmod (y : Int) 128) = ((y % 128 : Nat) : Int) := by rw [Go.IntKind.wrap_u64, Int.tmod_eq_emod_of_nonneg (by omega)]; omega
      have e7 : IntKind.u64.wrap (wrap64 (7 * (i : Int))) = ((7 * i : Nat) : Int) := wrap_mul 7 i (by omega)
      have hlt := hI.lt
      have hb : (y % 128) * 128 ^ i < 18446744073709551616 := by
        have h6 : 128 ^ i ≤ 128 ^ 8 := Nat.pow_le_pow_right (by omega) (by omega)
        have h7 : y % 128 * 128 ^ i ≤ 127 * 128 ^ 8 := Nat.mul_le_mul (by omega) h6
        exact Nat.lt_of_le_of_lt h7 (by decide +kernel)
      have hac : acc < 18446744073709551616 := by
        have h6 : 128 ^ i ≤ 128 ^ 9 := Nat.pow_le_pow_right (by omega) (by omega)
        exact Nat.lt_of_lt_of_le hlt (Nat.le_trans h6 (by decide +kernel))
      have ho := or_shl (j := 7 * i) (acc := acc) (y := y % 128) (by omega) (by rw [pow7]; exact hlt) hac (by rw [pow7]; exact hb)
      rw [pow7] at ho
      by_cases hl : y < 128
      · by_cases hz : y = 0 ∧ 0 < i
        · obtain ⟨rfl, hi0⟩ := hz
          refine ⟨2, 0, a, 5, ?_, .inr ⟨rfl, 0, pkI_zero hI hc hi0, rfl, rfl⟩⟩
          simp only [mooringref05_ReadUvarint.l0, next_yes xs (a + i) h hs, hy, Option.bind_some, hmod, mooringref05_ReadUvarint.j1, wrong_yes]
          rw [if_pos i10, if_pos True.intro, if_neg i9, if_neg (by decide), e7, if_pos (by omega), if_pos (by omega), if_pos (by omega), if_pos (by omega)]; rfl
        · have hd := pkI_done (c := y) hI hc hl (by omega) (by omega)
          refine ⟨2, acc + y * 128 ^ i, a + (i + 1), 0, ?_, .inr ⟨rfl, i + 1, hd, rfl, rfl⟩⟩
          simp only [mooringref05_ReadUvarint.l0, next_yes xs (a + i) h hs, hy, Option.bind_some, hmod, mooringref05_ReadUvarint.j1, wrong_yes]
          rw [show y % 128 = y by omega] at *
          rw [if_pos i10, if_pos True.intro, if_neg i9, if_neg (by decide), e7, if_pos (by omega), if_pos (by omega), ho]
          by_cases h0 : y = 0
          · rw [if_pos (by omega), if_neg (by omega)]; rfl
          · rw [if_neg (by omega)]; rfl
      · obtain ⟨K, n, a', e', h1, h2⟩ := ih (i + 1) (acc + (y % 128) * 128 ^ i) (by omega) (pkI_more hI (by omega) hc (by omega) (by omega))
        refine ⟨K + 2, n, a', e', ?_, h2⟩
        simp only [mooringref05_ReadUvarint.l0, next_yes xs (a + i) h hs, hy, Option.bind_some, hmod, mooringref05_ReadUvarint.j1, wrong_yes]
        rw [if_pos i10, if_pos True.intro, if_neg i9, if_neg (by decide), e7, if_pos (by omega), if_neg (by omega), ho, wrap_succ i (by omega)]
        exact h1
    · refine ⟨1, 0, a, 5, ?_, .inr ⟨rfl, 0, pkI_end hI (by rw [List.length_drop]; omega), rfl, rfl⟩⟩
      simp only [mooringref05_ReadUvarint.l0, next_no xs (a + i) (by omega), Option.bind_some, wrong_yes]
      rw [if_pos i10, if_neg (by decide)]; rfl
theorem ruv (xs : List Int) (hx : ∀ c ∈ xs, 0 ≤ c ∧ c < 256) (hs : xs.length ≤ 9223372036854775807) (a : Nat) (ha : a ≤ xs.length) (e : Int) :
    ∃ (K n a' : Nat) (e' : Int), mooringref05_ReadUvarint.f K xs (a : Int) e = some ((n : Int), (a' : Int), e') ∧ Rd1 xs a e n a' e' := by
  by_cases he : e = 0
  · subst he
    obtain ⟨K, n, a', e', h1, h2⟩ := ruv_loop xs hx hs a ha 9 0 0 rfl (pkI_start _)
    exact ⟨K, n, a', e', h1, h2⟩
  · refine ⟨1, 0, a, e, ?_, .inl ⟨he, rfl, rfl, rfl⟩⟩
    simp only [mooringref05_ReadUvarint.f, mooringref05_ReadUvarint.l0, next_bad _ _ _ he, Option.bind_some, wrong_no _ _ _ _ _ he]
    rw [if_pos (by decide), if_neg (by decide)]; rfl
theorem rd1_lt {xs : List Int} {a n a' : Nat} {e e' : Int} (h : Rd1 xs a e n a' e') : n < 18446744073709551616 := by
  rcases h with ⟨_, h, _⟩ | ⟨_, k, h, _⟩
  · omega
  · exact pk_lt h
theorem rnm (xs : List Int) (hx : ∀ c ∈ xs, 0 ≤ c ∧ c < 256) (hs : xs.length ≤ 9223372036854775807) (a : Nat) (ha : a ≤ xs.length) (e most : Int) (hm : -9223372036854775808 ≤ most ∧ most < 9223372036854775808) :
    ∃ (K a' : Nat) (n e' : Int), mooringref05_ReadNumber.f K xs (a : Int) e most = some (n, (a' : Int), e') ∧ RdN xs a e most n a' e' := by
  obtain ⟨K, n, a', e', h1, h2⟩ := ruv xs hx hs a ha e
  have hn := rd1_lt h2
  rcases h2 with ⟨he, rfl, rfl, rfl⟩ | ⟨rfl, k, hp, rfl, rfl⟩
  · refine ⟨K, a', 0, e', ?_, .inl ⟨he, rfl, rfl, rfl⟩⟩
    simp only [mooringref05_ReadNumber.f, h1, Option.bind_some]
    rw [if_neg he]
  · by_cases hk : k = 0
    · subst hk
      refine ⟨K, a, 0, 5, ?_, .inr ⟨rfl, n, 0, hp, .inl ⟨rfl, rfl, rfl, rfl⟩⟩⟩
      simp only [mooringref05_ReadNumber.f, h1, Option.bind_some, if_true]
      rw [if_neg (by decide)]; rfl
    · rw [if_neg hk] at h1
      by_cases hmo : most < (n : Int)
      · refine ⟨K, a, 0, 3, ?_, .inr ⟨rfl, n, k, hp, .inr (.inl ⟨by omega, hmo, rfl, rfl, rfl⟩)⟩⟩
        simp only [mooringref05_ReadNumber.f, h1, Option.bind_some, wrong_yes]
        rw [if_pos True.intro]
        by_cases h0 : most < 0
        · rw [if_pos h0]
        · rw [if_neg h0, if_pos (by rw [Go.IntKind.wrap_u64]; omega)]
      · refine ⟨K, a + k, n, 0, ?_, .inr ⟨rfl, n, k, hp, .inr (.inr ⟨by omega, by omega, rfl, rfl, rfl⟩)⟩⟩
        simp only [mooringref05_ReadNumber.f, h1, Option.bind_some, wrong_yes]
        rw [if_pos True.intro, if_neg (by omega), if_neg (by rw [Go.IntKind.wrap_u64]; omega)]
        congr 2
        unfold wrap64; omega
end Go.Proofs.Ytfikaekocgofoaa.RdP
/- Bytes are alike as strings where they are alike. -/
namespace Go.Proofs.Ytfikaekocgofoaa.StI
open Go Go.RowKit Go.Proofs.YtfikaekocgofoaaW.PrintWords PAll AtA WireP UvW Put Puo EnP
open CrP hiding Od
theorem uv_byte : ∀ (k n : Nat), n < k → ∀ x ∈ uv n, 0 ≤ x ∧ x < 256 := by
  intro k
  induction k with
  | zero => intro n h; omega
  | succ k ih =>
    intro n h x hx
    by_cases h1 : n < 128
    · rw [uv_lt h1] at hx
      have := List.mem_singleton.1 hx
      omega
    · rw [uv_ge (by omega)] at hx
      rcases List.mem_cons.1 hx with rfl | hx
      · omega
      · exact ih (n / 128) (by omega) x hx
theorem uvs_byte (l : List Int) : ∀ x ∈ uvs l, 0 ≤ x ∧ x < 256 := by
  intro x hx
  obtain ⟨n, _, hx⟩ := List.mem_flatMap.1 hx
  exact uv_byte _ _ (Nat.lt_succ_self _) x hx
theorem encL_byte (ep k m p d : Int) (l : List Od) : ∀ x ∈ encL ep k m p d l, 0 ≤ x ∧ x < 256 := by
  intro x hx
  rcases List.mem_append.1 hx with h | h
  · exact uvs_byte _ x h
  · exact uvs_byte _ x h
theorem encC_byte (kd : Int) (o : Od) : ∀ x ∈ encC kd o, 0 ≤ x ∧ x < 256 := by
  intro x hx
  rcases List.mem_append.1 hx with h | h
  · exact uvs_byte _ x h
  · exact uvs_byte _ x h
theorem str_back {xs : List Int} (h : ∀ x ∈ xs, 0 ≤ x ∧ x < 256) : (strOfNums xs).data.toList.map (fun u => (u.toNat : Int)) = xs := by
  rw [strOfNums_data, List.map_map]
  refine (List.map_congr_left fun x hx => ?_).trans (List.map_id xs)
  have := h x hx
  show ((UInt8.ofNat x.toNat).toNat : Int) = x
  rw [UInt8.toNat_ofNat']
  omega
theorem strL_inj {xs ys : List Int} (hx : ∀ x ∈ xs, 0 ≤ x ∧ x < 256) (hy : ∀ x ∈ ys, 0 ≤ x ∧ x < 256) : ((strOfNums xs).toList == (strOfNums ys).toList) = true ↔ xs = ys := by
  rw [beq_iff_eq]
  refine ⟨fun h => ?_, fun h => by rw [h]⟩
  rw [Go.Lib.strOfNums_toList, Go.Lib.strOfNums_toList] at h
  rw [← str_back hx, ← str_back hy]
  show (Go.Lib.bytesOf xs).map _ = (Go.Lib.bytesOf ys).map _
  rw [h]
end Go.Proofs.Ytfikaekocgofoaa.StI
/- Which map, or change, bytes are: the document's answer. -/
set_option linter.unusedSimpArgs false
namespace Go.Proofs.Ytfikaekocgofoaa.Rde
open Go Go.RowKit Go.Proofs.YtfikaekocgofoaaW.PrintWords Go.Proofs.YtfikaekocgofoaaW.PrintLast Go.Proofs.YtfikaekocgofoaaW.PrintMore Mem PAll KW AtA AtB Sl Dsc MayP ApP Fnd PlF Roo Awk McW ApY ApZ ApW AtK AtV AtX AtD AtC AtP Ins AtQ AtR AtS AtF AtW AtE WireP UvW Put Puo EnP Enc RdW RdL RdP Get Dec StI
open CrP hiding Od
/-- The document's reader: its bytes came in, how far it is, what was wrong. -/
structure RR (w0 w : World) (g : Nat) (xs : List Int) (a : Nat) (e : Int) : Prop where
  st : IsS84 w0 w g xs a e
  below : Below w0.heap.size w0 w
  le : a ≤ xs.length
theorem rdN_le {xs : List Int} {a b : Nat} {e f most n : Int} (h : RdN xs a e most n b f) (ha : a ≤ xs.length) : b ≤ xs.length := by
  rcases h with ⟨_, _, rfl, _⟩ | ⟨_, m, k, hp, h⟩
  · exact ha
  · have h1 := pk_len hp
    rw [List.length_drop] at h1
    rcases h with ⟨_, _, rfl, _⟩ | ⟨_, _, _, rfl, _⟩ | ⟨_, _, _, rfl, _⟩ <;> omega
theorem RR.ge {w0 w : World} {g : Nat} {xs : List Int} {a : Nat} {e : Int} (h : RR w0 w g xs a e) : w0.heap.size ≤ g := h.st.ge
theorem RR.ne {w0 w : World} {g b : Nat} {xs : List Int} {a : Nat} {e : Int} {cs : Array Value} {t : TypeId} (h : RR w0 w g xs a e) (hb : w.heap[b]? = some (.cells cs t (0, 0))) (ht : t ≠ 84) : b ≠ g := fun e => h.st.ne_blk hb ht e.symm
theorem RR.beside {w0 w w1 : World} {g b : Nat} {xs : List Int} {a : Nat} {e : Int} {cs : Array Value} {t : TypeId} (h : RR w0 w g xs a e) (hb : w.heap[b]? = some (.cells cs t (0, 0))) (ht : t ≠ 84) (h0 : w0.heap.size ≤ b) (hg : w.grownBy w1 (some b)) : RR w0 w1 g xs a e :=
  ⟨h.st.grown hg (fun e => RR.ne h hb ht (Option.some.inj e).symm), Stb.below_grown1 h.below hg h0 h.below.size, h.le⟩
theorem RR.later {w0 w w1 : World} {g : Nat} {xs : List Int} {a : Nat} {e : Int} (h : RR w0 w g xs a e) (hb : Below w.heap.size w w1) : RR w0 w1 g xs a e :=
  ⟨h.st.below hb, below_then h.below h.below.size hb, h.le⟩
theorem RR.at {w0 w : World} {g : Nat} {xs : List Int} {a : Nat} {e : Int} (h : RR w0 w g xs a e) : ∃ cs : Array Value, w.heap[g]? = some (.cells cs 84 (0, 0)) := by
  obtain ⟨A, c, h1, _⟩ := h.st
  exact ⟨_, h1⟩
theorem RR.row {w0 w w1 : World} {base g : Nat} {xs : List Int} {a : Nat} {e : Int} {u : Value} {l : List Od} (h : RR w0 w g xs a e) (hu : kO.R 37 w base (fun _ => True) u l) (h0 : w0.heap.size ≤ base) (hg : w.grownBy w1 u.ownBlock) : RR w0 w1 g xs a e := by
  obtain ⟨cs, hcs⟩ := RR.at h
  exact ⟨h.st.grown hg (Kd.R_ne hu hcs (by decide)), h.below.grown hg h.below.size (fun k hk => Nat.le_trans h0 (Kd.R_base hu k hk)), h.le⟩
theorem grown_of_keep {w0 w w1 : World} {g : Nat} (h : Below w0.heap.size w0 w) (h1 : Below w0.heap.size w0 w1) (hk : KeepBut w w1 g none) : w.grownBy w1 (some g) :=
  ⟨h1.os.trans h.os.symm, h1.tape.trans h.tape.symm, h1.output.trans h.output.symm, hk.1, fun k hl hne => hk.2 k hl (fun e => hne (by rw [e])) (by simp)⟩
theorem rread_calls (w0 : World) (g : Nat) (xs : List Int) (a : Nat) (e most : Int) (w : World) (h : RR w0 w g xs a e) (hb : ∀ c ∈ xs, 0 ≤ c ∧ c < 256) (hs : xs.length ≤ 9223372036854775807) (hm : -9223372036854775808 ≤ most ∧ most < 9223372036854775808) :
    Calls Try.prog 45 #[.pointer (some ⟨g, 0, none⟩), .int .i64 most] w fun r w' => ∃ (n : Int) (a' : Nat) (e' : Int), r = .returned (.int .i64 n) ∧ RdN xs a e most n a' e' ∧ RR w0 w' g xs a' e' ∧ w.grownBy w' (some g) := by
  obtain ⟨K, a', n, e', h1, h2⟩ := rnm xs hb hs a h.le e most hm
  refine (mooringref05_ReadNumber.calls K g xs a e most n a' e' w0 w h.st h.below h1).mono ?_
  rintro r w1 ⟨rfl, k1, k2, k3⟩
  exact ⟨n, a', e', rfl, h2, ⟨k1, k2, rdN_le h2 h.le⟩, grown_of_keep h.below k2 k3⟩
theorem rnum_calls (w0 : World) (g : Nat) (xs : List Int) (a : Nat) (e : Int) (w : World) (h : RR w0 w g xs a e) (hb : ∀ c ∈ xs, 0 ≤ c ∧ c < 256) (hs : xs.length ≤ 9223372036854775807) :
    Calls Try.prog 44 #[.pointer (some ⟨g, 0, none⟩)] w fun r w' => ∃ (n : Int) (a' : Nat) (e' : Int), r = .returned (.int .i64 n) ∧ RdN xs a e 2147483647 n a' e' ∧ RR w0 w' g xs a' e' ∧ w.grownBy w' (some g) := by
  have T := Lib.hid (rread_calls w0 g xs a e 2147483647 w h hb hs (by decide))
  clear h hb hs
  go_enter Try.func44, Try.ntmps44
  go_wp2_with fail
  refine T.out.mono ?_
  rintro r w1 ⟨n, a', e', rfl, h1, h2, hg⟩
  have H1 := Lib.hid h1
  have H2 := Lib.hid h2
  have HG := Lib.hid hg
  clear h1 h2 hg T
  go_wp2_with fail
  go_ret
  exact ⟨n, a', e', rfl, H1.out, H2.out, HG.out⟩
set_option maxHeartbeats 8000000 in
set_option maxRecDepth 100000 in
theorem rgetOsd_calls (w0 : World) (g : Nat) (xs : List Int) (a : Nat) (e : Int) (w : World) (h : RR w0 w g xs a e) (hb : ∀ c ∈ xs, 0 ≤ c ∧ c < 256) (hs : xs.length ≤ 9223372036854775807) :
    Calls Try.prog 46 #[.pointer (some ⟨g, 0, none⟩)] w fun r w' => ∃ (o : Od) (a' : Nat) (e' : Int), r = .returned (.agg (aggO o)) ∧ GetO 2147483647 xs a e o a' e' ∧ RR w0 w' g xs a' e' ∧ w.grownBy w' (some g) := by
  have HBY := Lib.hid hb
  have HS := Lib.hid hs
  have HB1 : Hid (Below w.heap.size w (w.alloc (.cells #[.int .i64 0, .bool false, .bool false, .int .i64 0, .int .i64 0, .int .i64 0, .int .i64 0, .int .i64 0] 37))) := Lib.hid (below_alloc (Below.refl _ _) _)
  have HZ1 : Hid ((w.alloc (.cells #[.int .i64 0, .bool false, .bool false, .int .i64 0, .int .i64 0, .int .i64 0, .int .i64 0, .int .i64 0] 37)).heap[w.heap.size]? = some (.cells #[.int .i64 0, .bool false, .bool false, .int .i64 0, .int .i64 0, .int .i64 0, .int .i64 0, .int .i64 0] 37 (0, 0))) := Lib.hid (blk_new _ _)
  have HR1 := Lib.hid (RR.later h HB1.out)
  have HG1 : Hid ((w.alloc (.cells #[.int .i64 0, .bool false, .bool false, .int .i64 0, .int .i64 0, .int .i64 0, .int .i64 0, .int .i64 0] 37)).grownBy (w.alloc (.cells #[.int .i64 0, .bool false, .bool false, .int .i64 0, .int .i64 0, .int .i64 0, .int .i64 0, .int .i64 0] 37)) (some g)) := Lib.hid (World.grownBy.refl _ _)
  have HWS : Hid (w0.heap.size ≤ w.heap.size) := Lib.hid h.below.size
  obtain ⟨w1, hw1⟩ : ∃ w1, w1 = w.alloc (.cells #[.int .i64 0, .bool false, .bool false, .int .i64 0, .int .i64 0, .int .i64 0, .int .i64 0, .int .i64 0] 37) := ⟨_, rfl⟩
  have HWN := Lib.hid hw1
  rw [← hw1] at HB1 HZ1 HR1 HG1
  have HY1 := HZ1
  clear h hb hs hw1
  go_enter Try.func46, Try.ntmps46
  go_wp2_with fail
  rw [← HWN.out]
  clear HWN
  refine (rnum_calls w0 g xs a e w1 HR1.out HBY.out HS.out).mono ?_
  rintro r w2 ⟨n1, a1, e1, rfl, h1, h2, hg⟩
  have HN1 := Lib.hid h1
  have HR2 := Lib.hid h2
  have HG2 := Lib.hid (World.grownBy.trans HG1.out hg)
  have HY2 := Lib.hid (blk_grown HY1.out hg (fun e => RR.ne HR1.out HY1.out (by decide) (Option.some.inj e)))
  clear h1 h2 hg HR1 HG1 HY1
  go_wp2_with fail
  refine (rnum_calls w0 g xs a1 e1 w2 HR2.out HBY.out HS.out).mono ?_
  rintro r w3 ⟨n2, a2, e2, rfl, h1, h2, hg⟩
  have HN2 := Lib.hid h1
  have HR3 := Lib.hid h2
  have HG3 := Lib.hid (World.grownBy.trans HG2.out hg)
  have HY3 := Lib.hid (blk_grown HY2.out hg (fun e => RR.ne HR2.out HY2.out (by decide) (Option.some.inj e)))
  clear h1 h2 hg HR2 HG2 HY2
  go_wp2_with fail
  refine (rnum_calls w0 g xs a2 e2 w3 HR3.out HBY.out HS.out).mono ?_
  rintro r w4 ⟨n3, a3, e3, rfl, h1, h2, hg⟩
  have HN3 := Lib.hid h1
  have HR4 := Lib.hid h2
  have HG4 := Lib.hid (World.grownBy.trans HG3.out hg)
  have HY4 := Lib.hid (blk_grown HY3.out hg (fun e => RR.ne HR3.out HY3.out (by decide) (Option.some.inj e)))
  clear h1 h2 hg HR3 HG3 HY3
  go_wp2_with fail
  refine (rnum_calls w0 g xs a3 e3 w4 HR4.out HBY.out HS.out).mono ?_
  rintro r w5 ⟨n4, a4, e4, rfl, h1, h2, hg⟩
  have HN4 := Lib.hid h1
  have HR5 := Lib.hid h2
  have HG5 := Lib.hid (World.grownBy.trans HG4.out hg)
  have HY5 := Lib.hid (blk_grown HY4.out hg (fun e => RR.ne HR4.out HY4.out (by decide) (Option.some.inj e)))
  clear h1 h2 hg HR4 HG4 HY4
  go_wp2_with fail
  refine (rnum_calls w0 g xs a4 e4 w5 HR5.out HBY.out HS.out).mono ?_
  rintro r w6 ⟨n5, a5, e5, rfl, h1, h2, hg⟩
  have HN5 := Lib.hid h1
  have HR6 := Lib.hid h2
  have HG6 := Lib.hid (World.grownBy.trans HG5.out hg)
  have HY6 := Lib.hid (blk_grown HY5.out hg (fun e => RR.ne HR5.out HY5.out (by decide) (Option.some.inj e)))
  clear h1 h2 hg HR5 HG5 HY5
  go_wp2_with fail
  refine (rnum_calls w0 g xs a5 e5 w6 HR6.out HBY.out HS.out).mono ?_
  rintro r w7 ⟨n6, a6, e6, rfl, h1, h2, hg⟩
  have HN6 := Lib.hid h1
  have HR7 := Lib.hid h2
  have HG7 := Lib.hid (World.grownBy.trans HG6.out hg)
  have HY7 := Lib.hid (blk_grown HY6.out hg (fun e => RR.ne HR6.out HY6.out (by decide) (Option.some.inj e)))
  clear h1 h2 hg HR6 HG6 HY6
  go_wp2_with fail
  refine (rnum_calls w0 g xs a6 e6 w7 HR7.out HBY.out HS.out).mono ?_
  rintro r w8 ⟨n7, a7, e7, rfl, h1, h2, hg⟩
  have HN7 := Lib.hid h1
  have HR8 := Lib.hid h2
  have HG8 := Lib.hid (World.grownBy.trans HG7.out hg)
  have HY8 := Lib.hid (blk_grown HY7.out hg (fun e => RR.ne HR7.out HY7.out (by decide) (Option.some.inj e)))
  clear h1 h2 hg HR7 HG7 HY7
  go_wp2_with fail
  refine (rnum_calls w0 g xs a7 e7 w8 HR8.out HBY.out HS.out).mono ?_
  rintro r w9 ⟨n8, a8, e8, rfl, h1, h2, hg⟩
  have HN8 := Lib.hid h1
  have HR9 := Lib.hid h2
  have HG9 := Lib.hid (World.grownBy.trans HG8.out hg)
  have HY9 := Lib.hid (blk_grown HY8.out hg (fun e => RR.ne HR8.out HY8.out (by decide) (Option.some.inj e)))
  clear h1 h2 hg HR8 HG8 HY8
  go_wp2_with (first | (refine gate_ (.store 37 (.tmp 2) (.tmp 21)) rfl ?_; go_must (refine Stb.store_list rfl rfl 37 (.tmp 2) (.tmp 21) rfl (cur' := #[.int .i64 n1, .bool (n2 == 1), .bool (n3 == 1), .int .i64 n4, .int .i64 n5, .int .i64 n6, .int .i64 n7, .int .i64 n8]) [.int .i64 n1, .bool (n2 == 1), .bool (n3 == 1), .int .i64 n4, .int .i64 n5, .int .i64 n6, .int .i64 n7, .int .i64 n8] (by exact HY9.out) (by rfl) (by rfl) (by rfl) (by kernel_rfl) (Nat.le_of_ble_eq_true rfl) (by rfl) (by rfl) ?_; intro wf hz_ hg_ hs_; have HF := Lib.hid hz_; have HRF := Lib.hid (RR.beside HR9.out HY9.out (by decide) HWS.out hg_); have HGF := Lib.hid (grown_over HB1.out HG9.out hg_ (Nat.le_refl _)); clear hz_ hg_ hs_)))
  refine bodyPost_ret (results_single rfl (.cell w.heap.size 37 #[.int .i64 n1, .bool (n2 == 1), .bool (n3 == 1), .int .i64 n4, .int .i64 n5, .int .i64 n6, .int .i64 n7, .int .i64 n8] (0, 0) _ rfl HF.out Try.underlying37 rfl (by kernel_rfl) .nil)) rfl ?_
  exact ⟨⟨n1, n2 == 1, n3 == 1, n4, n5, n6, n7, n8⟩, a8, e8, rfl, ⟨n2, n3, rfl, rfl, .cons HN1.out (.cons HN2.out (.cons HN3.out (.cons HN4.out (.cons HN5.out (.cons HN6.out (.cons HN7.out (.one HN8.out)))))))⟩, HRF.out, HGF.out⟩
set_option maxHeartbeats 16000000 in
set_option maxRecDepth 100000 in
theorem rdec_calls (A0 : Option Addr) (cz : Nat) (xs : List Int) (w : World) (_ : xs.length ≤ cz) (hx : BK.C w A0 xs.length xs) (hb : ∀ c ∈ xs, 0 ≤ c ∧ c < 256) :
    Calls Try.prog 19 #[.slice A0 xs.length cz] w fun e w' => DecM xs w w' e := by
  have HBY := Lib.hid hb
  have HS : Hid (xs.length ≤ 9223372036854775807) := Lib.hid hx.2.1
  obtain ⟨w1, hw1⟩ : ∃ w1, w1 = w.alloc (.cells #[.int .i64 0, .int .i64 0, .int .i64 0, .int .i64 0, .int .i64 0, .slice none 0 0] 28) := ⟨_, rfl⟩
  have HB1 : Hid (Below w.heap.size w w1) := Lib.hid (by rw [hw1]; exact below_alloc (Below.refl _ _) _)
  have HZ1 : Hid (w1.heap[w.heap.size]? = some (.cells #[.int .i64 0, .int .i64 0, .int .i64 0, .int .i64 0, .int .i64 0, .slice none 0 0] 28 (0, 0))) := Lib.hid (by rw [hw1]; exact blk_new _ _)
  have HC1 := Lib.hid (Kd.C_below hx HB1.out)
  have hs1 : w1.heap.size = w.heap.size + 1 := by rw [hw1]; simp only [World.alloc, Array.size_push]
  have HR2 : Hid (RR w1 (w1.alloc (.cells #[.slice A0 xs.length cz, .int .i64 0, .int .i64 0] 84)) (w.heap.size + 1) xs 0 0) := Lib.hid (by rw [← hs1]; exact ⟨IsS84.new w1 w1 A0 cz xs 0 0 (Below.refl _ _) HC1.out, below_alloc (Below.refl _ _) _, Nat.zero_le _⟩)
  obtain ⟨w2, hw2⟩ : ∃ w2, w2 = w1.alloc (.cells #[.slice A0 xs.length cz, .int .i64 0, .int .i64 0] 84) := ⟨_, rfl⟩
  have HW2 : Hid (w2 = w1.alloc (.cells #[.slice A0 xs.length cz, .int .i64 0, .int .i64 0] 84)) := Lib.hid hw2
  rw [← hw2] at HR2
  have HWN := Lib.hid hw1
  clear hx hb hw2 hw1 hs1
  go_enter Try.func19, Try.ntmps19
  go_wp2_with fail
  rw [← HWN.out, ← HW2.out]
  clear HW2 HWN
  refine (rnum_calls w1 (w.heap.size + 1) xs 0 0 w2 HR2.out HBY.out HS.out).mono ?_
  rintro r w3 ⟨ep, a2, e2, rfl, h1, h2, hg⟩
  have HN2 := Lib.hid h1
  have HR3 := Lib.hid h2
  clear h1 h2 hg HR2
  go_wp2_with fail
  refine (rnum_calls w1 (w.heap.size + 1) xs a2 e2 w3 HR3.out HBY.out HS.out).mono ?_
  rintro r w4 ⟨k, a3, e3, rfl, h1, h2, hg⟩
  have HN3 := Lib.hid h1
  have HR4 := Lib.hid h2
  clear h1 h2 hg HR3
  go_wp2_with fail
  refine (rnum_calls w1 (w.heap.size + 1) xs a3 e3 w4 HR4.out HBY.out HS.out).mono ?_
  rintro r w5 ⟨m, a4, e4, rfl, h1, h2, hg⟩
  have HN4 := Lib.hid h1
  have HR5 := Lib.hid h2
  clear h1 h2 hg HR4
  go_wp2_with fail
  refine (rnum_calls w1 (w.heap.size + 1) xs a4 e4 w5 HR5.out HBY.out HS.out).mono ?_
  rintro r w6 ⟨pg, a5, e5, rfl, h1, h2, hg⟩
  have HN5 := Lib.hid h1
  have HR6 := Lib.hid h2
  clear h1 h2 hg HR5
  go_wp2_with fail
  refine (rnum_calls w1 (w.heap.size + 1) xs a5 e5 w6 HR6.out HBY.out HS.out).mono ?_
  rintro r w7 ⟨d, a6, e6, rfl, h1, h2, hg⟩
  have HN6 := Lib.hid h1
  have HR7 := Lib.hid h2
  clear h1 h2 hg HR6
  have HM8 : Hid ((w7.alloc (.cells #[.int .i64 ep, .int .i64 k, .int .i64 m, .int .i64 pg, .int .i64 d, .slice none 0 0] 28)).heap[w7.heap.size]? = some (.cells #[.int .i64 ep, .int .i64 k, .int .i64 m, .int .i64 pg, .int .i64 d, .slice none 0 0] 28 (0, 0))) := Lib.hid (blk_new _ _)
  have HR8 := Lib.hid (RR.later HR7.out (below_alloc (Below.refl _ _) (.cells #[.int .i64 ep, .int .i64 k, .int .i64 m, .int .i64 pg, .int .i64 d, .slice none 0 0] 28)))
  obtain ⟨w8, hw8⟩ : ∃ w8, w8 = w7.alloc (.cells #[.int .i64 ep, .int .i64 k, .int .i64 m, .int .i64 pg, .int .i64 d, .slice none 0 0] 28) := ⟨_, rfl⟩
  obtain ⟨g5, hg5⟩ : ∃ g5, g5 = w7.heap.size := ⟨_, rfl⟩
  have HW8 := Lib.hid hw8
  have HGN := Lib.hid hg5
  have HGB : Hid (w1.heap.size ≤ g5) := Lib.hid (by rw [hg5]; exact HR7.out.below.size)
  rw [← hw8] at HM8 HR8
  rw [← hg5] at HM8
  clear hw8 hg5 HR7
  go_wp2_with fail
  rw [← HW8.out, ← HGN.out]
  clear HW8 HGN
  refine (rread_calls w1 (w.heap.size + 1) xs a6 e6 64 w8 HR8.out HBY.out HS.out (by decide)).mono ?_
  rintro r w9 ⟨n, a1, e1, rfl, h1, h2, hg⟩
  have HN9 := Lib.hid h1
  have HR9 := Lib.hid h2
  have HM9 := Lib.hid (blk_grown HM8.out hg (fun e => RR.ne HR8.out HM8.out (by decide) (Option.some.inj e)))
  have hnr := rdN_range h1
  obtain ⟨N, hN⟩ := Int.eq_ofNat_of_zero_le hnr.1
  subst hN
  have HN64 : Hid (N ≤ 64) := Lib.hid (by omega)
  have HNUMS := Lib.hid (Nums.cons HN2.out (.cons HN3.out (.cons HN4.out (.cons HN5.out (.cons HN6.out (.one HN9.out))))))
  have HU9 : Hid (kO.R 37 w9 w1.heap.size (fun _ => True) (.slice none 0 0) []) := Lib.hid (Kd.R_nil _ _ _ _ _)
  clear h1 h2 hg hnr HN2 HN3 HN4 HN5 HN6 HN9 HR8 HM8
  go_wp2_with fail
  go_loopw [7] (fun i' wr => ∃ (i : Nat) (l : List Od) (A : Option Addr) (c a : Nat) (e : Int), i' = .int .i64 i ∧ Hid (i ≤ N) ∧ Hid (l.length = i) ∧ Hid (GetOs 2147483647 xs a1 e1 l a e) ∧ Hid (RR w1 wr (w.heap.size + 1) xs a e) ∧ Hid (kO.R 37 wr w1.heap.size (fun _ => True) (.slice A l.length c) l) ∧ Hid (wr.heap[g5]? = some (.cells #[.int .i64 ep, .int .i64 k, .int .i64 m, .int .i64 pg, .int .i64 d, .slice A l.length c] 28 (0, 0)))) (fun i' _ => (N - intOf i').toNat)
  case atStart => exact ⟨0, [], none, 0, a1, e1, rfl, Lib.hid (Nat.zero_le _), Lib.hid rfl, Lib.hid .nil, HR9, HU9, HM9⟩
  case round =>
    obtain ⟨i, l, A, c, a, e, rfl, HI, HLN, HGO, HR, HU, HM⟩ := hrel
    clear HR9 HU9 HM9
    have HN := HN64
    have hn64 := HN64.out
    by_cases h : i < N
    · have hlt : decide (i < N) = true := decide_eq_true h
      have hlt2 : decide ((i : Int) < (N : Int)) = true := decide_eq_true (by omega)
      have HLT := Lib.hid h
      have hi64 : i < 64 := by omega
      have hi64b : (i : Int) < 64 := by omega
      go_wp2_with fail
      clear h
      have hR0 := Lib.hid (RR.later HR.out (below_drew (Below.refl _ _)))
      have hU0 := Lib.hid (Kd.R_below HU.out (below_drew (Below.refl _ _)))
      have hM0 := Lib.hid (blk_below HM.out (below_drew (Below.refl _ _)))
      refine start_ (n := 8) (S := fun w' => w'.heap[g5]? = wr.heap[g5]?) (ds := [7]) #[false, false, false, false, false, false, false, false] (by kernel_rfl) rfl rfl rfl (fun hHeld => ?_)
      generalize wr.drew = wd at hR0 hU0 hM0 hHeld ⊢
      refine pure_ (i := 0) (N := some 32) (v := ?_) (a' := ?_) #[true, false, false, false, false, false, false, false] rfl rfl (by kernel_rfl) (fun _ _ _ h => h) (Or.inl ⟨by rfl, ?_⟩) ?_ ?_
      rotate_left
      · intro w'
        go_simp
        with_reducible rfl
      rotate_left
      · simp only [Act.put, List.setIfInBounds_toArray, List.set_cons_zero, List.set_cons_succ, i64_w, i32_w]
        rfl
      refine pure_ (i := 2) (N := some 34) (v := ?_) (a' := ?_) #[true, false, true, false, false, false, false, false] rfl rfl (by kernel_rfl) (fun _ _ _ h => h) (Or.inl ⟨by rfl, ?_⟩) ?_ ?_
      rotate_left
      · intro w'
        go_simp
        with_reducible rfl
      rotate_left
      · simp only [Act.put, List.setIfInBounds_toArray, List.set_cons_zero, List.set_cons_succ, i64_w, i32_w]
        rfl
      refine take_ (i := 1) (N := some 33) (v := ?_) (a' := ?_) #[true, true, true, false, false, false, false, false] rfl rfl (by kernel_rfl) (fun _ _ _ h => h) (Or.inl ⟨by rfl, ?_⟩) hHeld ?_ ?_
      rotate_left
      · rintro w' hS
        have c5 := blk_cell (hS.trans HM.out) 5
        go_simp
        with_reducible rfl
      rotate_left
      · simp only [Act.put, List.setIfInBounds_toArray, List.set_cons_zero, List.set_cons_succ, i64_w, i32_w]
        rfl
      refine one_ (i := 3) (N := some 35) #[true, true, true, true, false, false, false, false] rfl rfl (by kernel_rfl) (by decide) (fun K hK => ?_)
      refine goes_ Try.func46 (by kernel_rfl) rfl #[.pointer (some ⟨w.heap.size + 1, 0, none⟩)] (by rfl) rfl rfl (by (try simp only [List.map_toArray, List.map_cons, List.map_nil]); first | done | rfl | (go_simp; done) | (go_simp; rfl)) ?_
      refine (rgetOsd_calls w1 (w.heap.size + 1) xs a e wd hR0.out HBY.out HS.out).mono ?_
      rintro r w29 ⟨o, a2, e2, rfl, h1, h2, hg⟩
      refine ⟨_, rfl, ?_⟩
      obtain ⟨cp, hcp⟩ := RR.at hR0.out
      have hO := Lib.hid h1
      have hR1 := Lib.hid h2
      have hU1 := Lib.hid (row_beside hU0.out hcp (by decide) hg)
      have hM1 := Lib.hid (blk_grown hM0.out hg (fun e => RR.ne hR0.out hM0.out (by decide) (Option.some.inj e)))
      clear h1 h2 hg hcp hR0 hU0 hM0
      refine hK.out _ _ (hM1.out.trans HM.out.symm) (fun hHeld => ?_)
      clear hK K
      refine norm_ (a' := ?_) ?_ ?_
      rotate_left
      · show Act.put _ (some 35) _ = _
        simp only [Act.put, List.setIfInBounds_toArray, List.set_cons_zero, List.set_cons_succ, i64_w, i32_w]
        rfl
      refine one_ (i := 4) (N := some 36) #[true, true, true, true, true, false, false, false] rfl rfl (by kernel_rfl) (by decide) (fun K hK => ?_)
      refine value_ (w1 := ?_) (v := ?_) (by rfl) rfl ?_ ?_
      rotate_left 2
      · go_simp
        constructor
        · rfl
        · rfl
      refine hK.out _ _ ((blk_alloc hM1.out _).trans HM.out.symm) (fun hHeld => ?_)
      clear hK K
      refine norm_ (a' := ?_) ?_ ?_
      rotate_left
      · show Act.put _ (some 36) _ = _
        simp only [Act.put, List.setIfInBounds_toArray, List.set_cons_zero, List.set_cons_succ, i64_w, i32_w]
        rfl
      refine one_ (i := 5) (N := some 37) #[true, true, true, true, true, true, false, false] rfl rfl (by kernel_rfl) (by decide) (fun K hK => ?_)
      refine Kd.R_append_step kO (w0 := w1) w1.heap.size (by rfl) (.tmp 33) (.tmp 36) 26 37 (.agg #[.int .i64 0, .bool false, .bool false, .int .i64 0, .int .i64 0, .int .i64 0, .int .i64 0, .int .i64 0]) 56 rfl Try.underlying26 infoO rfl (by decide) (by decide) (.slice A l.length c) l o [.int .i64 o.f0, .bool o.f1, .bool o.f2, .int .i64 o.f3, .int .i64 o.f4, .int .i64 o.f5, .int .i64 o.f6, .int .i64 o.f7] (fun _ => True) (fun _ => False) rfl rfl (k37_mkM _ _ _ o) (fun _ hk => hk.elim) (fun _ _ => trivial) hU1.out hR1.out.below hR1.out.below.size ?aL ?_
      (case aL => have h1 := HI.out; have h2 := HLN.out; have h3 := HN.out; omega)
      intro v31 w31 ho hb hg hat
      obtain ⟨A2, c2, hv31⟩ := Kd.R_slice ho
      subst hv31
      obtain ⟨L2, hL2⟩ : ∃ L2, L2 = (l ++ [o]).length := ⟨_, rfl⟩
      rw [← hL2] at ho ⊢
      have HL2 := Lib.hid hL2
      clear hL2
      have hU2 := Lib.hid ho
      have hR2 := Lib.hid (RR.row hR1.out hU1.out (Nat.le_refl _) hg)
      have hM2 := Lib.hid (blk_beside hU1.out hM1.out (by decide) hg)
      clear ho hb hg hat hR1 hU1 hM1
      refine hK.out _ _ (hM2.out.trans HM.out.symm) (fun hHeld => ?_)
      clear hK K
      refine norm_ (a' := ?_) ?_ ?_
      rotate_left
      · show Act.put _ (some 37) _ = _
        simp only [Act.put, List.setIfInBounds_toArray, List.set_cons_zero, List.set_cons_succ, i64_w, i32_w]
        rfl
      refine pure_ (i := 6) (N := some 38) (v := ?_) (a' := ?_) #[true, true, true, true, true, true, true, false] rfl rfl (by kernel_rfl) (fun _ _ _ h => h) (Or.inl ⟨by rfl, ?_⟩) ?_ ?_
      rotate_left
      · intro w'
        go_simp
        with_reducible rfl
      rotate_left
      · simp only [Act.put, List.setIfInBounds_toArray, List.set_cons_zero, List.set_cons_succ, i64_w, i32_w]
        rfl
      refine last_ (i := 7) (N := none) #[true, true, true, true, true, true, true, true] rfl rfl (by kernel_rfl) (by decide) (fun K hK => ?_)
      refine Stb.store_step (by rfl) rfl 26 (.tmp 38) (.tmp 37) (by rfl) (cur' := #[.int .i64 ep, .int .i64 k, .int .i64 m, .int .i64 pg, .int .i64 d, .slice A2 L2 c2]) [.slice A2 L2 c2] hM2.out (by rfl) (by rfl) (by rfl) (by kernel_rfl) (Nat.le_refl 6) (by rfl) (by rfl) ?_
      intro w33 hz hg hs
      have hM3 := Lib.hid hz
      have hU3 := Lib.hid (row_beside hU2.out hM2.out (by decide) hg)
      have hR3 := Lib.hid (RR.beside hR2.out hM2.out (by decide) HGB.out hg)
      clear hz hg hs hR2 hU2 hM2
      refine hK.out _ _ ?_
      clear hK K
      refine norm_ (a' := ?_) ?_ ?_
      rotate_left
      · show Act.put _ (none) _ = _
        simp only [Act.put, List.setIfInBounds_toArray, List.set_cons_zero, List.set_cons_succ, i64_w, i32_w]
        rfl
      refine done_ (by kernel_rfl) ?_
      go_wp2_with fail
      go_roundw
      case rel =>
        refine ⟨i + 1, l ++ [o], A2, c2, a2, e2, by go_num, Lib.hid (by have := HLT.out; omega), Lib.hid (by rw [List.length_append, HLN.out]; rfl), Lib.hid (.snoc HGO.out hO.out), hR3, ?_, ?_⟩
        · rw [← HL2.out]; exact hU3
        · rw [← HL2.out]; exact hM3
      case measure => have := HLT.out; simp only [intOf]; omega
    · obtain rfl : i = N := by have := HI.out; omega
      have hlt : decide (i < i) = false := decide_eq_false (Nat.lt_irrefl _)
      have hlt2 : decide ((i : Int) < (i : Int)) = false := decide_eq_false (by omega)
      have HGM : Hid (GetM 2147483647 xs ep k m pg d l a e) := Lib.hid ⟨a1, e1, i, HNUMS.out, by rw [HLN.out], HGO.out⟩
      clear h hn64
      have c0 := blk_cell HM.out 0
      have c1 := blk_cell HM.out 1
      have c2 := blk_cell HM.out 2
      have c3 := blk_cell HM.out 3
      have c4 := blk_cell HM.out 4
      have c5 := blk_cell HM.out 5
      have T := Lib.hid (renc_any ep k m pg d A c l wr (Kd.R_reads' HU.out).2.2 (Kd.R_reads' HU.out).2.1)
      unfold boxM at T
      go_wp2_with fail
      refine T.out.mono ?_
      rintro r w10 ⟨er, B, cb, ys, rfl, hyl, hyc, hb, her, hys⟩
      have HB4 := Lib.hid (below_then HR.out.below HR.out.below.size hb)
      have HBW := Lib.hid (below_then HB1.out HB1.out.size HB4.out)
      have HM4 := Lib.hid (blk_below HM.out hb)
      have HZ4 := Lib.hid (blk_below HZ1.out HB4.out)
      have HU4 := Lib.hid (Kd.R_below HU.out hb)
      have hcy := Kd.C_string (P := Try.prog) (A := B) (c := cb) Try.underlying45 Try.underlying5 Try.underlying9 hyc
      have hcx := Kd.C_string (P := Try.prog) (A := A0) (c := cz) Try.underlying45 Try.underlying5 Try.underlying9 (Kd.C_below HC1.out HB4.out)
      have HER := Lib.hid her
      have HYS := Lib.hid hys
      clear hb T c0 c1 c2 c3 c4 c5 HM HU HR hyc her hys
      have c0 := blk_cell HM4.out 0
      have c1 := blk_cell HM4.out 1
      have c2 := blk_cell HM4.out 2
      have c3 := blk_cell HM4.out 3
      have c4 := blk_cell HM4.out 4
      have c5 := blk_cell HM4.out 5
      obtain ⟨mb, hmb⟩ : ∃ mb, mb = mayB ep k m pg d l := ⟨_, rfl⟩
      rw [← hmb] at HER HYS
      have HMB := Lib.hid hmb
      clear hmb
      cases mb with
      | false =>
        have he1 : er = 1 := HER.out
        subst he1
        go_wp2_with (first | (refine gate_ (.store 28 (.tmp 2) (.tmp 53)) rfl ?_; go_must (refine Stb.store_list rfl rfl 28 (.tmp 2) (.tmp 53) rfl (cur' := #[.int .i64 0, .int .i64 0, .int .i64 0, .int .i64 0, .int .i64 0, .slice none 0 0]) [.int .i64 0, .int .i64 0, .int .i64 0, .int .i64 0, .int .i64 0, .slice none 0 0] (by exact HZ4.out) (by rfl) (by rfl) (by rfl) (by kernel_rfl) (Nat.le_of_ble_eq_true rfl) (by rfl) (by rfl) ?_; intro wf hz_ hg_ hs_; have HF := Lib.hid hz_; have HBF := Lib.hid (Stb.below_grown1 HBW.out hg_ (Nat.le_refl _) HBW.out.size); clear hz_ hg_ hs_)))
        refine bodyPost_ret (results_ct rfl _ _ w.heap.size 28 zM (0, 0) _ rfl HF.out Try.underlying28 rfl (by kernel_rfl)) rfl ?_
        refine ⟨HBF.out, .inr ⟨rfl, fun ep' k' m' p' d' l' hm he => ?_⟩⟩
        obtain ⟨rfl, rfl, rfl, rfl, rfl, rfl, _, _⟩ := HGM.out.back (by decide) hm he
        have := HMB.out
        rw [hm] at this
        cases this
      | true =>
        have he1 : er = 0 := HER.out
        subst he1
        have hy : ys = encL ep k m pg d l := HYS.out
        obtain ⟨sb, hsb⟩ : ∃ sb, sb = ((strOfNums ys).toList == (strOfNums xs).toList) := ⟨_, rfl⟩
        have HSB : Hid (sb = true ↔ encL ep k m pg d l = xs) := Lib.hid (by rw [hsb, strL_inj (by rw [hy]; exact encL_byte _ _ _ _ _ _) HBY.out, hy])
        obtain ⟨sx, hsx⟩ : ∃ sx, sx = strOfNums xs := ⟨_, rfl⟩
        obtain ⟨sy, hsy⟩ : ∃ sy, sy = strOfNums ys := ⟨_, rfl⟩
        rw [← hsx] at hcx hsb
        rw [← hsy] at hcy hsb
        clear hsx hsy hy
        cases sb with
        | true =>
          have hs1 : (sy.toList == sx.toList) = true := hsb.symm
          have hs2 : (sy.toList != sx.toList) = false := by rw [bne, hs1]; rfl
          clear hsb
          go_wp2_with (first | (refine gate_ (.store 28 (.tmp 2) (.tmp 54)) rfl ?_; go_must (refine Stb.store_list rfl rfl 28 (.tmp 2) (.tmp 54) rfl (cur' := #[.int .i64 ep, .int .i64 k, .int .i64 m, .int .i64 pg, .int .i64 d, .slice A l.length c]) [.int .i64 ep, .int .i64 k, .int .i64 m, .int .i64 pg, .int .i64 d, .slice A l.length c] (by exact HZ4.out) (by rfl) (by rfl) (by rfl) (by kernel_rfl) (Nat.le_of_ble_eq_true rfl) (by rfl) (by rfl) ?_; intro wf hz_ hg_ hs_; have HF := Lib.hid hz_; have HUF := Lib.hid (row_beside HU4.out HZ4.out (by decide) hg_); have HBF := Lib.hid (Stb.below_grown1 HBW.out hg_ (Nat.le_refl _) HBW.out.size); clear hz_ hg_ hs_)))
          refine bodyPost_ret (results_ct rfl _ _ w.heap.size 28 #[.int .i64 ep, .int .i64 k, .int .i64 m, .int .i64 pg, .int .i64 d, .slice A l.length c] (0, 0) _ rfl HF.out Try.underlying28 rfl (by kernel_rfl)) rfl ?_
          have hrd := Kd.R_reads' HUF.out
          exact ⟨HBF.out, .inl ⟨ep, k, m, pg, d, l, A, c, rfl, hrd.2.1, hrd.2.2, HMB.out.symm, HSB.out.1 (by trivial)⟩⟩
        | false =>
          have hs1 : (sy.toList == sx.toList) = false := hsb.symm
          have hs2 : (sy.toList != sx.toList) = true := by rw [bne, hs1]; rfl
          clear hsb
          go_wp2_with (first | (refine gate_ (.store 28 (.tmp 2) (.tmp 53)) rfl ?_; go_must (refine Stb.store_list rfl rfl 28 (.tmp 2) (.tmp 53) rfl (cur' := #[.int .i64 0, .int .i64 0, .int .i64 0, .int .i64 0, .int .i64 0, .slice none 0 0]) [.int .i64 0, .int .i64 0, .int .i64 0, .int .i64 0, .int .i64 0, .slice none 0 0] (by exact HZ4.out) (by rfl) (by rfl) (by rfl) (by kernel_rfl) (Nat.le_of_ble_eq_true rfl) (by rfl) (by rfl) ?_; intro wf hz_ hg_ hs_; have HF := Lib.hid hz_; have HBF := Lib.hid (Stb.below_grown1 HBW.out hg_ (Nat.le_refl _) HBW.out.size); clear hz_ hg_ hs_)))
          refine bodyPost_ret (results_ct rfl _ _ w.heap.size 28 zM (0, 0) _ rfl HF.out Try.underlying28 rfl (by kernel_rfl)) rfl ?_
          refine ⟨HBF.out, .inr ⟨rfl, fun ep' k' m' p' d' l' hm he => ?_⟩⟩
          obtain ⟨rfl, rfl, rfl, rfl, rfl, rfl, _, _⟩ := HGM.out.back (by decide) hm he
          exact absurd (HSB.out.2 he) (by decide)
set_option maxHeartbeats 16000000 in
set_option maxRecDepth 100000 in
theorem rdecc_calls (A0 : Option Addr) (cz : Nat) (xs : List Int) (w : World) (_ : xs.length ≤ cz) (hx : BK.C w A0 xs.length xs) (hb : ∀ c ∈ xs, 0 ≤ c ∧ c < 256) :
    Calls Try.prog 21 #[.slice A0 xs.length cz] w fun e w' => DecC xs w w' e := by
  have HBY := Lib.hid hb
  have HS : Hid (xs.length ≤ 9223372036854775807) := Lib.hid hx.2.1
  obtain ⟨w1, hw1⟩ : ∃ w1, w1 = w.alloc (.cells #[.int .i64 0, .int .i64 0, .bool false, .bool false, .int .i64 0, .int .i64 0, .int .i64 0, .int .i64 0, .int .i64 0] 39) := ⟨_, rfl⟩
  have HB1 : Hid (Below w.heap.size w w1) := Lib.hid (by rw [hw1]; exact below_alloc (Below.refl _ _) _)
  have HZ1 : Hid (w1.heap[w.heap.size]? = some (.cells #[.int .i64 0, .int .i64 0, .bool false, .bool false, .int .i64 0, .int .i64 0, .int .i64 0, .int .i64 0, .int .i64 0] 39 (0, 0))) := Lib.hid (by rw [hw1]; exact blk_new _ _)
  have HC1 := Lib.hid (Kd.C_below hx HB1.out)
  have hs1 : w1.heap.size = w.heap.size + 1 := by rw [hw1]; simp only [World.alloc, Array.size_push]
  have HR2 : Hid (RR w1 (w1.alloc (.cells #[.slice A0 xs.length cz, .int .i64 0, .int .i64 0] 84)) (w.heap.size + 1) xs 0 0) := Lib.hid (by rw [← hs1]; exact ⟨IsS84.new w1 w1 A0 cz xs 0 0 (Below.refl _ _) HC1.out, below_alloc (Below.refl _ _) _, Nat.zero_le _⟩)
  obtain ⟨w2, hw2⟩ : ∃ w2, w2 = w1.alloc (.cells #[.slice A0 xs.length cz, .int .i64 0, .int .i64 0] 84) := ⟨_, rfl⟩
  have HW2 : Hid (w2 = w1.alloc (.cells #[.slice A0 xs.length cz, .int .i64 0, .int .i64 0] 84)) := Lib.hid hw2
  rw [← hw2] at HR2
  have HWN := Lib.hid hw1
  clear hx hb hw2 hw1 hs1
  go_enter Try.func21, Try.ntmps21
  go_wp2_with fail
  rw [← HWN.out, ← HW2.out]
  clear HW2 HWN
  refine (rnum_calls w1 (w.heap.size + 1) xs 0 0 w2 HR2.out HBY.out HS.out).mono ?_
  rintro r w3 ⟨kd, a2, e2, rfl, h1, h2, hg⟩
  have HN2 := Lib.hid h1
  have HR3 := Lib.hid h2
  clear h1 h2 hg HR2
  have HM4 : Hid ((w3.alloc (.cells #[.int .i64 kd, .int .i64 0, .bool false, .bool false, .int .i64 0, .int .i64 0, .int .i64 0, .int .i64 0, .int .i64 0] 39)).heap[w3.heap.size]? = some (.cells #[.int .i64 kd, .int .i64 0, .bool false, .bool false, .int .i64 0, .int .i64 0, .int .i64 0, .int .i64 0, .int .i64 0] 39 (0, 0))) := Lib.hid (blk_new _ _)
  have HR4 := Lib.hid (RR.later HR3.out (below_alloc (Below.refl _ _) (.cells #[.int .i64 kd, .int .i64 0, .bool false, .bool false, .int .i64 0, .int .i64 0, .int .i64 0, .int .i64 0, .int .i64 0] 39)))
  obtain ⟨w4, hw4⟩ : ∃ w4, w4 = w3.alloc (.cells #[.int .i64 kd, .int .i64 0, .bool false, .bool false, .int .i64 0, .int .i64 0, .int .i64 0, .int .i64 0, .int .i64 0] 39) := ⟨_, rfl⟩
  obtain ⟨g5, hg5⟩ : ∃ g5, g5 = w3.heap.size := ⟨_, rfl⟩
  have HW4 := Lib.hid hw4
  have HGN := Lib.hid hg5
  have HGB : Hid (w1.heap.size ≤ g5) := Lib.hid (by rw [hg5]; exact HR3.out.below.size)
  rw [← hw4] at HM4 HR4
  rw [← hg5] at HM4
  clear hw4 hg5 HR3
  go_wp2_with fail
  rw [← HW4.out, ← HGN.out]
  clear HW4 HGN
  refine (rgetOsd_calls w1 (w.heap.size + 1) xs a2 e2 w4 HR4.out HBY.out HS.out).mono ?_
  rintro r w5 ⟨o, a, e, rfl, h1, h2, hg⟩
  have HR5 := Lib.hid h2
  have HM5 := Lib.hid (blk_grown HM4.out hg (fun e => RR.ne HR4.out HM4.out (by decide) (Option.some.inj e)))
  have HGC : Hid (GetC 2147483647 xs kd o a e) := Lib.hid ⟨a2, e2, .one HN2.out, h1⟩
  clear h1 h2 hg HR4 HM4 HN2
  go_wp2_with (first | (refine gate_ (.store 37 (.tmp 16) (.tmp 15)) rfl ?_; go_must (refine Stb.store_list rfl rfl 37 (.tmp 16) (.tmp 15) rfl (g := g5) (j := 1) (cur' := #[.int .i64 kd, .int .i64 o.f0, .bool o.f1, .bool o.f2, .int .i64 o.f3, .int .i64 o.f4, .int .i64 o.f5, .int .i64 o.f6, .int .i64 o.f7]) [.int .i64 o.f0, .bool o.f1, .bool o.f2, .int .i64 o.f3, .int .i64 o.f4, .int .i64 o.f5, .int .i64 o.f6, .int .i64 o.f7] (by exact HM5.out) (by rfl) (by rfl) (by rfl) (by kernel_rfl) (Nat.le_of_ble_eq_true rfl) (by rfl) (by rfl) ?_; intro w6 hz_ hg_ hs_; have HM6 := Lib.hid hz_; have HR6 := Lib.hid (RR.beside HR5.out HM5.out (by decide) HGB.out hg_); have c0 := blk_cell hz_ 0; have c1 := blk_cell hz_ 1; have c2 := blk_cell hz_ 2; have c3 := blk_cell hz_ 3; have c4 := blk_cell hz_ 4; have c5 := blk_cell hz_ 5; have c6 := blk_cell hz_ 6; have c7 := blk_cell hz_ 7; have c8 := blk_cell hz_ 8; clear hz_ hg_ hs_ HM5 HR5)))
  have T := Lib.hid (rencc_any kd o w6)
  unfold chA at T
  refine T.out.mono ?_
  rintro r w7 ⟨er, B, cb, ys, rfl, hyl, hyc, hb, her, hys⟩
  have HB4 := Lib.hid (below_then HR6.out.below HR6.out.below.size hb)
  have HBW := Lib.hid (below_then HB1.out HB1.out.size HB4.out)
  have HM7 := Lib.hid (blk_below HM6.out hb)
  have HZ7 := Lib.hid (blk_below HZ1.out HB4.out)
  have hcy := Kd.C_string (P := Try.prog) (A := B) (c := cb) Try.underlying45 Try.underlying5 Try.underlying9 hyc
  have hcx := Kd.C_string (P := Try.prog) (A := A0) (c := cz) Try.underlying45 Try.underlying5 Try.underlying9 (Kd.C_below HC1.out HB4.out)
  have HER := Lib.hid her
  have HYS := Lib.hid hys
  clear hb T c0 c1 c2 c3 c4 c5 c6 c7 c8 HM6 HR6 hyc her hys
  have c0 := blk_cell HM7.out 0
  have c1 := blk_cell HM7.out 1
  have c2 := blk_cell HM7.out 2
  have c3 := blk_cell HM7.out 3
  have c4 := blk_cell HM7.out 4
  have c5 := blk_cell HM7.out 5
  have c6 := blk_cell HM7.out 6
  have c7 := blk_cell HM7.out 7
  have c8 := blk_cell HM7.out 8
  obtain ⟨mb, hmb⟩ : ∃ mb, mb = mayC kd o := ⟨_, rfl⟩
  rw [← hmb] at HER HYS
  have HMB := Lib.hid hmb
  clear hmb
  cases mb with
  | false =>
    have he1 : er = 1 := HER.out
    subst he1
    go_wp2_with (first | (refine gate_ (.store 39 (.tmp 2) (.tmp 31)) rfl ?_; go_must (refine Stb.store_list rfl rfl 39 (.tmp 2) (.tmp 31) rfl (cur' := #[.int .i64 0, .int .i64 0, .bool false, .bool false, .int .i64 0, .int .i64 0, .int .i64 0, .int .i64 0, .int .i64 0]) [.int .i64 0, .int .i64 0, .bool false, .bool false, .int .i64 0, .int .i64 0, .int .i64 0, .int .i64 0, .int .i64 0] (by exact HZ7.out) (by rfl) (by rfl) (by rfl) (by kernel_rfl) (Nat.le_of_ble_eq_true rfl) (by rfl) (by rfl) ?_; intro wf hz_ hg_ hs_; have HF := Lib.hid hz_; have HBF := Lib.hid (Stb.below_grown1 HBW.out hg_ (Nat.le_refl _) HBW.out.size); clear hz_ hg_ hs_)))
    refine bodyPost_ret (results_ct rfl _ _ w.heap.size 39 zC (0, 0) _ rfl HF.out Try.underlying39 rfl (by kernel_rfl)) rfl ?_
    refine ⟨HBF.out, .inr ⟨rfl, fun kd' o' hm he => ?_⟩⟩
    obtain ⟨rfl, rfl, _, _⟩ := HGC.out.back (by decide) hm he
    have := HMB.out
    rw [hm] at this
    cases this
  | true =>
    have he1 : er = 0 := HER.out
    subst he1
    have hy : ys = encC kd o := HYS.out
    obtain ⟨sb, hsb⟩ : ∃ sb, sb = ((strOfNums ys).toList == (strOfNums xs).toList) := ⟨_, rfl⟩
    have HSB : Hid (sb = true ↔ encC kd o = xs) := Lib.hid (by rw [hsb, strL_inj (by rw [hy]; exact encC_byte _ _) HBY.out, hy])
    obtain ⟨sx, hsx⟩ : ∃ sx, sx = strOfNums xs := ⟨_, rfl⟩
    obtain ⟨sy, hsy⟩ : ∃ sy, sy = strOfNums ys := ⟨_, rfl⟩
    rw [← hsx] at hcx hsb
    rw [← hsy] at hcy hsb
    clear hsx hsy hy
    cases sb with
    | true =>
      have hs1 : (sy.toList == sx.toList) = true := hsb.symm
      have hs2 : (sy.toList != sx.toList) = false := by rw [bne, hs1]; rfl
      clear hsb
      go_wp2_with (first | (refine gate_ (.store 39 (.tmp 2) (.tmp 32)) rfl ?_; go_must (refine Stb.store_list rfl rfl 39 (.tmp 2) (.tmp 32) rfl (cur' := #[.int .i64 kd, .int .i64 o.f0, .bool o.f1, .bool o.f2, .int .i64 o.f3, .int .i64 o.f4, .int .i64 o.f5, .int .i64 o.f6, .int .i64 o.f7]) [.int .i64 kd, .int .i64 o.f0, .bool o.f1, .bool o.f2, .int .i64 o.f3, .int .i64 o.f4, .int .i64 o.f5, .int .i64 o.f6, .int .i64 o.f7] (by exact HZ7.out) (by rfl) (by rfl) (by rfl) (by kernel_rfl) (Nat.le_of_ble_eq_true rfl) (by rfl) (by rfl) ?_; intro wf hz_ hg_ hs_; have HF := Lib.hid hz_; have HBF := Lib.hid (Stb.below_grown1 HBW.out hg_ (Nat.le_refl _) HBW.out.size); clear hz_ hg_ hs_)))
      refine bodyPost_ret (results_ct rfl _ _ w.heap.size 39 #[.int .i64 kd, .int .i64 o.f0, .bool o.f1, .bool o.f2, .int .i64 o.f3, .int .i64 o.f4, .int .i64 o.f5, .int .i64 o.f6, .int .i64 o.f7] (0, 0) _ rfl HF.out Try.underlying39 rfl (by kernel_rfl)) rfl ?_
      exact ⟨HBF.out, .inl ⟨kd, o, rfl, HMB.out.symm, HSB.out.1 (by trivial)⟩⟩
    | false =>
      have hs1 : (sy.toList == sx.toList) = false := hsb.symm
      have hs2 : (sy.toList != sx.toList) = true := by rw [bne, hs1]; rfl
      clear hsb
      go_wp2_with (first | (refine gate_ (.store 39 (.tmp 2) (.tmp 31)) rfl ?_; go_must (refine Stb.store_list rfl rfl 39 (.tmp 2) (.tmp 31) rfl (cur' := #[.int .i64 0, .int .i64 0, .bool false, .bool false, .int .i64 0, .int .i64 0, .int .i64 0, .int .i64 0, .int .i64 0]) [.int .i64 0, .int .i64 0, .bool false, .bool false, .int .i64 0, .int .i64 0, .int .i64 0, .int .i64 0, .int .i64 0] (by exact HZ7.out) (by rfl) (by rfl) (by rfl) (by kernel_rfl) (Nat.le_of_ble_eq_true rfl) (by rfl) (by rfl) ?_; intro wf hz_ hg_ hs_; have HF := Lib.hid hz_; have HBF := Lib.hid (Stb.below_grown1 HBW.out hg_ (Nat.le_refl _) HBW.out.size); clear hz_ hg_ hs_)))
      refine bodyPost_ret (results_ct rfl _ _ w.heap.size 39 zC (0, 0) _ rfl HF.out Try.underlying39 rfl (by kernel_rfl)) rfl ?_
      refine ⟨HBF.out, .inr ⟨rfl, fun kd' o' hm he => ?_⟩⟩
      obtain ⟨rfl, rfl, _, _⟩ := HGC.out.back (by decide) hm he
      exact absurd (HSB.out.2 he) (by decide)
end Go.Proofs.Ytfikaekocgofoaa.Rde
/- AtlasApplies: what the row asks for. -/
set_option linter.unusedSimpArgs false
namespace Go.Proofs.Ytfikaekocgofoaa.LaA
open Go Go.RowKit Go.Proofs.YtfikaekocgofoaaW.PrintWords Go.Proofs.YtfikaekocgofoaaW.PrintLast Go.Proofs.YtfikaekocgofoaaW.PrintMore Mem PAll KW AtA AtB Sl Dsc MayP ApP Fnd PlF Roo Awk McW ApY ApZ ApW AtK AtV AtX AtD AtC AtP Ins AtQ AtR AtS AtF AtW AtE
open CrP hiding Od
end Go.Proofs.Ytfikaekocgofoaa.LaA
