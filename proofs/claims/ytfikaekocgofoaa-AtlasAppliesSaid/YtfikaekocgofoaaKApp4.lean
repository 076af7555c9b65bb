import Derived.Test.YtfikaekocgofoaaKApp3
import Derived.Test.YtfikaekocgofoaaRows
import Derived.WalkKit
import Derived.ProofKit
import Derived.OpenShut
import Derived.ShutString
import Derived.ChangeOld
import Derived.Below
import Derived.SizedLaws
import Derived.JoinedCond
import Derived.Deep.CondSized
/- Merged texts, one behind the other: AtS, AtF, AtW, AtE, LaA, AtO, RowAtlasApplies. -/
/- Changes, one behind the other; a pool's first map. -/
set_option linter.unusedSimpArgs false
namespace Go.Proofs.Ytfikaekocgofoaa.AtS
open Go Go.RowKit Go.Proofs.YtfikaekocgofoaaW.PrintWords Go.Proofs.YtfikaekocgofoaaW.PrintLast Go.Proofs.YtfikaekocgofoaaW.PrintMore Mem PAll KW AtA AtB Sl Dsc MayP ApP Fnd PlF Roo Awk McW ApY ApZ ApW AtK AtV AtX AtD AtC AtP Ins AtQ AtR
open CrP hiding Od
structure Chg where
  kd : Int
  o : Od
  deriving Inhabited
def kC : Kd Chg := Kd.iso (Kd.pair (Kd.int .i64) kO) (fun x => (x.kd, x.o))
theorem kC_open {w : World} {x : Chg} {cs : List Value} (h : kC.K w x cs) : cs = (chA x.kd x.o).toList := by
  obtain ⟨_, _, rfl, rfl, h⟩ := h
  obtain rfl := k37_open h
  rfl
theorem at_C {w : World} {A : Option Addr} {n : Nat} {xs : List Chg} (h : kC.C w A n xs) (i : Nat) (h1 : i < n) :
    ∃ ad x, xs[i]? = some x ∧ A = some ad ∧ w.cell? (ad.add (i * 9)) = some (.int .i64 x.kd) ∧ w.cell? ⟨(ad.add (i * 9)).block, (ad.add (i * 9)).off + 1, none⟩ = some (.int .i64 x.o.f0) ∧ w.cell? ⟨(ad.add (i * 9)).block, (ad.add (i * 9)).off + 2, none⟩ = some (.bool x.o.f1) ∧ w.cell? ⟨(ad.add (i * 9)).block, (ad.add (i * 9)).off + 3, none⟩ = some (.bool x.o.f2) ∧ w.cell? ⟨(ad.add (i * 9)).block, (ad.add (i * 9)).off + 4, none⟩ = some (.int .i64 x.o.f3) ∧ w.cell? ⟨(ad.add (i * 9)).block, (ad.add (i * 9)).off + 5, none⟩ = some (.int .i64 x.o.f4) ∧ w.cell? ⟨(ad.add (i * 9)).block, (ad.add (i * 9)).off + 6, none⟩ = some (.int .i64 x.o.f5) ∧ w.cell? ⟨(ad.add (i * 9)).block, (ad.add (i * 9)).off + 7, none⟩ = some (.int .i64 x.o.f6) ∧ w.cell? ⟨(ad.add (i * 9)).block, (ad.add (i * 9)).off + 8, none⟩ = some (.int .i64 x.o.f7) := by
  obtain ⟨ad, c, e, _, hK, hc0⟩ := Kd.C_get h default (i : Int) (by omega) (by omega)
  have hn : i < xs.length := by have := h.1; omega
  have hg : xs.getD (i : Int).toNat default = xs[i] := by
    rw [Int.toNat_natCast, List.getD_eq_getElem?_getD, List.getElem?_eq_getElem hn]
    rfl
  rw [hg] at hK
  have hc : ∀ j u, c[j]? = some u → w.cell? (ad.add (i * 9 + j)) = some u := hc0
  obtain rfl := kC_open hK
  exact ⟨ad, xs[i], List.getElem?_eq_getElem hn, e, hc 0 _ rfl, by rw [← add_field _ _ 1 (by omega)]; exact hc 1 _ rfl, by rw [← add_field _ _ 2 (by omega)]; exact hc 2 _ rfl, by rw [← add_field _ _ 3 (by omega)]; exact hc 3 _ rfl, by rw [← add_field _ _ 4 (by omega)]; exact hc 4 _ rfl, by rw [← add_field _ _ 5 (by omega)]; exact hc 5 _ rfl, by rw [← add_field _ _ 6 (by omega)]; exact hc 6 _ rfl, by rw [← add_field _ _ 7 (by omega)]; exact hc 7 _ rfl, by rw [← add_field _ _ 8 (by omega)]; exact hc 8 _ rfl⟩
theorem ans_may {ep k m p d : Int} {l : List Od} {kd : Int} {o : Od} {l' : List Od} (h : Ans ep k m p d l kd o 0 l') : mayB (ep + 1) k m p d l' = true := by
  rcases h with ⟨_, e⟩ | ⟨hb, hk, e⟩ | ⟨hb, hk, e⟩
  · cases e
  · have hb' := hb
    simp only [Bool.and_eq_true, Bool.not_eq_true'] at hb'
    unfold applyR at e
    rw [if_neg (by rw [← hk, hb]; decide), if_pos rfl] at e
    split at e
    · injection e with e1 _; cases e1
    · split at e
      · injection e with e1 _; cases e1
      · split at e
        · rename_i h3; injection e with _ e2; rw [← e2]; exact h3
        · injection e with e1 _; cases e1
  · have hb' := hb
    simp only [Bool.and_eq_true, Bool.not_eq_true'] at hb'
    obtain ⟨h1, h2, h3⟩ := hb'
    rcases e with ⟨_, e2⟩ | ⟨j, q, hj, _, ⟨_, e2⟩ | ⟨_, _, e3⟩⟩
    · cases e2
    · cases e2
    · rw [e3]
      exact may_set h1 h3 h2 (by have := known_cases hk; omega) hj
/-- From one map to another, change by change; what each is told. -/
inductive Stp (k m p d : Int) : List Chg → Int → List Od → List Int → Prop
  | nil : Stp k m p d [] 0 [] []
  | no {cs : List Chg} {ep : Int} {l : List Od} {es : List Int} {c : Chg} {er : Int} {l' : List Od} : Stp k m p d cs ep l es → Ans ep k m p d l c.kd c.o er l' → er ≠ 0 → Stp k m p d (cs ++ [c]) ep l (es ++ [er])
  | ok {cs : List Chg} {ep : Int} {l : List Od} {es : List Int} {c : Chg} {l' : List Od} : Stp k m p d cs ep l es → Ans ep k m p d l c.kd c.o 0 l' → Stp k m p d (cs ++ [c]) (ep + 1) l' (es ++ [0])
theorem snoc_inj {α : Type} {a b : List α} {x y : α} (h : a ++ [x] = b ++ [y]) : a = b ∧ x = y := by
  have := List.append_inj' h rfl
  exact ⟨this.1, by simpa using this.2⟩
theorem steps_one {k m p d : Int} {cs : List Chg} {ep : Int} {l : List Od} {es : List Int} (h : Stp k m p d cs ep l es) : ∀ {ep2 : Int} {l2 : List Od} {es2 : List Int}, Stp k m p d cs ep2 l2 es2 → ep = ep2 ∧ l = l2 ∧ es = es2 := by
  induction h with
  | nil =>
    intro ep2 l2 es2 h2
    generalize hc : ([] : List Chg) = cs at h2
    cases h2 with
    | nil => exact ⟨rfl, rfl, rfl⟩
    | no _ _ _ => simp at hc
    | ok _ _ => simp at hc
  | @no cs ep l es c er l' hs ha hne ih =>
    intro ep2 l2 es2 h2
    generalize hc : cs ++ [c] = cs' at h2
    cases h2 with
    | nil => simp at hc
    | no hs2 ha2 hne2 =>
      obtain ⟨rfl, rfl⟩ := snoc_inj hc
      obtain ⟨rfl, rfl, rfl⟩ := ih hs2
      obtain ⟨rfl, _⟩ := ans_one ha ha2
      exact ⟨rfl, rfl, rfl⟩
    | ok hs2 ha2 =>
      obtain ⟨rfl, rfl⟩ := snoc_inj hc
      obtain ⟨rfl, rfl, rfl⟩ := ih hs2
      exact absurd (ans_one ha ha2).1 hne
  | @ok cs ep l es c l' hs ha ih =>
    intro ep2 l2 es2 h2
    generalize hc : cs ++ [c] = cs' at h2
    cases h2 with
    | nil => simp at hc
    | no hs2 ha2 hne2 =>
      obtain ⟨rfl, rfl⟩ := snoc_inj hc
      obtain ⟨rfl, rfl, rfl⟩ := ih hs2
      exact absurd (ans_one ha ha2).1.symm hne2
    | ok hs2 ha2 =>
      obtain ⟨rfl, rfl⟩ := snoc_inj hc
      obtain ⟨rfl, rfl, rfl⟩ := ih hs2
      have := (ans_one ha ha2).2 rfl
      exact ⟨rfl, this, rfl⟩
theorem steps_may {k m p d : Int} {cs : List Chg} {ep : Int} {l : List Od} {es : List Int} (h : Stp k m p d cs ep l es) (hp : poolB k m p d = true) : mayB ep k m p d l = true := by
  induction h with
  | nil =>
    unfold mayB
    rw [hp, show goodB [] = true from goodB_yes (fun _ _ hi _ => absurd hi (Nat.not_lt_zero _))]
    rfl
  | no _ _ _ ih => exact ih
  | ok _ ha _ => exact ans_may ha
theorem steps_len {k m p d : Int} {cs : List Chg} {ep : Int} {l : List Od} {es : List Int} (h : Stp k m p d cs ep l es) : es.length = cs.length := by
  induction h with
  | nil => rfl
  | no _ _ _ ih => simp [ih]
  | ok _ _ ih => simp [ih]
abbrev firstM (k m p d : Int) : Array Value := #[.int .i64 0, .int .i64 k, .int .i64 m, .int .i64 p, .int .i64 d, .slice none 0 0]
set_option maxHeartbeats 4000000 in
set_option maxRecDepth 100000 in
theorem new_calls (k m p d : Int) (w : World) : Calls Try.prog 25 #[.agg #[.int .i64 k, .int .i64 m, .int .i64 p, .int .i64 d]] w fun e w' => e = .returned (if poolB k m p d = true then .tuple #[.agg (firstM k m p d), .int .i64 0] else .tuple #[.agg zM, .int .i64 1]) ∧ Below w.heap.size w w' := by
  have hs1 : (w.alloc (.cells #[.int .i64 k, .int .i64 m, .int .i64 p, .int .i64 d] 23)).heap.size = w.heap.size + 1 := by simp only [World.alloc, Array.size_push]
  have HP1 : Hid (((w.alloc (.cells #[.int .i64 k, .int .i64 m, .int .i64 p, .int .i64 d] 23)).alloc (.cells zM 28)).heap[w.heap.size]? = some (.cells #[.int .i64 k, .int .i64 m, .int .i64 p, .int .i64 d] 23 (0, 0))) := Lib.hid (blk_below (blk_new _ _) (below_alloc (Below.refl _ _) _))
  have HR1 : Hid (((w.alloc (.cells #[.int .i64 k, .int .i64 m, .int .i64 p, .int .i64 d] 23)).alloc (.cells zM 28)).heap[w.heap.size + 1]? = some (.cells zM 28 (0, 0))) := Lib.hid (by
    have h := blk_new (w.alloc (.cells #[.int .i64 k, .int .i64 m, .int .i64 p, .int .i64 d] 23)) (.cells zM 28)
    rw [hs1] at h
    exact h)
  have HB1 := Lib.hid (below_alloc (below_alloc (Below.refl w.heap.size w) (.cells #[.int .i64 k, .int .i64 m, .int .i64 p, .int .i64 d] 23)) (.cells zM 28))
  obtain ⟨w1, hw1⟩ : ∃ w1, w1 = ((w.alloc (.cells #[.int .i64 k, .int .i64 m, .int .i64 p, .int .i64 d] 23)).alloc (.cells zM 28)) := ⟨_, rfl⟩
  have HWN := Lib.hid hw1
  rw [← hw1] at HP1 HR1 HB1
  obtain ⟨b, hb⟩ : ∃ b, b = poolB k m p d := ⟨_, rfl⟩
  have T := Lib.hid (pool_calls k m p d w1)
  rw [← hb] at T ⊢
  clear hb hw1 hs1
  have c0 := blk_cell HP1.out 0
  have c1 := blk_cell HP1.out 1
  have c2 := blk_cell HP1.out 2
  have c3 := blk_cell HP1.out 3
  rw [HWN.out] at c0 c1 c2 c3
  go_enter Try.func25, Try.ntmps25
  go_wp2_with fail
  rw [← HWN.out]
  refine T.out.mono ?_
  rintro e w2 ⟨rfl, hb⟩
  have HB2 := Lib.hid (below_then HB1.out HB1.out.size hb)
  have HP2 := Lib.hid (blk_below HP1.out hb)
  have HR2 := Lib.hid (blk_below HR1.out hb)
  clear hb c0 c1 c2 c3 T HP1 HR1 HB1 HWN
  have c0 := blk_cell HP2.out 0
  have c1 := blk_cell HP2.out 1
  have c2 := blk_cell HP2.out 2
  have c3 := blk_cell HP2.out 3
  cases b with
  | false =>
    go_wp2_with (first | (refine gate_ (.store 28 (.tmp 2) (.tmp 7)) rfl ?_; go_must (refine Stb.store_list rfl rfl 28 (.tmp 2) (.tmp 7) rfl (cur' := zM) [.int .i64 0, .int .i64 0, .int .i64 0, .int .i64 0, .int .i64 0, .slice none 0 0] (by exact HR2.out) (by rfl) (by rfl) (by rfl) (by kernel_rfl) (Nat.le_of_ble_eq_true rfl) (by rfl) (by rfl) ?_; intro wf hz_ hg_ hs_; have HF := Lib.hid hz_; have HBF := Lib.hid (Stb.below_grown1 HB2.out hg_ (Nat.le_add_right _ 1) HB2.out.size); clear hz_ hg_ hs_)))
    refine bodyPost_ret (results_ct rfl _ _ (w.heap.size + 1) 28 zM (0, 0) _ rfl HF.out Try.underlying28 rfl (by kernel_rfl)) rfl ?_
    exact ⟨rfl, HBF.out⟩
  | true =>
    go_wp2_with (first | (refine gate_ (.store 28 (.tmp 2) (.tmp 9)) rfl ?_; go_must (refine Stb.store_list rfl rfl 28 (.tmp 2) (.tmp 9) rfl (cur' := firstM k m p d) [.int .i64 0, .int .i64 k, .int .i64 m, .int .i64 p, .int .i64 d, .slice none 0 0] (by exact HR2.out) (by rfl) (by rfl) (by rfl) (by kernel_rfl) (Nat.le_of_ble_eq_true rfl) (by rfl) (by rfl) ?_; intro wf hz_ hg_ hs_; have HF := Lib.hid hz_; have HBF := Lib.hid (Stb.below_grown1 HB2.out hg_ (Nat.le_add_right _ 1) HB2.out.size); clear hz_ hg_ hs_)))
    refine bodyPost_ret (results_ct rfl _ _ (w.heap.size + 1) 28 (firstM k m p d) (0, 0) _ rfl HF.out Try.underlying28 rfl (by kernel_rfl)) rfl ?_
    exact ⟨rfl, HBF.out⟩
end Go.Proofs.Ytfikaekocgofoaa.AtS
/- Many changes, one behind the other: atlas.Fold. -/
set_option linter.unusedSimpArgs false
namespace Go.Proofs.Ytfikaekocgofoaa.AtF
open Go Go.RowKit Go.Proofs.YtfikaekocgofoaaW.PrintWords Go.Proofs.YtfikaekocgofoaaW.PrintLast Go.Proofs.YtfikaekocgofoaaW.PrintMore Mem PAll KW AtA AtB Sl Dsc MayP ApP Fnd PlF Roo Awk McW ApY ApZ ApW AtK AtV AtX AtD AtC AtP Ins AtQ AtR AtS
open CrP hiding Od
abbrev kE : Kd Int := Kd.int .i64
theorem infoE : (Try.prog.info? 30).map (fun i => (i.zero, i.size, i.bytes)) = some (some (.int .i64 0), kE.sz, 8) := by kernel_rfl
/-- Two rows of one's own that share nothing: the map's, and what was told. -/
structure Two (w : World) (base a b : Nat) (u : Value) (l : List Od) (v : Value) (es : List Int) : Prop where
  row : kO.R 37 w base (fun k => (k ≠ a ∧ k ≠ b) ∧ some k ≠ v.ownBlock) u l
  told : kE.R 30 w base (fun k => (k ≠ a ∧ k ≠ b) ∧ some k ≠ u.ownBlock) v es
theorem Two.below {w w1 : World} {base a b : Nat} {u v : Value} {l : List Od} {es : List Int} (h : Two w base a b u l v es) (hb : Below w.heap.size w w1) : Two w1 base a b u l v es := ⟨Kd.R_below h.row hb, Kd.R_below h.told hb⟩
theorem Two.set {w w1 : World} {base a b g : Nat} {u v : Value} {l : List Od} {es : List Int} (h : Two w base a b u l v es) (hg : w.grownBy w1 (some g)) (he : g = a ∨ g = b) : Two w1 base a b u l v es :=
  ⟨Kd.R_grown h.row hg (fun k hk e => by have e2 : k = g := Option.some.inj e; rcases he with he | he; exact hk.1.1 (e2.trans he); exact hk.1.2 (e2.trans he)), Kd.R_grown h.told hg (fun k hk e => by have e2 : k = g := Option.some.inj e; rcases he with he | he; exact hk.1.1 (e2.trans he); exact hk.1.2 (e2.trans he))⟩
theorem Two.more {w w1 : World} {base a b : Nat} {u v v1 : Value} {l : List Od} {es es' : List Int} (h : Two w base a b u l v es) (hg : w.grownBy w1 v.ownBlock) (hat : v1.ownBlock = v.ownBlock ∨ ∃ k, v1.ownBlock = some k ∧ w.heap.size ≤ k) (hv : kE.R 30 w1 base (fun k => (k ≠ a ∧ k ≠ b) ∧ some k ≠ u.ownBlock) v1 es') : Two w1 base a b u l v1 es' :=
  ⟨Kd.R_after h.row hg hat, hv⟩
/-- The map's row is another one, made since. -/
theorem Two.turn {w w1 : World} {base a b : Nat} {u u1 v : Value} {l l1 : List Od} {es : List Int} (h : Two w base a b u l v es) (hb : Below w.heap.size w w1) (ha : a < w.heap.size) (hbb : b < w.heap.size) (hbase : base ≤ w.heap.size) (hr : kO.R 37 w1 w.heap.size (fun _ => True) u1 l1) : Two w1 base a b u1 l1 v es := by
  have hlt := Kd.R_lt h.told
  refine ⟨Kd.R_lower (Kd.R_mono (Kd.R_bound hr) (fun k hk => ⟨⟨by omega, by omega⟩, fun e => by have := hlt k e.symm; omega⟩)) hbase, Kd.R_mono (Kd.R_below (Kd.R_bound h.told) hb) (fun k hk => ⟨hk.1.1, fun e => ?_⟩)⟩
  have h1 := Kd.R_base hr k e.symm
  have := hk.2.2.1
  omega
theorem Two.fresh {w : World} {base a b : Nat} {u v : Value} {l : List Od} {es : List Int} (h : Two w base a b u l v es) (ha : a < w.heap.size) (hb : b < w.heap.size) : ∀ k, w.heap.size ≤ k → ((k ≠ a ∧ k ≠ b) ∧ some k ≠ u.ownBlock) :=
  fun k hk => ⟨⟨by omega, by omega⟩, fun e => by have := Kd.R_lt h.row k e.symm; omega⟩
set_option maxHeartbeats 8000000 in
set_option maxRecDepth 100000 in
theorem fold_ok (k m p d : Int) (A : Option Addr) (cc : Nat) (cs : List Chg) (w : World) (hx : kC.C w A cs.length cs) (hl : cs.length ≤ 300) (hp : poolB k m p d = true) : Calls Try.prog 9 #[.agg #[.int .i64 k, .int .i64 m, .int .i64 p, .int .i64 d], .slice A cs.length cc] w fun e w' => ∃ (ep : Int) (l : List Od) (es : List Int) (A' : Option Addr) (c' : Nat) (v : Value), e = .returned (.tuple #[.agg (boxM ep k m p d A' c' l), v, .int .i64 0]) ∧ Stp k m p d cs ep l es ∧ kO.R 37 w' w.heap.size (fun _ => True) (.slice A' l.length c') l ∧ kE.R 30 w' w.heap.size (fun _ => True) v es ∧ Below w.heap.size w w' := by
  have hs1 : (w.alloc (.cells #[.int .i64 k, .int .i64 m, .int .i64 p, .int .i64 d] 23)).heap.size = w.heap.size + 1 := by simp only [World.alloc, Array.size_push]
  have hs2 : ((w.alloc (.cells #[.int .i64 k, .int .i64 m, .int .i64 p, .int .i64 d] 23)).alloc (.cells zM 28)).heap.size = w.heap.size + 2 := by simp only [World.alloc, Array.size_push]
  have HP1 : Hid (((w.alloc (.cells #[.int .i64 k, .int .i64 m, .int .i64 p, .int .i64 d] 23)).alloc (.cells zM 28)).heap[w.heap.size]? = some (.cells #[.int .i64 k, .int .i64 m, .int .i64 p, .int .i64 d] 23 (0, 0))) := Lib.hid (blk_below (blk_new _ _) (below_alloc (Below.refl _ _) _))
  have HR1 : Hid (((w.alloc (.cells #[.int .i64 k, .int .i64 m, .int .i64 p, .int .i64 d] 23)).alloc (.cells zM 28)).heap[w.heap.size + 1]? = some (.cells zM 28 (0, 0))) := Lib.hid (by
    have h := blk_new (w.alloc (.cells #[.int .i64 k, .int .i64 m, .int .i64 p, .int .i64 d] 23)) (.cells zM 28)
    rw [hs1] at h
    exact h)
  have HB1 := Lib.hid (below_alloc (below_alloc (Below.refl w.heap.size w) (.cells #[.int .i64 k, .int .i64 m, .int .i64 p, .int .i64 d] 23)) (.cells zM 28))
  have HC1 := Lib.hid (Kd.C_below hx HB1.out)
  obtain ⟨w1, hw1⟩ : ∃ w1, w1 = ((w.alloc (.cells #[.int .i64 k, .int .i64 m, .int .i64 p, .int .i64 d] 23)).alloc (.cells zM 28)) := ⟨_, rfl⟩
  have HWN := Lib.hid hw1
  rw [← hw1] at HP1 HR1 HB1 HC1 hs2
  have HSZ := Lib.hid hs2
  have HL := Lib.hid hl
  have HC0 := Lib.hid hx
  have T := Lib.hid (new_calls k m p d w1)
  have c0 := blk_cell HP1.out 0
  have c1 := blk_cell HP1.out 1
  have c2 := blk_cell HP1.out 2
  have c3 := blk_cell HP1.out 3
  rw [HWN.out] at c0 c1 c2 c3
  rw [hp] at T
  simp only [if_true] at T
  have HPB := Lib.hid hp
  clear hx hl hw1 hs1 hs2 hp
  go_enter Try.func9, Try.ntmps9
  go_wp2_with fail
  rw [← HWN.out]
  refine T.out.mono ?_
  rintro e w2 ⟨rfl, hb⟩
  have HB2 := Lib.hid (below_then HB1.out HB1.out.size hb)
  have HR2 := Lib.hid (blk_below HR1.out hb)
  have HC2 := Lib.hid (Kd.C_below HC1.out hb)
  have HS2 : Hid (w.heap.size + 2 ≤ w2.heap.size) := Lib.hid (by have := HSZ.out; have := hb.size; omega)
  clear hb c0 c1 c2 c3 T HP1 HR1 HB1 HC1 HWN HSZ
  unfold firstM
  have HM3 : Hid ((w2.alloc (.cells (firstM k m p d) 28)).heap[w2.heap.size]? = some (.cells (firstM k m p d) 28 (0, 0))) := Lib.hid (blk_new _ _)
  have HR3 := Lib.hid (blk_alloc HR2.out (.cells (firstM k m p d) 28))
  have HB3 := Lib.hid (below_alloc HB2.out (.cells (firstM k m p d) 28))
  have HC3 := Lib.hid (Kd.C_alloc HC2.out (.cells (firstM k m p d) 28))
  obtain ⟨w3, hw3⟩ : ∃ w3, w3 = w2.alloc (.cells (firstM k m p d) 28) := ⟨_, rfl⟩
  obtain ⟨g7, hg7⟩ : ∃ g7, g7 = w2.heap.size := ⟨_, rfl⟩
  have HW3 := Lib.hid hw3
  have HG7 : Hid (w.heap.size + 2 ≤ g7) := Lib.hid (by rw [hg7]; exact HS2.out)
  have hg7' := Lib.hid hg7
  rw [← hw3] at HM3 HR3 HB3 HC3
  rw [← hg7] at HM3
  have HT3 : Hid (Two w3 w.heap.size (w.heap.size + 1) g7 (.slice none 0 0) [] (.slice none 0 0) []) := Lib.hid ⟨Kd.R_nil _ _ _ _ _, Kd.R_nil _ _ _ _ _⟩
  clear hw3 hg7 HR2 HB2 HC2 HS2
  go_wp2_with fail
  unfold firstM at HM3 HW3
  rw [← HW3.out, ← hg7'.out]
  clear HW3 hg7'
  go_loopw [9, 25] (fun v9 i' wr => ∃ (n : Nat) (ep : Int) (l : List Od) (es : List Int) (A1 : Option Addr) (c1 : Nat), i' = .int .i64 n ∧ Hid (n ≤ cs.length) ∧ Hid (Stp k m p d (cs.take n) ep l es) ∧ Hid (wr.heap[g7]? = some (.cells #[.int .i64 ep, .int .i64 k, .int .i64 m, .int .i64 p, .int .i64 d, .slice A1 l.length c1] 28 (0, 0))) ∧ Hid (Two wr w.heap.size (w.heap.size + 1) g7 (.slice A1 l.length c1) l v9 es) ∧ Hid (wr.heap[w.heap.size + 1]? = some (.cells zM 28 (0, 0))) ∧ Hid (Below w.heap.size w wr)) (fun _ i' _ => (cs.length - intOf i').toNat)
  case atStart => exact ⟨0, 0, [], [], none, 0, rfl, Lib.hid (Nat.zero_le _), Lib.hid Stp.nil, HM3, HT3, HR3, HB3⟩
  case round =>
    obtain ⟨n, ep, l, es, A1, c1, rfl, HNL, HST, HM, HT, HR, HB⟩ := hrel
    have hn := HNL.out
    have hl3 := HL.out
    by_cases h : n < cs.length
    · have hlt : decide (n < cs.length) = true := decide_eq_true h
      have hltI : decide ((n : Int) < (cs.length : Int)) = true := decide_eq_true (by omega)
      have i0 : (0 : Int) ≤ n := by omega
      have i1 : (n : Int) < cs.length := by omega
      have i2 : n < 300 := by omega
      have i3 : (n : Int) < 300 := by omega
      have HNI := Lib.hid h
      obtain ⟨ac, c, hc, hA, b0, b1, b2, b3, b4, b5, b6, b7, b8⟩ := at_C (Kd.C_below HC0.out HB.out) n h
      subst hA
      have HTK : Hid (cs.take (n + 1) = cs.take n ++ [c]) := Lib.hid (by obtain ⟨q1, q2⟩ := List.getElem?_eq_some_iff.1 hc; rw [List.take_succ_eq_append_getElem q1, q2])
      have HMB : Hid (mayB ep k m p d l = true) := Lib.hid (steps_may HST.out HPB.out)
      have HEP := Lib.hid (may_ep01 HMB.out)
      have HEL : Hid (es.length ≤ n) := Lib.hid (by rw [steps_len HST.out]; have := List.length_take_le n cs; omega)
      clear hc hn h
      obtain ⟨wv, hwv⟩ : ∃ wv, wv = wr.alloc (.cells #[.int .i64 c.kd, .int .i64 c.o.f0, .bool c.o.f1, .bool c.o.f2, .int .i64 c.o.f3, .int .i64 c.o.f4, .int .i64 c.o.f5, .int .i64 c.o.f6, .int .i64 c.o.f7] 39) := ⟨_, rfl⟩
      have HBA := Lib.hid (below_alloc (Below.refl wr.heap.size wr) (.cells #[.int .i64 c.kd, .int .i64 c.o.f0, .bool c.o.f1, .bool c.o.f2, .int .i64 c.o.f3, .int .i64 c.o.f4, .int .i64 c.o.f5, .int .i64 c.o.f6, .int .i64 c.o.f7] 39))
      have HCV : Hid ((wr.alloc (.cells #[.int .i64 c.kd, .int .i64 c.o.f0, .bool c.o.f1, .bool c.o.f2, .int .i64 c.o.f3, .int .i64 c.o.f4, .int .i64 c.o.f5, .int .i64 c.o.f6, .int .i64 c.o.f7] 39)).heap[wr.heap.size]? = some (.cells #[.int .i64 c.kd, .int .i64 c.o.f0, .bool c.o.f1, .bool c.o.f2, .int .i64 c.o.f3, .int .i64 c.o.f4, .int .i64 c.o.f5, .int .i64 c.o.f6, .int .i64 c.o.f7] 39 (0, 0))) := Lib.hid (blk_new _ _)
      have HBV := Lib.hid (below_alloc HB.out (.cells #[.int .i64 c.kd, .int .i64 c.o.f0, .bool c.o.f1, .bool c.o.f2, .int .i64 c.o.f3, .int .i64 c.o.f4, .int .i64 c.o.f5, .int .i64 c.o.f6, .int .i64 c.o.f7] 39))
      have HMV := Lib.hid (blk_alloc HM.out (.cells #[.int .i64 c.kd, .int .i64 c.o.f0, .bool c.o.f1, .bool c.o.f2, .int .i64 c.o.f3, .int .i64 c.o.f4, .int .i64 c.o.f5, .int .i64 c.o.f6, .int .i64 c.o.f7] 39))
      have HRV := Lib.hid (blk_alloc HR.out (.cells #[.int .i64 c.kd, .int .i64 c.o.f0, .bool c.o.f1, .bool c.o.f2, .int .i64 c.o.f3, .int .i64 c.o.f4, .int .i64 c.o.f5, .int .i64 c.o.f6, .int .i64 c.o.f7] 39))
      have HTV := Lib.hid (HT.out.below HBA.out)
      have HGL : Hid (g7 < wr.heap.size) := Lib.hid (blk_lt HM.out)
      have HRL : Hid (w.heap.size + 1 < wr.heap.size) := Lib.hid (blk_lt HR.out)
      have HWV := Lib.hid hwv
      rw [← hwv] at HBA HCV HBV HMV HRV HTV
      have TA := Lib.hid (aapply_calls ep k m p d A1 c1 l c.kd c.o wv (Kd.R_reads' HTV.out.row).2.2 (wf_may HMB.out))
      unfold boxM chA at TA
      clear hwv HB HM HR HT
      have m0 := blk_cell HMV.out 0
      have m1 := blk_cell HMV.out 1
      have m2 := blk_cell HMV.out 2
      have m3 := blk_cell HMV.out 3
      have m4 := blk_cell HMV.out 4
      have m5 := blk_cell HMV.out 5
      have e0 := blk_cell HCV.out 0
      have e1 := blk_cell HCV.out 1
      have e2 := blk_cell HCV.out 2
      have e3 := blk_cell HCV.out 3
      have e4 := blk_cell HCV.out 4
      have e5 := blk_cell HCV.out 5
      have e6 := blk_cell HCV.out 6
      have e7 := blk_cell HCV.out 7
      have e8 := blk_cell HCV.out 8
      rw [HWV.out] at m0 m1 m2 m3 m4 m5 e0 e1 e2 e3 e4 e5 e6 e7 e8
      go_wp2_with fail
      rw [← HWV.out]
      refine TA.out.mono ?_
      rintro e w4 ⟨er, l', ha, hb, hres⟩
      have HAN := Lib.hid ha
      have HB4 := Lib.hid (below_then HBV.out HBV.out.size hb)
      have HM4 := Lib.hid (blk_below HMV.out hb)
      have HR4 := Lib.hid (blk_below HRV.out hb)
      have HT4 := Lib.hid (HTV.out.below hb)
      have HGL4 : Hid (g7 < w4.heap.size) := Lib.hid (blk_lt HM4.out)
      have HRL4 : Hid (w.heap.size + 1 < w4.heap.size) := Lib.hid (blk_lt HR4.out)
      have HGV : Hid (g7 < wv.heap.size ∧ w.heap.size + 1 < wv.heap.size) := Lib.hid ⟨blk_lt HMV.out, blk_lt HRV.out⟩
      have HBW := Lib.hid hb
      clear ha hb m0 m1 m2 m3 m4 m5 e0 e1 e2 e3 e4 e5 e6 e7 e8 TA HMV HRV HCV b0 b1 b2 b3 b4 b5 b6 b7 b8
      rcases hres with ⟨hne, rfl⟩ | ⟨rfl, A2, c2, rfl, hr2⟩
      · have q1 : (er == 0) = false := by simpa using hne
        have q2 : decide (er = 0) = false := decide_eq_false hne
        have HST2 : Hid (Stp k m p d (cs.take (n + 1)) ep l (es ++ [er])) := Lib.hid (by rw [HTK.out]; exact Stp.no HST.out HAN.out hne)
        clear hne
        have HB5 := Lib.hid (below_alloc HB4.out (.cells zM 28))
        have HM5 := Lib.hid (blk_alloc HM4.out (.cells zM 28))
        have HR5 := Lib.hid (blk_alloc HR4.out (.cells zM 28))
        have HT5 := Lib.hid (HT4.out.below (below_alloc (Below.refl _ _) (.cells zM 28)))
        obtain ⟨w5, hw5⟩ : ∃ w5, w5 = w4.alloc (.cells zM 28) := ⟨_, rfl⟩
        have HW5 := Lib.hid hw5
        rw [← hw5] at HB5 HM5 HR5 HT5
        have HGL5 : Hid (g7 < w5.heap.size) := Lib.hid (blk_lt HM5.out)
        have HRL5 : Hid (w.heap.size + 1 < w5.heap.size) := Lib.hid (blk_lt HR5.out)
        have HAT : Hid ((∀ v9 : Value, Two w5 w.heap.size (w.heap.size + 1) g7 (.slice A1 l.length c1) l v9 es → some g7 ≠ v9.ownBlock ∧ some (w.heap.size + 1) ≠ v9.ownBlock)) := Lib.hid (fun v9 hT => ⟨fun e => (hT.told.1 _ e.symm).1.2 rfl, fun e => (hT.told.1 _ e.symm).1.1 rfl⟩)
        clear HB4 HM4 HR4 HT4 HW5
        subst hw5
        have HATX : Hid (some g7 ≠ Value.ownBlock u9 ∧ some (w.heap.size + 1) ≠ Value.ownBlock u9) := Lib.hid ⟨fun e => (HT5.out.told.1 _ e.symm).1.2 rfl, fun e => (HT5.out.told.1 _ e.symm).1.1 rfl⟩
        go_wp2_with (first | (at_builtin; go_must (refine Kd.R_append kE (w0 := w) w.heap.size rfl _ _ 29 30 (.int .i64 0) 8 rfl Try.underlying29 infoE rfl (by decide) (by decide) _ _ er [.int .i64 er] (fun k => (k ≠ w.heap.size + 1 ∧ k ≠ g7) ∧ some k ≠ (Value.slice A1 l.length c1).ownBlock) (fun _ => False) rfl (by first | rfl | (simp only [World.alloc, Array.size_push]; rfl)) rfl (fun _ hk => hk.elim) (HT5.out.fresh HRL5.out HGL5.out) (by exact HT5.out.told) (by exact HB5.out) (by exact HB5.out.size) ?hl ?_; (case hl => have h1 := HNL.out; have h2 := HL.out; have h3 := HEL.out; omega); intro v12 w12 ho hb hg hat; have HT12 := Lib.hid (HT5.out.more hg hat ho); have HB12 := Lib.hid hb; have HM12 := Lib.hid (blk_grown HM5.out hg ((by have h1 := HATX.out; exact h1.1))); have HR12 := Lib.hid (blk_grown HR5.out hg ((by have h1 := HATX.out; exact h1.2))); clear ho hb hg hat)))
        go_roundw
        case rel => exact ⟨n + 1, _, _, _, _, _, by go_num, Lib.hid (by have := HNI.out; omega), Lib.hid HST2.out, HM12, HT12, HR12, HB12⟩
        case measure => have := HNI.out; simp only [intOf]; omega
      · have HST2 : Hid (Stp k m p d (cs.take (n + 1)) (ep + 1) l' (es ++ [0])) := Lib.hid (by rw [HTK.out]; exact Stp.ok HST.out HAN.out)
        have HT5a := Lib.hid (HTV.out.turn HBW.out HGV.out.2 HGV.out.1 HBV.out.size hr2)
        clear hr2
        have HBN := Lib.hid (below_alloc (Below.refl w4.heap.size w4) (.cells #[.int .i64 (ep + 1), .int .i64 k, .int .i64 m, .int .i64 p, .int .i64 d, .slice A2 l'.length c2] 28))
        have HB5 := Lib.hid (below_alloc HB4.out (.cells #[.int .i64 (ep + 1), .int .i64 k, .int .i64 m, .int .i64 p, .int .i64 d, .slice A2 l'.length c2] 28))
        have HM5 := Lib.hid (blk_alloc HM4.out (.cells #[.int .i64 (ep + 1), .int .i64 k, .int .i64 m, .int .i64 p, .int .i64 d, .slice A2 l'.length c2] 28))
        have HR5 := Lib.hid (blk_alloc HR4.out (.cells #[.int .i64 (ep + 1), .int .i64 k, .int .i64 m, .int .i64 p, .int .i64 d, .slice A2 l'.length c2] 28))
        have HN5 : Hid ((w4.alloc (.cells #[.int .i64 (ep + 1), .int .i64 k, .int .i64 m, .int .i64 p, .int .i64 d, .slice A2 l'.length c2] 28)).heap[w4.heap.size]? = some (.cells #[.int .i64 (ep + 1), .int .i64 k, .int .i64 m, .int .i64 p, .int .i64 d, .slice A2 l'.length c2] 28 (0, 0))) := Lib.hid (blk_new _ _)
        have HT5 := Lib.hid (HT5a.out.below HBN.out)
        obtain ⟨w5, hw5⟩ : ∃ w5, w5 = w4.alloc (.cells #[.int .i64 (ep + 1), .int .i64 k, .int .i64 m, .int .i64 p, .int .i64 d, .slice A2 l'.length c2] 28) := ⟨_, rfl⟩
        have HW5 := Lib.hid hw5
        rw [← hw5] at HB5 HM5 HR5 HN5 HT5
        have m0 := blk_cell HN5.out 0
        have m1 := blk_cell HN5.out 1
        have m2 := blk_cell HN5.out 2
        have m3 := blk_cell HN5.out 3
        have m4 := blk_cell HN5.out 4
        have m5 := blk_cell HN5.out 5
        clear HB4 HM4 HR4 HT4 HT5a HBN HW5
        subst hw5
        unfold boxM
        have HATX : Hid (some g7 ≠ Value.ownBlock u9 ∧ some (w.heap.size + 1) ≠ Value.ownBlock u9) := Lib.hid ⟨fun e => (HT5.out.told.1 _ e.symm).1.2 rfl, fun e => (HT5.out.told.1 _ e.symm).1.1 rfl⟩
        go_wp2_with (first | (refine gate_ (.store 28 (.tmp 7) (.tmp 37)) rfl ?_; go_must (refine Stb.store_list rfl rfl 28 (.tmp 7) (.tmp 37) rfl (cur' := #[.int .i64 (ep + 1), .int .i64 k, .int .i64 m, .int .i64 p, .int .i64 d, .slice A2 l'.length c2]) [.int .i64 (ep + 1), .int .i64 k, .int .i64 m, .int .i64 p, .int .i64 d, .slice A2 l'.length c2] (by exact HM5.out) (by rfl) (by rfl) (by rfl) (by kernel_rfl) (Nat.le_of_ble_eq_true rfl) (by rfl) (by rfl) ?_; intro w6 hz_ hg_ hs_; have HM6 := Lib.hid hz_; have HR6 := Lib.hid (blk_grown HR5.out hg_ (fun e => by injection e with e; have := HG7.out; omega)); have HT6 := Lib.hid (HT5.out.set hg_ (.inr rfl)); have HB6 := Lib.hid (Stb.below_grown1 HB5.out hg_ (Nat.le_of_succ_le (Nat.le_of_succ_le HG7.out)) HB5.out.size); have HGL6 : Hid (g7 < w6.heap.size) := Lib.hid (blk_lt hz_); have HRL6 : Hid (w.heap.size + 1 < w6.heap.size) := Lib.hid (blk_lt HR6.out); clear hz_ hg_ hs_)) | (at_builtin; go_must (refine Kd.R_append kE (w0 := w) w.heap.size rfl _ _ 29 30 (.int .i64 0) 8 rfl Try.underlying29 infoE rfl (by decide) (by decide) _ _ 0 [.int .i64 0] (fun k => (k ≠ w.heap.size + 1 ∧ k ≠ g7) ∧ some k ≠ (Value.slice A2 l'.length c2).ownBlock) (fun _ => False) rfl (by first | rfl | (simp only [World.alloc, Array.size_push]; rfl)) rfl (fun _ hk => hk.elim) (HT6.out.fresh HRL6.out HGL6.out) (by exact HT6.out.told) (by exact HB6.out) (by exact HB6.out.size) ?hl ?_; (case hl => have h1 := HNL.out; have h2 := HL.out; have h3 := HEL.out; omega); intro v12 w12 ho hb hg hat; have HT12 := Lib.hid (HT6.out.more hg hat ho); have HB12 := Lib.hid hb; have HM12 := Lib.hid (blk_grown HM6.out hg ((by have h1 := HATX.out; exact h1.1))); have HR12 := Lib.hid (blk_grown HR6.out hg ((by have h1 := HATX.out; exact h1.2))); clear ho hb hg hat)))
        go_roundw
        case rel => exact ⟨n + 1, _, _, _, _, _, by go_num, Lib.hid (by have := HNI.out; omega), Lib.hid HST2.out, HM12, HT12, HR12, HB12⟩
        case measure => have := HNI.out; simp only [intOf]; omega
    · obtain rfl : n = cs.length := by omega
      have hlt : decide (cs.length < cs.length) = false := decide_eq_false (Nat.lt_irrefl _)
      have hltI : decide ((cs.length : Int) < (cs.length : Int)) = false := decide_eq_false (Int.lt_irrefl _)
      clear h hn
      rw [List.take_of_length_le (Nat.le_refl _)] at HST
      have m0 := blk_cell HM.out 0
      have m1 := blk_cell HM.out 1
      have m2 := blk_cell HM.out 2
      have m3 := blk_cell HM.out 3
      have m4 := blk_cell HM.out 4
      have m5 := blk_cell HM.out 5
      go_wp2_with (first | (refine gate_ (.store 28 (.tmp 4) (.tmp 43)) rfl ?_; go_must (refine Stb.store_list rfl rfl 28 (.tmp 4) (.tmp 43) rfl (cur' := #[.int .i64 ep, .int .i64 k, .int .i64 m, .int .i64 p, .int .i64 d, .slice A1 l.length c1]) [.int .i64 ep, .int .i64 k, .int .i64 m, .int .i64 p, .int .i64 d, .slice A1 l.length c1] (by exact HR.out) (by rfl) (by rfl) (by rfl) (by kernel_rfl) (Nat.le_of_ble_eq_true rfl) (by rfl) (by rfl) ?_; intro wf hz_ hg_ hs_; have HF := Lib.hid hz_; have HBF := Lib.hid (Stb.below_grown1 HB.out hg_ (Nat.le_add_right _ 1) HB.out.size); have HTF := Lib.hid (HT.out.set hg_ (.inl rfl)); clear hz_ hg_ hs_)))
      obtain ⟨A9, c9, hv9⟩ := Kd.R_slice HTF.out.told
      subst hv9
      refine bodyPost_ret (results_ctt rfl _ _ (w.heap.size + 1) 28 #[.int .i64 ep, .int .i64 k, .int .i64 m, .int .i64 p, .int .i64 d, .slice A1 l.length c1] (0, 0) _ rfl HF.out Try.underlying28 rfl (by kernel_rfl)) rfl ?_
      exact ⟨ep, l, es, A1, c1, _, rfl, HST.out, Kd.R_mono HTF.out.row (fun _ _ => trivial), Kd.R_mono HTF.out.told (fun _ _ => trivial), HBF.out⟩
end Go.Proofs.Ytfikaekocgofoaa.AtF
/- The law's fixed question of layer 13. -/
set_option linter.unusedSimpArgs false
namespace Go.Proofs.Ytfikaekocgofoaa.AtW
open Go Go.RowKit Go.Proofs.YtfikaekocgofoaaW.PrintWords Go.Proofs.YtfikaekocgofoaaW.PrintLast Go.Proofs.YtfikaekocgofoaaW.PrintMore Mem PAll KW AtA AtB Sl Dsc MayP ApP Fnd PlF Roo Awk McW ApY ApZ ApW AtK AtV AtX AtD AtC AtP Ins AtQ AtR AtS AtF
open CrP hiding Od
def oA : Od := ⟨3, false, false, 0, 0, 0, 0, 0⟩
def oB : Od := ⟨3, false, false, 0, 7, 1, 0, 0⟩
def oC : Od := ⟨9, false, false, 0, 0, 0, 0, 0⟩
def oU : Od := ⟨3, true, false, 0, 7, 1, 0, 0⟩
def threeC : List Chg := [⟨1, oA⟩, ⟨2, oB⟩, ⟨3, oC⟩]
theorem pool_yes : poolB 2 1 4 0 = true := by decide
theorem good_0 : goodB [] = true := goodB_yes (fun _ _ hi _ => absurd hi (Nat.not_lt_zero _))
theorem good_1 {o : Od} (h : osdB o = true) : goodB [o] = true := goodB_yes (fun i q hi hq => by
  obtain rfl : i = 0 := by simp at hi; omega
  obtain rfl : o = q := by simpa using hq
  exact ⟨h, fun j _ hj => absurd hj (Nat.not_lt_zero _)⟩)
theorem may_0 : mayB 0 2 1 4 0 [] = true := by unfold mayB; rw [good_0]; decide
theorem may_1 : mayB 1 2 1 4 0 [oA] = true := by unfold mayB; rw [good_1 (by decide)]; decide
theorem ans_1 : Ans 0 2 1 4 0 [] 1 oA 0 [oA] := by
  have hb : (mayB 0 2 1 4 0 [] && (mayC 1 oA && !((0 : Int) == 1048576))) = true := by rw [may_0]; decide
  refine .inr (.inl ⟨hb, rfl, ?_⟩)
  unfold applyR
  rw [if_neg (by rw [hb]; decide), if_pos rfl, if_neg (by decide), if_neg (by decide)]
  rw [show insA oA [] = [oA] from rfl, show (0 : Int) + 1 = 1 from rfl, if_pos may_1]
theorem ans_2 : Ans 1 2 1 4 0 [oA] 2 oB 0 [oU] := by
  have hb : (mayB 1 2 1 4 0 [oA] && (mayC 2 oB && !((1 : Int) == 1048576))) = true := by rw [may_1]; decide
  exact .inr (.inr ⟨hb, by decide,   .inr ⟨0, oA, rfl, rfl, .inr ⟨by decide, rfl, rfl⟩⟩⟩)
theorem ans_3 : Ans 2 2 1 4 0 [oU] 3 oC 4 [] := by
  have hb : (mayB 2 2 1 4 0 [oU] && (mayC 3 oC && !((2 : Int) == 1048576))) = true := by rw [show mayB 2 2 1 4 0 [oU] = true from ans_may ans_2]; decide
  exact .inr (.inr ⟨hb, by decide, .inl ⟨rfl, rfl⟩⟩)
theorem three_steps : Stp 2 1 4 0 threeC 2 [oU] [0, 0, 4] :=
  Stp.no (cs := [⟨1, oA⟩, ⟨2, oB⟩]) (es := [0, 0]) (Stp.ok (cs := [⟨1, oA⟩]) (es := [0]) (Stp.ok (cs := []) (es := []) Stp.nil ans_1) ans_2) ans_3 (by decide)
theorem three_C {w : World} {g : Nat} (h : w.heap[g]? = some (.cells #[.int .i64 1, .int .i64 3, .bool false, .bool false, .int .i64 0, .int .i64 0, .int .i64 0, .int .i64 0, .int .i64 0, .int .i64 2, .int .i64 3, .bool false, .bool false, .int .i64 0, .int .i64 7, .int .i64 1, .int .i64 0, .int .i64 0, .int .i64 3, .int .i64 9, .bool false, .bool false, .int .i64 0, .int .i64 0, .int .i64 0, .int .i64 0, .int .i64 0] 39 (0, 0))) : kC.C w (some ⟨g, 0, none⟩) threeC.length threeC := by
  refine ⟨rfl, by show 3 ≤ 9223372036854775807; decide, fun _ => ⟨_, rfl, fun j p hj => ?_⟩⟩
  have mk : ∀ c : Chg, kC.K w c (chA c.kd c.o).toList := fun c => ⟨[.int .i64 c.kd], (aggO c.o).toList, rfl, rfl, k37_mkM w 0 (fun _ => True) c.o⟩
  have fin : ∀ (b : Nat) (cs : List Value), cs.length = 9 → (∀ i u, cs[i]? = some u → (#[.int .i64 1, .int .i64 3, .bool false, .bool false, .int .i64 0, .int .i64 0, .int .i64 0, .int .i64 0, .int .i64 0, .int .i64 2, .int .i64 3, .bool false, .bool false, .int .i64 0, .int .i64 7, .int .i64 1, .int .i64 0, .int .i64 0, .int .i64 3, .int .i64 9, .bool false, .bool false, .int .i64 0, .int .i64 0, .int .i64 0, .int .i64 0, .int .i64 0] : Array Value)[b + i]? = some u) → ∀ i u, cs[i]? = some u → w.cell? ((⟨g, 0, none⟩ : Addr).add (b + i)) = some u := by
    intro b cs _ hc i u hu
    rw [add_plain, blk_cell h]
    exact hc i u hu
  match j, hj with
  | 0, hj =>
    obtain rfl := Option.some.inj hj
    exact ⟨_, rfl, mk ⟨1, oA⟩, fin 0 _ rfl (by intro i u hu; match i, hu with | 0, hu => exact hu | 1, hu => exact hu | 2, hu => exact hu | 3, hu => exact hu | 4, hu => exact hu | 5, hu => exact hu | 6, hu => exact hu | 7, hu => exact hu | 8, hu => exact hu | i + 9, hu => cases hu)⟩
  | 1, hj =>
    obtain rfl := Option.some.inj hj
    exact ⟨_, rfl, mk ⟨2, oB⟩, fin 9 _ rfl (by intro i u hu; match i, hu with | 0, hu => exact hu | 1, hu => exact hu | 2, hu => exact hu | 3, hu => exact hu | 4, hu => exact hu | 5, hu => exact hu | 6, hu => exact hu | 7, hu => exact hu | 8, hu => exact hu | i + 9, hu => cases hu)⟩
  | 2, hj =>
    obtain rfl := Option.some.inj hj
    exact ⟨_, rfl, mk ⟨3, oC⟩, fin 18 _ rfl (by intro i u hu; match i, hu with | 0, hu => exact hu | 1, hu => exact hu | 2, hu => exact hu | 3, hu => exact hu | 4, hu => exact hu | 5, hu => exact hu | 6, hu => exact hu | 7, hu => exact hu | 8, hu => exact hu | i + 9, hu => cases hu)⟩
  | j + 3, hj => cases hj
theorem cells_E {w : World} {g n c base : Nat} {ok : Nat → Prop} {xs : List Int} (h : kE.R 30 w base ok (.slice (some ⟨g, 0, none⟩) n c) xs) : ∀ j, j < xs.length → w.cell? ⟨g, j, none⟩ = some (.int .i64 (xs.getD j 0)) := by
  intro j hj
  obtain ⟨hn, _, hC⟩ := Kd.R_reads' h
  have hr : ReadsOf (Value.int .i64) (0 : Int) w (some ⟨g, 0, none⟩) xs.length xs := Kd.reads_of_C hC
  obtain ⟨ad, e, hc⟩ := hr.2.2 (by omega)
  injection e with e
  subst e
  have h2 := hc j hj
  rw [show (⟨g, 0, none⟩ : Addr).add j = ⟨g, j, none⟩ by unfold Addr.add; split <;> simp_all] at h2
  exact h2
set_option maxHeartbeats 8000000 in
set_option maxRecDepth 100000 in
theorem awake13_calls (w : World) : Calls Try.prog 8 #[] w fun e w' => e = .returned (.bool true) ∧ Below w.heap.size w w' := by
  have HB1 := Lib.hid (below_alloc (Below.refl w.heap.size w) (.cells #[.int .i64 1, .int .i64 3, .bool false, .bool false, .int .i64 0, .int .i64 0, .int .i64 0, .int .i64 0, .int .i64 0, .int .i64 2, .int .i64 3, .bool false, .bool false, .int .i64 0, .int .i64 7, .int .i64 1, .int .i64 0, .int .i64 0, .int .i64 3, .int .i64 9, .bool false, .bool false, .int .i64 0, .int .i64 0, .int .i64 0, .int .i64 0, .int .i64 0] 39))
  have T := Lib.hid (fold_ok 2 1 4 0 (some ⟨w.heap.size, 0, none⟩) 3 threeC (w.alloc (.cells #[.int .i64 1, .int .i64 3, .bool false, .bool false, .int .i64 0, .int .i64 0, .int .i64 0, .int .i64 0, .int .i64 0, .int .i64 2, .int .i64 3, .bool false, .bool false, .int .i64 0, .int .i64 7, .int .i64 1, .int .i64 0, .int .i64 0, .int .i64 3, .int .i64 9, .bool false, .bool false, .int .i64 0, .int .i64 0, .int .i64 0, .int .i64 0, .int .i64 0] 39)) (three_C (blk_new _ _)) (by decide) pool_yes)
  have e3 : threeC.length = 3 := rfl
  rw [e3] at T
  clear e3
  go_enter Try.func8, Try.ntmps8
  go_wp2_with fail
  refine T.out.mono ?_
  rintro e w2 ⟨ep, l, es, A', c', v, rfl, hs, hr, ht, hb⟩
  obtain ⟨rfl, rfl, rfl⟩ := steps_one hs three_steps
  have HB2 := Lib.hid (below_then HB1.out HB1.out.size hb)
  obtain ⟨gt, ct, rfl, _⟩ := Kd.R_form ht (by decide)
  have x2 : w2.cell? ⟨gt, 2, none⟩ = some (.int .i64 4) := cells_E ht 2 (by decide)
  have HX := Lib.hid x2
  have HC2 := Lib.hid (Kd.R_reads' hr).2.2
  clear hs hr ht hb T x2 HB1
  unfold boxM
  simp only [List.length_cons, List.length_nil, Nat.zero_add, Nat.reduceAdd]
  have HM3 : Hid ((w2.alloc (.cells #[.int .i64 2, .int .i64 2, .int .i64 1, .int .i64 4, .int .i64 0, .slice A' 1 c'] 28)).heap[w2.heap.size]? = some (.cells #[.int .i64 2, .int .i64 2, .int .i64 1, .int .i64 4, .int .i64 0, .slice A' 1 c'] 28 (0, 0))) := Lib.hid (blk_new _ _)
  have HB3 := Lib.hid (below_alloc HB2.out (.cells #[.int .i64 2, .int .i64 2, .int .i64 1, .int .i64 4, .int .i64 0, .slice A' 1 c'] 28))
  have TF := Lib.hid (aFind_calls 2 2 1 4 0 A' c' [oU] 3 _ (Kd.C_alloc HC2.out (.cells #[.int .i64 2, .int .i64 2, .int .i64 1, .int .i64 4, .int .i64 0, .slice A' 1 c'] 28)))
  rw [show descV (findO [oU] 3) = .tuple #[.agg #[.int .i64 3, .bool true, .bool false, .int .i64 0, .int .i64 7, .int .i64 1, .int .i64 0, .int .i64 0], .bool true] from rfl] at TF
  unfold boxM at TF
  have m0 := blk_cell HM3.out 0
  have m1 := blk_cell HM3.out 1
  have m2 := blk_cell HM3.out 2
  have m3 := blk_cell HM3.out 3
  have m4 := blk_cell HM3.out 4
  have m5 := blk_cell HM3.out 5
  go_wp2_with fail
  refine TF.out.mono ?_
  rintro e w4 ⟨rfl, hb⟩
  have HB4 := Lib.hid (below_then HB3.out HB3.out.size hb)
  have HM4 := Lib.hid (blk_below HM3.out hb)
  have HX4 := Lib.hid (pw_cell_below hb (cell_alloc HX.out (.cells #[.int .i64 2, .int .i64 2, .int .i64 1, .int .i64 4, .int .i64 0, .slice A' 1 c'] 28)))
  clear hb m0 m1 m2 m3 m4 m5 TF HB3 HM3 HX
  have HB5 := Lib.hid (below_alloc HB4.out (.cells #[.int .i64 3, .bool true, .bool false, .int .i64 0, .int .i64 7, .int .i64 1, .int .i64 0, .int .i64 0] 37))
  have HO5 : Hid ((w4.alloc (.cells #[.int .i64 3, .bool true, .bool false, .int .i64 0, .int .i64 7, .int .i64 1, .int .i64 0, .int .i64 0] 37)).heap[w4.heap.size]? = some (.cells #[.int .i64 3, .bool true, .bool false, .int .i64 0, .int .i64 7, .int .i64 1, .int .i64 0, .int .i64 0] 37 (0, 0))) := Lib.hid (blk_new _ _)
  have m0 := blk_cell (blk_alloc HM4.out (.cells #[.int .i64 3, .bool true, .bool false, .int .i64 0, .int .i64 7, .int .i64 1, .int .i64 0, .int .i64 0] 37)) 0
  have x2 := cell_alloc HX4.out (.cells #[.int .i64 3, .bool true, .bool false, .int .i64 0, .int .i64 7, .int .i64 1, .int .i64 0, .int .i64 0] 37)
  have y1 := blk_cell HO5.out 1
  have y4 := blk_cell HO5.out 4
  go_wp2_with fail
  go_ret
  exact ⟨rfl, HB5.out⟩
end Go.Proofs.Ytfikaekocgofoaa.AtW
/- Are maps alike? Both answers. -/
set_option linter.unusedSimpArgs false
namespace Go.Proofs.Ytfikaekocgofoaa.AtE
open Go Go.RowKit Go.Proofs.YtfikaekocgofoaaW.PrintWords Go.Proofs.YtfikaekocgofoaaW.PrintLast Go.Proofs.YtfikaekocgofoaaW.PrintMore Mem PAll KW AtA AtB Sl Dsc MayP ApP Fnd PlF Roo Awk McW ApY ApZ ApW AtK AtV AtX AtD AtC AtP Ins AtQ AtR AtS AtF AtW
open CrP hiding Od
theorem cond_eq (a b : Od) : (!(a.f0 == b.f0) || (!(a.f1 == b.f1) || (!(a.f2 == b.f2) || (!(a.f3 == b.f3) || (!(a.f4 == b.f4) || (!(a.f5 == b.f5) || (!(a.f6 == b.f6) || (!(a.f7 == b.f7))))))))) = !(eqO a b) := by
  unfold eqO
  simp only [Bool.not_and]
theorem eqO_iff' {a b : Od} : eqO a b = true ↔ a = b := by
  unfold eqO
  cases a
  cases b
  simp only [Bool.and_eq_true, beq_iff_eq, S37.mk.injEq]
instance : DecidableEq Od := fun a b => decidable_of_iff (eqO a b = true) eqO_iff'
theorem rd_get {l : List Od} {i : Nat} (h : i < l.length) : rd_T37 l (i : Int) = l[i] := by
  unfold rd_T37
  rw [Int.toNat_natCast, List.getD_eq_getElem?_getD, List.getElem?_eq_getElem h]
  rfl
theorem drop_eq {l l' : List Od} {i : Nat} (h : i < l.length) (h' : i < l'.length) : decide (l.drop i = l'.drop i) = (eqO l[i] l'[i] && decide (l.drop (i + 1) = l'.drop (i + 1))) := by
  rw [List.drop_eq_getElem_cons h, List.drop_eq_getElem_cons h', Bool.eq_iff_iff]
  simp only [Bool.and_eq_true, decide_eq_true_eq, List.cons.injEq, eqO_iff']
theorem wrap_succ {i n : Nat} (h : i < n) (hn : n ≤ 9223372036854775807) : wrap64 ((i : Int) + 1) = ((i + 1 : Nat) : Int) := by
  unfold wrap64
  omega
theorem rsame_l0 (e k m p d e' k' m' p' d' : Int) (l l' : List Od) (hlen : l.length = l'.length) (hm : l.length ≤ 9223372036854775807) : ∀ (r i : Nat), i + r = l.length → ∃ K, mooringref13_Same.l0 K (i : Int) e k m p d l e' k' m' p' d' l' = some (decide (l.drop i = l'.drop i)) := by
  intro r
  induction r with
  | zero =>
    intro i hi
    refine ⟨1, ?_⟩
    simp only [mooringref13_Same.l0]
    rw [if_neg (by omega), List.drop_eq_nil_of_le (by omega), List.drop_eq_nil_of_le (by omega)]
    simp
  | succ r ih =>
    intro i hi
    obtain ⟨K, hK⟩ := ih (i + 1) (by omega)
    have h1 : i < l.length := by omega
    have h2 : i < l'.length := by omega
    refine ⟨K + 1, ?_⟩
    simp only [mooringref13_Same.l0]
    rw [if_pos (by omega), if_pos (by omega), if_pos (by omega), rd_get h1, rd_get h2, cond_eq, drop_eq h1 h2, wrap_succ h1 hm]
    cases hq : eqO l[i] l'[i]
    · rfl
    · rw [if_neg (by decide), hK]
      rfl
theorem asame_l0 (l l' : List Od) (hlen : l.length = l'.length) (hm : l.length ≤ 9223372036854775807) : ∀ (r i : Nat), i + r = l.length → ∃ K, api_Osd.l0 K l l' (l.length : Int) (i : Int) = some (decide (l.drop i = l'.drop i)) := by
  intro r
  induction r with
  | zero =>
    intro i hi
    refine ⟨1, ?_⟩
    simp only [api_Osd.l0]
    rw [if_neg (by omega), List.drop_eq_nil_of_le (by omega), List.drop_eq_nil_of_le (by omega)]
    simp
  | succ r ih =>
    intro i hi
    obtain ⟨K, hK⟩ := ih (i + 1) (by omega)
    have h1 : i < l.length := by omega
    have h2 : i < l'.length := by omega
    refine ⟨K + 1, ?_⟩
    simp only [api_Osd.l0]
    rw [if_pos (by omega), if_pos (by omega), if_pos (by omega), if_pos (by omega), rd_get h1, rd_get h2, cond_eq, drop_eq h1 h2, wrap_succ h1 hm]
    cases hq : eqO l[i] l'[i]
    · rfl
    · rw [if_neg (by decide), hK]
      rfl
def sameB (e k m p d : Int) (l : List Od) (e' k' m' p' d' : Int) (l' : List Od) : Bool := (e == e' && (k == k' && (m == m' && (p == p' && d == d')))) && decide (l = l')
theorem same_self (e k m p d : Int) (l : List Od) : sameB e k m p d l e k m p d l = true := by unfold sameB; simp
theorem rsame_f (e k m p d e' k' m' p' d' : Int) (l l' : List Od) (hm : l.length ≤ 9223372036854775807) : ∃ K, mooringref13_Same.f K e k m p d l e' k' m' p' d' l' = some (sameB e k m p d l e' k' m' p' d' l') := by
  by_cases he : e = e'
  · have q1 : (e == e') = true := by simpa using he
    cases hp : (k == k' && (m == m' && (p == p' && d == d'))) with
    | false =>
      refine ⟨1, ?_⟩
      unfold mooringref13_Same.f sameB
      rw [if_pos he, q1, hp, if_pos (by rw [show (!(k == k') || (!(m == m') || (!(p == p') || !(d == d')))) = !(k == k' && (m == m' && (p == p' && d == d'))) by simp only [Bool.not_and], hp]; rfl)]
      rfl
    | true =>
      by_cases hl : l.length = l'.length
      · obtain ⟨K, hK⟩ := rsame_l0 e k m p d e' k' m' p' d' l l' hl hm l.length 0 (by omega)
        refine ⟨K + 1, ?_⟩
        unfold mooringref13_Same.f sameB
        rw [if_pos he, q1, hp, if_neg (by rw [show (!(k == k') || (!(m == m') || (!(p == p') || !(d == d')))) = !(k == k' && (m == m' && (p == p' && d == d'))) by simp only [Bool.not_and], hp]; decide)]
        simp only [mooringref13_Same.j0]
        rw [if_neg (by simp [hl])]
        rw [List.drop_zero, List.drop_zero] at hK
        exact hK
      · refine ⟨1, ?_⟩
        unfold mooringref13_Same.f sameB
        rw [if_pos he, q1, hp, if_neg (by rw [show (!(k == k') || (!(m == m') || (!(p == p') || !(d == d')))) = !(k == k' && (m == m' && (p == p' && d == d'))) by simp only [Bool.not_and], hp]; decide)]
        simp only [mooringref13_Same.j0]
        have hb : ((l.length : Int) != (l'.length : Int)) = true := by simp; omega
        rw [if_pos hb, decide_eq_false (fun h => hl (congrArg List.length h))]
        rfl
  · refine ⟨1, ?_⟩
    unfold mooringref13_Same.f sameB
    have q1 : (e == e') = false := by simpa using he
    rw [if_neg he, q1]
    rfl
theorem asame_f (e k m p d e' k' m' p' d' : Int) (l l' : List Od) (hm : l.length ≤ 9223372036854775807) : ∃ K, atlas_Same.f K e k m p d l e' k' m' p' d' l' = some (sameB e k m p d l e' k' m' p' d' l') := by
  by_cases he : e = e'
  · have q1 : (e == e') = true := by simpa using he
    cases hp : (k == k' && (m == m' && (p == p' && d == d'))) with
    | false =>
      refine ⟨1, ?_⟩
      unfold atlas_Same.f sameB
      rw [if_pos he, q1, hp, if_neg (by decide)]
      rfl
    | true =>
      by_cases hl : l.length = l'.length
      · obtain ⟨K, hK⟩ := asame_l0 l l' hl hm l.length 0 (by omega)
        refine ⟨K, ?_⟩
        unfold atlas_Same.f sameB
        rw [if_pos he, q1, hp, if_pos rfl]
        unfold api_Osd.f
        rw [List.drop_zero, List.drop_zero] at hK
        rw [if_pos (by omega)]
        have e0 : ((0 : Nat) : Int) = 0 := rfl
        rw [e0] at hK
        rw [hK]
        rfl
      · refine ⟨1, ?_⟩
        unfold atlas_Same.f sameB
        rw [if_pos he, q1, hp, if_pos rfl]
        unfold api_Osd.f
        rw [if_neg (by omega), decide_eq_false (fun h => hl (congrArg List.length h))]
        rfl
  · refine ⟨1, ?_⟩
    unfold atlas_Same.f sameB
    have q1 : (e == e') = false := by simpa using he
    rw [if_neg he, q1]
    rfl
section
variable (e k m p d : Int) (A : Option Addr) (c : Nat) (l : List Od) (e' k' m' p' d' : Int) (A' : Option Addr) (c' : Nat) (l' : List Od) (w : World)
theorem rsame_calls (hx : kO.C w A l.length l) (hc : l.length ≤ c) (hx' : kO.C w A' l'.length l') (hc' : l'.length ≤ c') : Calls Try.prog 12 #[.agg (boxM e k m p d A c l), .agg (boxM e' k' m' p' d' A' c' l')] w fun en w' => en = .returned (.bool (sameB e k m p d l e' k' m' p' d' l')) ∧ Below w.heap.size w w' := by
  obtain ⟨K, hK⟩ := rsame_f e k m p d e' k' m' p' d' l l' hx.2.1
  exact mooringref13_Same.calls K e k m p d A c l e' k' m' p' d' A' c' l' _ w hx hc hx' hc' hK
theorem asame_calls (hx : kO.C w A l.length l) (hc : l.length ≤ c) (hx' : kO.C w A' l'.length l') (hc' : l'.length ≤ c') : Calls Try.prog 14 #[.agg (boxM e k m p d A c l), .agg (boxM e' k' m' p' d' A' c' l')] w fun en w' => en = .returned (.bool (sameB e k m p d l e' k' m' p' d' l')) ∧ Below w.heap.size w w' := by
  obtain ⟨K, hK⟩ := asame_f e k m p d e' k' m' p' d' l l' hx.2.1
  exact atlas_Same.calls K e k m p d A c l e' k' m' p' d' A' c' l' _ w hx hc hx' hc' hK
end
end Go.Proofs.Ytfikaekocgofoaa.AtE
/- AtlasApplies: what the row asks for. -/
set_option linter.unusedSimpArgs false
namespace Go.Proofs.Ytfikaekocgofoaa.LaA
open Go Go.RowKit Go.Proofs.YtfikaekocgofoaaW.PrintWords Go.Proofs.YtfikaekocgofoaaW.PrintLast Go.Proofs.YtfikaekocgofoaaW.PrintMore Mem PAll KW AtA AtB Sl Dsc MayP ApP Fnd PlF Roo Awk McW ApY ApZ ApW AtK AtV AtX AtD AtC AtP Ins AtQ AtR AtS AtF AtW AtE
open CrP hiding Od
/-- What is answered, in one shape. -/
def Val (ep k m p d er E K1 M1 P1 D1 : Int) (l' L1 : List Od) : Prop := (er ≠ 0 ∧ E = 0 ∧ K1 = 0 ∧ M1 = 0 ∧ P1 = 0 ∧ D1 = 0 ∧ L1 = []) ∨ (er = 0 ∧ E = ep + 1 ∧ K1 = k ∧ M1 = m ∧ P1 = p ∧ D1 = d ∧ L1 = l')
theorem told_uni {ep k m p d : Int} {l : List Od} {kd : Int} {o : Od} {w w' : World} {e : Ending} (h : AtR.Told ep k m p d l kd o w e w') : ∃ (er : Int) (l' : List Od) (E K1 M1 P1 D1 : Int) (L1 : List Od) (A' : Option Addr) (c' : Nat), Ans ep k m p d l kd o er l' ∧ Val ep k m p d er E K1 M1 P1 D1 l' L1 ∧ e = .returned (.tuple #[.agg (boxM E K1 M1 P1 D1 A' c' L1), .int .i64 er]) ∧ L1.length ≤ c' ∧ kO.C w' A' L1.length L1 ∧ Below w.heap.size w w' := by
  obtain ⟨er, l', ha, hb, ⟨hne, rfl⟩ | ⟨rfl, A', c', rfl, hr⟩⟩ := h
  · exact ⟨er, l', 0, 0, 0, 0, 0, [], none, 0, ha, .inl ⟨hne, rfl, rfl, rfl, rfl, rfl, rfl⟩, rfl, Nat.le_refl _, Kd.C_nil _ _, hb⟩
  · exact ⟨0, l', ep + 1, k, m, p, d, l', A', c', ha, .inr ⟨rfl, rfl, rfl, rfl, rfl, rfl, rfl⟩, rfl, (Kd.R_reads' hr).2.1, (Kd.R_reads' hr).2.2, hb⟩
theorem val_one {ep k m p d er E K1 M1 P1 D1 E2 K2 M2 P2 D2 : Int} {l' L1 l2 L2 : List Od} (h : Val ep k m p d er E K1 M1 P1 D1 l' L1) (h2 : Val ep k m p d er E2 K2 M2 P2 D2 l2 L2) (hl : er = 0 → l' = l2) : E = E2 ∧ K1 = K2 ∧ M1 = M2 ∧ P1 = P2 ∧ D1 = D2 ∧ L1 = L2 := by
  rcases h with ⟨hn, rfl, rfl, rfl, rfl, rfl, rfl⟩ | ⟨h0, rfl, rfl, rfl, rfl, rfl, rfl⟩ <;> rcases h2 with ⟨hn2, rfl, rfl, rfl, rfl, rfl, rfl⟩ | ⟨h02, rfl, rfl, rfl, rfl, rfl, rfl⟩
  · exact ⟨rfl, rfl, rfl, rfl, rfl, rfl⟩
  · exact absurd h02 hn
  · exact absurd h0 hn2
  · exact ⟨rfl, rfl, rfl, rfl, rfl, hl h0⟩
set_option maxHeartbeats 8000000 in
set_option maxRecDepth 100000 in
theorem applies_calls (ep k m p d : Int) (A : Option Addr) (c : Nat) (l : List Od) (kd : Int) (o : Od) (w : World) (hx : kO.C w A l.length l) (hcap : l.length ≤ c) (hwf : WfL l) (hby : l.length * 56 ≤ reachBytes) :
    Calls Try.prog 4 #[.agg (boxM ep k m p d A c l), .agg (chA kd o)] w fun e w' => e = .returned (.bool true) ∧ Below w.heap.size w w' := by
  have hs1 : (w.alloc (.cells (boxM ep k m p d A c l) 28)).heap.size = w.heap.size + 1 := by simp only [World.alloc, Array.size_push]
  have hs2 : ((w.alloc (.cells (boxM ep k m p d A c l) 28)).alloc (.cells (chA kd o) 39)).heap.size = w.heap.size + 2 := by simp only [World.alloc, Array.size_push]
  have hs3 : (((w.alloc (.cells (boxM ep k m p d A c l) 28)).alloc (.cells (chA kd o) 39)).alloc (.cells (boxM ep k m p d A c l) 28)).heap.size = w.heap.size + 3 := by simp only [World.alloc, Array.size_push]
  have HM1 : Hid (((((w.alloc (.cells (boxM ep k m p d A c l) 28)).alloc (.cells (chA kd o) 39)).alloc (.cells (boxM ep k m p d A c l) 28)).alloc (.cells #[] 37)).heap[w.heap.size]? = some (.cells (boxM ep k m p d A c l) 28 (0, 0))) := Lib.hid (blk_below (blk_new _ _) (below_alloc (below_alloc (below_alloc (Below.refl _ _) _) _) _))
  have HG1 : Hid (((((w.alloc (.cells (boxM ep k m p d A c l) 28)).alloc (.cells (chA kd o) 39)).alloc (.cells (boxM ep k m p d A c l) 28)).alloc (.cells #[] 37)).heap[w.heap.size + 1]? = some (.cells (chA kd o) 39 (0, 0))) := Lib.hid (by
    have h := blk_new (w.alloc (.cells (boxM ep k m p d A c l) 28)) (.cells (chA kd o) 39)
    rw [hs1] at h
    exact blk_below h (below_alloc (below_alloc (Below.refl _ _) _) _))
  have HO1 : Hid (((((w.alloc (.cells (boxM ep k m p d A c l) 28)).alloc (.cells (chA kd o) 39)).alloc (.cells (boxM ep k m p d A c l) 28)).alloc (.cells #[] 37)).heap[w.heap.size + 2]? = some (.cells (boxM ep k m p d A c l) 28 (0, 0))) := Lib.hid (by
    have h := blk_new ((w.alloc (.cells (boxM ep k m p d A c l) 28)).alloc (.cells (chA kd o) 39)) (.cells (boxM ep k m p d A c l) 28)
    rw [hs2] at h
    exact blk_below h (below_alloc (Below.refl _ _) _))
  have HE1 : Hid (kO.R 37 ((((w.alloc (.cells (boxM ep k m p d A c l) 28)).alloc (.cells (chA kd o) 39)).alloc (.cells (boxM ep k m p d A c l) 28)).alloc (.cells #[] 37)) (w.heap.size + 3) (fun k => k ≠ w.heap.size + 2) (.slice (some ⟨w.heap.size + 3, 0, none⟩) 0 0) []) := Lib.hid (by
    have h : kO.R 37 ((((w.alloc (.cells (boxM ep k m p d A c l) 28)).alloc (.cells (chA kd o) 39)).alloc (.cells (boxM ep k m p d A c l) 28)).alloc (.cells #[] 37)) (((w.alloc (.cells (boxM ep k m p d A c l) 28)).alloc (.cells (chA kd o) 39)).alloc (.cells (boxM ep k m p d A c l) 28)).heap.size (fun k => k ≠ w.heap.size + 2) (.slice (some ⟨(((w.alloc (.cells (boxM ep k m p d A c l) 28)).alloc (.cells (chA kd o) 39)).alloc (.cells (boxM ep k m p d A c l) 28)).heap.size, 0, none⟩) 0 0) [] := ⟨fun b hk => by injection hk with hk; have e : (((w.alloc (.cells (boxM ep k m p d A c l) 28)).alloc (.cells (chA kd o) 39)).alloc (.cells (boxM ep k m p d A c l) 28)).heap.size = b := hk; omega, OwnRow.lit (((w.alloc (.cells (boxM ep k m p d A c l) 28)).alloc (.cells (chA kd o) 39)).alloc (.cells (boxM ep k m p d A c l) 28)) (((w.alloc (.cells (boxM ep k m p d A c l) 28)).alloc (.cells (chA kd o) 39)).alloc (.cells (boxM ep k m p d A c l) 28)).heap.size (ps := []) (inner := []) (Reps.none _ _) (Nat.le_refl _) (Nat.zero_le _)⟩
    rw [hs3] at h
    exact h)
  have HB1 := Lib.hid (below_alloc (below_alloc (below_alloc (below_alloc (Below.refl w.heap.size w) (.cells (boxM ep k m p d A c l) 28)) (.cells (chA kd o) 39)) (.cells (boxM ep k m p d A c l) 28)) (.cells #[] 37))
  have HC1 := Lib.hid (Kd.C_below hx HB1.out)
  have hs4 : ((((w.alloc (.cells (boxM ep k m p d A c l) 28)).alloc (.cells (chA kd o) 39)).alloc (.cells (boxM ep k m p d A c l) 28)).alloc (.cells #[] 37)).heap.size = w.heap.size + 4 := by simp only [World.alloc, Array.size_push]
  have HBY : Hid (l.length * 56 ≤ 140737488351232) := Lib.hid hby
  have HWF := Lib.hid hwf
  have HCAP := Lib.hid hcap
  have HSZ := Lib.hid hs4
  have HC0 := Lib.hid hx
  have HLM : Hid (l.length ≤ 9223372036854775807) := Lib.hid hx.2.1
  clear hx hwf hby hcap hs1 hs2 hs3 hs4
  unfold boxM chA at *
  have m0 := blk_cell HM1.out 0
  have m1 := blk_cell HM1.out 1
  have m2 := blk_cell HM1.out 2
  have m3 := blk_cell HM1.out 3
  have m4 := blk_cell HM1.out 4
  have m5 := blk_cell HM1.out 5
  have c0 := blk_cell HG1.out 0
  have c1 := blk_cell HG1.out 1
  have c2 := blk_cell HG1.out 2
  have c3 := blk_cell HG1.out 3
  have c4 := blk_cell HG1.out 4
  have c5 := blk_cell HG1.out 5
  have c6 := blk_cell HG1.out 6
  have c7 := blk_cell HG1.out 7
  have c8 := blk_cell HG1.out 8
  go_enter Try.func4, Try.ntmps4
  have n0 := blk_cell (blk_new w (.cells #[.int .i64 ep, .int .i64 k, .int .i64 m, .int .i64 p, .int .i64 d, .slice A l.length c] 28)) 0
  have n1 := blk_cell (blk_new w (.cells #[.int .i64 ep, .int .i64 k, .int .i64 m, .int .i64 p, .int .i64 d, .slice A l.length c] 28)) 1
  have n2 := blk_cell (blk_new w (.cells #[.int .i64 ep, .int .i64 k, .int .i64 m, .int .i64 p, .int .i64 d, .slice A l.length c] 28)) 2
  have n3 := blk_cell (blk_new w (.cells #[.int .i64 ep, .int .i64 k, .int .i64 m, .int .i64 p, .int .i64 d, .slice A l.length c] 28)) 3
  have n4 := blk_cell (blk_new w (.cells #[.int .i64 ep, .int .i64 k, .int .i64 m, .int .i64 p, .int .i64 d, .slice A l.length c] 28)) 4
  have n5 := blk_cell (blk_new w (.cells #[.int .i64 ep, .int .i64 k, .int .i64 m, .int .i64 p, .int .i64 d, .slice A l.length c] 28)) 5
  have k0 := cell_alloc n0 (.cells #[.int .i64 kd, .int .i64 o.f0, .bool o.f1, .bool o.f2, .int .i64 o.f3, .int .i64 o.f4, .int .i64 o.f5, .int .i64 o.f6, .int .i64 o.f7] 39)
  have k1 := cell_alloc n1 (.cells #[.int .i64 kd, .int .i64 o.f0, .bool o.f1, .bool o.f2, .int .i64 o.f3, .int .i64 o.f4, .int .i64 o.f5, .int .i64 o.f6, .int .i64 o.f7] 39)
  have k2 := cell_alloc n2 (.cells #[.int .i64 kd, .int .i64 o.f0, .bool o.f1, .bool o.f2, .int .i64 o.f3, .int .i64 o.f4, .int .i64 o.f5, .int .i64 o.f6, .int .i64 o.f7] 39)
  have k3 := cell_alloc n3 (.cells #[.int .i64 kd, .int .i64 o.f0, .bool o.f1, .bool o.f2, .int .i64 o.f3, .int .i64 o.f4, .int .i64 o.f5, .int .i64 o.f6, .int .i64 o.f7] 39)
  have k4 := cell_alloc n4 (.cells #[.int .i64 kd, .int .i64 o.f0, .bool o.f1, .bool o.f2, .int .i64 o.f3, .int .i64 o.f4, .int .i64 o.f5, .int .i64 o.f6, .int .i64 o.f7] 39)
  have k5 := cell_alloc n5 (.cells #[.int .i64 kd, .int .i64 o.f0, .bool o.f1, .bool o.f2, .int .i64 o.f3, .int .i64 o.f4, .int .i64 o.f5, .int .i64 o.f6, .int .i64 o.f7] 39)
  clear n0 n1 n2 n3 n4 n5
  go_wp2_with (first | (at_builtin; go_must (refine Kd.R_append_rows kO (w.heap.size + 3) rfl _ _ 26 37 (.agg #[.int .i64 0, .bool false, .bool false, .int .i64 0, .int .i64 0, .int .i64 0, .int .i64 0, .int .i64 0]) 56 rfl Try.underlying26 infoO rfl (by decide) (by decide) (.slice (some ⟨w.heap.size + 3, 0, none⟩) 0 0) [] l A l.length c (fun k => k ≠ w.heap.size + 2) (fun _ => False) (by rfl) rfl (by exact HE1.out) (by exact HC1.out) (fun y cs hk => by rw [k37_open hk]; exact k37_mkM _ _ _ y) (fun _ hk => hk.elim) (fun k hk => by have := HSZ.out; omega) ((Below.refl _ _)) (by have := HSZ.out; omega) ?hl ?_; (case hl => have := HBY.out; simp only [List.length_nil]; omega); intro v14 w2 ho hb hg hat; rw [List.nil_append] at ho; obtain ⟨A7, cp7, rfl⟩ := Kd.R_slice ho; have HR2 := Lib.hid ho; have HM2 := Lib.hid (blk_grown HM1.out hg (fun e => by injection e with e; have e2 : w.heap.size = w.heap.size + 3 := e; omega)); have HG2 := Lib.hid (blk_grown HG1.out hg (fun e => by injection e with e; have e2 : w.heap.size + 1 = w.heap.size + 3 := e; omega)); have HO2 := Lib.hid (blk_grown HO1.out hg (fun e => by injection e with e; have e2 : w.heap.size + 2 = w.heap.size + 3 := e; omega)); have HB2 := Lib.hid (HB1.out.grown hg HB1.out.size (fun b hk => by injection hk with hk; have e2 : w.heap.size + 3 = b := hk; omega)); clear ho hb hg hat HM1 HG1 HO1 HB1 HE1)) | (refine gate_ (.store 26 (.tmp 15) (.tmp 14)) rfl ?_; go_must (refine Stb.store_list rfl rfl 26 (.tmp 15) (.tmp 14) rfl (cur' := #[.int .i64 ep, .int .i64 k, .int .i64 m, .int .i64 p, .int .i64 d, .slice A7 l.length cp7]) [.slice A7 l.length cp7] (by exact HO2.out) (by rfl) (by rfl) (by rfl) (by kernel_rfl) (Nat.le_of_ble_eq_true rfl) (by rfl) (by rfl) ?_; intro w5 hz_ hg_ hs_; have HO5 := Lib.hid hz_; have HM5 := Lib.hid (blk_grown HM2.out hg_ (fun e => by injection e with e; omega)); have HG5 := Lib.hid (blk_grown HG2.out hg_ (fun e => by injection e with e; omega)); have HB5 := Lib.hid (Stb.below_grown1 HB2.out hg_ (Nat.le_add_right _ 2) HB2.out.size); have HR5 := Lib.hid (Kd.R_grown HR2.out hg_ (fun k hk e => hk (Option.some.inj e))); have o0 := blk_cell HO5.out 0; have o1 := blk_cell HO5.out 1; have o2 := blk_cell HO5.out 2; have o3 := blk_cell HO5.out 3; have o4 := blk_cell HO5.out 4; have o5 := blk_cell HO5.out 5; have e0 := blk_cell HG5.out 0; have e1 := blk_cell HG5.out 1; have e2 := blk_cell HG5.out 2; have e3 := blk_cell HG5.out 3; have e4 := blk_cell HG5.out 4; have e5 := blk_cell HG5.out 5; have e6 := blk_cell HG5.out 6; have e7 := blk_cell HG5.out 7; have e8 := blk_cell HG5.out 8; clear HM2 HG2 HO2 HB2 HR2 m0 m1 m2 m3 m4 m5 c0 c1 c2 c3 c4 c5 c6 c7 c8 k0 k1 k2 k3 k4 k5; clear hz_ hg_ hs_)))
  have TA := aapply_calls ep k m p d A7 cp7 l kd o w5 (Kd.R_reads' HR5.out).2.2 HWF.out
  unfold boxM chA at TA
  refine TA.mono ?_
  clear TA
  rintro e w6 ht
  obtain ⟨er, la, E, K1, M1, P1, D1, L1, A1, c1, ha, hv, rfl, hc1, hC1, hb⟩ := told_uni ht
  have HAN := Lib.hid ha
  have HVA := Lib.hid hv
  have HCA := Lib.hid hc1
  have HB7 := Lib.hid (below_alloc (below_then HB5.out HB5.out.size hb) (.cells #[.int .i64 E, .int .i64 K1, .int .i64 M1, .int .i64 P1, .int .i64 D1, .slice A1 L1.length c1] 28))
  have HM7 := Lib.hid (blk_alloc (blk_below HM5.out hb) (.cells #[.int .i64 E, .int .i64 K1, .int .i64 M1, .int .i64 P1, .int .i64 D1, .slice A1 L1.length c1] 28))
  have HG7 := Lib.hid (blk_alloc (blk_below HG5.out hb) (.cells #[.int .i64 E, .int .i64 K1, .int .i64 M1, .int .i64 P1, .int .i64 D1, .slice A1 L1.length c1] 28))
  have HO7 := Lib.hid (blk_alloc (blk_below HO5.out hb) (.cells #[.int .i64 E, .int .i64 K1, .int .i64 M1, .int .i64 P1, .int .i64 D1, .slice A1 L1.length c1] 28))
  have HA7 : Hid ((w6.alloc (.cells #[.int .i64 E, .int .i64 K1, .int .i64 M1, .int .i64 P1, .int .i64 D1, .slice A1 L1.length c1] 28)).heap[w6.heap.size]? = some (.cells #[.int .i64 E, .int .i64 K1, .int .i64 M1, .int .i64 P1, .int .i64 D1, .slice A1 L1.length c1] 28 (0, 0))) := Lib.hid (blk_new _ _)
  have HCL7 := Lib.hid (Kd.C_alloc hC1 (.cells #[.int .i64 E, .int .i64 K1, .int .i64 M1, .int .i64 P1, .int .i64 D1, .slice A1 L1.length c1] 28))
  have HRO7 := Lib.hid (Kd.R_alloc (Kd.R_below HR5.out hb) (.cells #[.int .i64 E, .int .i64 K1, .int .i64 M1, .int .i64 P1, .int .i64 D1, .slice A1 L1.length c1] 28))
  clear ha hv hc1 hC1 hb ht o0 o1 o2 o3 o4 o5 e0 e1 e2 e3 e4 e5 e6 e7 e8 HB5 HM5 HG5 HO5 HR5
  unfold boxM
  have TB := Lib.hid (rapply_calls ep k m p d A c l kd o (w6.alloc (.cells #[.int .i64 E, .int .i64 K1, .int .i64 M1, .int .i64 P1, .int .i64 D1, .slice A1 L1.length c1] 28)) (Kd.C_below HC0.out HB7.out) HCAP.out)
  unfold boxM chA at TB
  have m0 := blk_cell HM7.out 0
  have m1 := blk_cell HM7.out 1
  have m2 := blk_cell HM7.out 2
  have m3 := blk_cell HM7.out 3
  have m4 := blk_cell HM7.out 4
  have m5 := blk_cell HM7.out 5
  have e0 := blk_cell HG7.out 0
  have e1 := blk_cell HG7.out 1
  have e2 := blk_cell HG7.out 2
  have e3 := blk_cell HG7.out 3
  have e4 := blk_cell HG7.out 4
  have e5 := blk_cell HG7.out 5
  have e6 := blk_cell HG7.out 6
  have e7 := blk_cell HG7.out 7
  have e8 := blk_cell HG7.out 8
  go_wp2_with fail
  refine TB.out.mono ?_
  clear TB
  rintro e w8 ht
  obtain ⟨er2, lb, E2, K2, M2, P2, D2, L2, A2, c2, hb2, hv2, rfl, hc2, hC2, hb⟩ := told_uni ht
  obtain ⟨rfl, hll⟩ := ans_one HAN.out hb2
  obtain ⟨rfl, rfl, rfl, rfl, rfl, rfl⟩ := val_one HVA.out hv2 hll
  have HB9 := Lib.hid (below_alloc (below_then HB7.out HB7.out.size hb) (.cells #[.int .i64 E, .int .i64 K1, .int .i64 M1, .int .i64 P1, .int .i64 D1, .slice A2 L1.length c2] 28))
  have HM9 := Lib.hid (blk_alloc (blk_below HM7.out hb) (.cells #[.int .i64 E, .int .i64 K1, .int .i64 M1, .int .i64 P1, .int .i64 D1, .slice A2 L1.length c2] 28))
  have HO9 := Lib.hid (blk_alloc (blk_below HO7.out hb) (.cells #[.int .i64 E, .int .i64 K1, .int .i64 M1, .int .i64 P1, .int .i64 D1, .slice A2 L1.length c2] 28))
  have HA9 := Lib.hid (blk_alloc (blk_below HA7.out hb) (.cells #[.int .i64 E, .int .i64 K1, .int .i64 M1, .int .i64 P1, .int .i64 D1, .slice A2 L1.length c2] 28))
  have HD9 : Hid ((w8.alloc (.cells #[.int .i64 E, .int .i64 K1, .int .i64 M1, .int .i64 P1, .int .i64 D1, .slice A2 L1.length c2] 28)).heap[w8.heap.size]? = some (.cells #[.int .i64 E, .int .i64 K1, .int .i64 M1, .int .i64 P1, .int .i64 D1, .slice A2 L1.length c2] 28 (0, 0))) := Lib.hid (blk_new _ _)
  have HCA9 := Lib.hid (Kd.C_alloc (Kd.C_below HCL7.out hb) (.cells #[.int .i64 E, .int .i64 K1, .int .i64 M1, .int .i64 P1, .int .i64 D1, .slice A2 L1.length c2] 28))
  have HCB9 := Lib.hid (Kd.C_alloc hC2 (.cells #[.int .i64 E, .int .i64 K1, .int .i64 M1, .int .i64 P1, .int .i64 D1, .slice A2 L1.length c2] 28))
  have HRO9 := Lib.hid (Kd.R_alloc (Kd.R_below HRO7.out hb) (.cells #[.int .i64 E, .int .i64 K1, .int .i64 M1, .int .i64 P1, .int .i64 D1, .slice A2 L1.length c2] 28))
  have HCB := Lib.hid hc2
  clear hb2 hv2 hll hc2 hC2 hb ht m0 m1 m2 m3 m4 m5 e0 e1 e2 e3 e4 e5 e6 e7 e8 HB7 HM7 HO7 HA7 HCL7 HRO7 HG7
  unfold boxM
  have T1 := rsame_calls E K1 M1 P1 D1 A1 c1 L1 E K1 M1 P1 D1 A2 c2 L1 _ HCA9.out HCA.out HCB9.out HCB.out
  rw [same_self] at T1
  have HT1 := Lib.hid T1
  unfold boxM at HT1
  clear T1
  have a0 := blk_cell HA9.out 0
  have a1 := blk_cell HA9.out 1
  have a2 := blk_cell HA9.out 2
  have a3 := blk_cell HA9.out 3
  have a4 := blk_cell HA9.out 4
  have a5 := blk_cell HA9.out 5
  have b0 := blk_cell HD9.out 0
  have b1 := blk_cell HD9.out 1
  have b2 := blk_cell HD9.out 2
  have b3 := blk_cell HD9.out 3
  have b4 := blk_cell HD9.out 4
  have b5 := blk_cell HD9.out 5
  go_wp2_with fail
  refine HT1.out.mono ?_
  rintro e w10 ⟨rfl, hb⟩
  have HB10 := Lib.hid (below_then HB9.out HB9.out.size hb)
  have HM10 := Lib.hid (blk_below HM9.out hb)
  have HO10 := Lib.hid (blk_below HO9.out hb)
  have HA10 := Lib.hid (blk_below HA9.out hb)
  have HD10 := Lib.hid (blk_below HD9.out hb)
  have HCA10 := Lib.hid (Kd.C_below HCA9.out hb)
  have HCB10 := Lib.hid (Kd.C_below HCB9.out hb)
  have HRO10 := Lib.hid (Kd.R_below HRO9.out hb)
  clear hb HT1 a0 a1 a2 a3 a4 a5 b0 b1 b2 b3 b4 b5 HB9 HM9 HO9 HA9 HD9 HCA9 HCB9 HRO9
  have T2 := rsame_calls ep k m p d A7 cp7 l ep k m p d A c l _ (Kd.R_reads' HRO10.out).2.2 (Kd.R_reads' HRO10.out).2.1 (Kd.C_below HC0.out HB10.out) HCAP.out
  rw [same_self] at T2
  have HT2 := Lib.hid T2
  unfold boxM at HT2
  clear T2
  have o0 := blk_cell HO10.out 0
  have o1 := blk_cell HO10.out 1
  have o2 := blk_cell HO10.out 2
  have o3 := blk_cell HO10.out 3
  have o4 := blk_cell HO10.out 4
  have o5 := blk_cell HO10.out 5
  have m0 := blk_cell HM10.out 0
  have m1 := blk_cell HM10.out 1
  have m2 := blk_cell HM10.out 2
  have m3 := blk_cell HM10.out 3
  have m4 := blk_cell HM10.out 4
  have m5 := blk_cell HM10.out 5
  go_wp2_with fail
  refine HT2.out.mono ?_
  rintro e w11 ⟨rfl, hb⟩
  have HB11 := Lib.hid (below_then HB10.out HB10.out.size hb)
  have HM11 := Lib.hid (blk_below HM10.out hb)
  have HA11 := Lib.hid (blk_below HA10.out hb)
  have HD11 := Lib.hid (blk_below HD10.out hb)
  have HCA11 := Lib.hid (Kd.C_below HCA10.out hb)
  have HCB11 := Lib.hid (Kd.C_below HCB10.out hb)
  clear hb HT2 o0 o1 o2 o3 o4 o5 m0 m1 m2 m3 m4 m5 HB10 HM10 HO10 HA10 HD10 HCA10 HCB10 HRO10
  have T3 := asame_calls E K1 M1 P1 D1 A1 c1 L1 E K1 M1 P1 D1 A2 c2 L1 _ HCA11.out HCA.out HCB11.out HCB.out
  rw [same_self] at T3
  have HT3 := Lib.hid T3
  unfold boxM at HT3
  clear T3
  have a0 := blk_cell HA11.out 0
  have a1 := blk_cell HA11.out 1
  have a2 := blk_cell HA11.out 2
  have a3 := blk_cell HA11.out 3
  have a4 := blk_cell HA11.out 4
  have a5 := blk_cell HA11.out 5
  have b0 := blk_cell HD11.out 0
  have b1 := blk_cell HD11.out 1
  have b2 := blk_cell HD11.out 2
  have b3 := blk_cell HD11.out 3
  have b4 := blk_cell HD11.out 4
  have b5 := blk_cell HD11.out 5
  go_wp2_with fail
  refine HT3.out.mono ?_
  rintro e w12 ⟨rfl, hb⟩
  have HB12 := Lib.hid (below_then HB11.out HB11.out.size hb)
  have HM12 := Lib.hid (blk_below HM11.out hb)
  have HA12 := Lib.hid (blk_below HA11.out hb)
  have HCA12 := Lib.hid (Kd.C_below HCA11.out hb)
  clear hb HT3 a0 a1 a2 a3 a4 a5 b0 b1 b2 b3 b4 b5 HB11 HM11 HA11 HD11 HCA11 HCB11
  by_cases h0 : er = 0
  · subst h0
    obtain ⟨hE, hmy⟩ : E = ep + 1 ∧ mayB E K1 M1 P1 D1 L1 = true := by
      rcases HVA.out with ⟨hn, _⟩ | ⟨_, rfl, rfl, rfl, rfl, rfl, rfl⟩
      · exact absurd rfl hn
      · exact ⟨rfl, ans_may HAN.out⟩
    obtain ⟨he0, he1⟩ : 0 ≤ ep ∧ ep ≤ 1048576 := by have := may_ep01 hmy; have h2 := HAN.out; rcases h2 with ⟨_, e⟩ | ⟨hb, _⟩ | ⟨hb, _⟩; cases e; simp only [Bool.and_eq_true] at hb; exact may_ep01 hb.1; simp only [Bool.and_eq_true] at hb; exact may_ep01 hb.1
    have TM := may_calls E K1 M1 P1 D1 A1 c1 L1 w12 HCA12.out HCA.out
    rw [hmy] at TM
    have HTM := Lib.hid TM
    unfold boxM at HTM
    clear TM hmy
    subst hE
    have a0 := blk_cell HA12.out 0
    have a1 := blk_cell HA12.out 1
    have a2 := blk_cell HA12.out 2
    have a3 := blk_cell HA12.out 3
    have a4 := blk_cell HA12.out 4
    have a5 := blk_cell HA12.out 5
    go_wp2_with fail
    refine HTM.out.mono ?_
    rintro e w13 ⟨rfl, hb⟩
    have HB13 := Lib.hid (below_then HB12.out HB12.out.size hb)
    have m0 := blk_cell (blk_below HM12.out hb) 0
    clear a0 a1 a2 a3 a4 a5
    have a0 := blk_cell (blk_below HA12.out hb) 0
    clear hb HTM
    go_wp2_with fail
    refine (awake13_calls _).mono ?_
    rintro e w14 ⟨rfl, hb⟩
    have HB14 := Lib.hid (below_then HB13.out HB13.out.size hb)
    clear hb
    go_wp2_with fail
    go_ret
    exact ⟨rfl, HB14.out⟩
  · have q1 : (er == 0) = false := by simpa using h0
    have q2 : decide (er = 0) = false := decide_eq_false h0
    have q3 : (er != 0) = true := by simpa using h0
    go_wp2_with fail
    refine (awake13_calls _).mono ?_
    rintro e w14 ⟨rfl, hb⟩
    have HB14 := Lib.hid (below_then HB12.out HB12.out.size hb)
    clear hb
    go_wp2_with fail
    go_ret
    exact ⟨rfl, HB14.out⟩
end Go.Proofs.Ytfikaekocgofoaa.LaA
/- What the rows ask for: maps, changes, pools. -/
namespace Go.Proofs.Ytfikaekocgofoaa.AtO
open Go Go.RowKit Go.Proofs.YtfikaekocgofoaaW.PrintWords Opns PAll KW AtA Grp AtB McW AtS LaA UpsO
abbrev wfI (n : Int) : Prop := (Lit.int .i64 n).wf = true
theorem op_i : Opens 3 (Kd.int .i64) (fun n => wfI n) (fun _ => 1) := opens_int Try.underlying3
theorem op_b : Opens 4 Kd.bool (fun _ => True) (fun _ => 1) := opens_bool Try.underlying4
def goodO (x : S37) : Prop := wfI x.f0 ∧ True ∧ True ∧ wfI x.f3 ∧ wfI x.f4 ∧ wfI x.f5 ∧ wfI x.f6 ∧ wfI x.f7
theorem opens_O : Opens 37 k37 goodO (fun _ => 1) :=
  (opens_struct (g := fun x : S37 => (x.f0, x.f1, x.f2, x.f3, x.f4, x.f5, x.f6, x.f7)) (gi := fun p => ⟨p.1, p.2.1, p.2.2.1, p.2.2.2.1, p.2.2.2.2.1, p.2.2.2.2.2.1, p.2.2.2.2.2.2.1, p.2.2.2.2.2.2.2⟩) (fun _ => rfl) Try.underlying37 (by kernel_rfl)
    (opensF_cons (off := 1) (by kernel_rfl) rfl op_i (opensF_cons (off := 2) (by kernel_rfl) rfl op_b (opensF_cons (off := 3) (by kernel_rfl) rfl op_b (opensF_cons (off := 4) (by kernel_rfl) rfl op_i (opensF_cons (off := 5) (by kernel_rfl) rfl op_i (opensF_cons (off := 6) (by kernel_rfl) rfl op_i (opensF_cons (off := 7) (by kernel_rfl) rfl op_i (opensF_one (by kernel_rfl) op_i))))))))).imp (fun _ h => h) (fun _ => by omega)
theorem opens_Os : Opens 26 (Kd.slice 37 k37) (fun xs => (∀ x ∈ xs, goodO x) ∧ xs.length * 56 ≤ reachBytes) (fun xs => lbulk (fun _ => 1) xs + 1) := opens_slice Try.underlying26 (by kernel_rfl) (by kernel_rfl) opens_O
structure Pl where
  f0 : Int
  f1 : Int
  f2 : Int
  f3 : Int
def kPl : Kd Pl := Kd.iso (Kd.pair (Kd.int .i64) (Kd.pair (Kd.int .i64) (Kd.pair (Kd.int .i64) (Kd.int .i64)))) (fun x : Pl => (x.f0, x.f1, x.f2, x.f3))
structure Mp where
  f0 : Int
  f1 : Pl
  f2 : List S37
def kMp : Kd Mp := Kd.iso (Kd.pair (Kd.int .i64) (Kd.pair kPl (Kd.slice 37 k37))) (fun x : Mp => (x.f0, x.f1, x.f2))
theorem kMp_open {w : World} {x : Mp} {cs : List Value} (h : kMp.K w x cs) : ∃ A c, cs = [.int .i64 x.f0, .int .i64 x.f1.f0, .int .i64 x.f1.f1, .int .i64 x.f1.f2, .int .i64 x.f1.f3, .slice A x.f2.length c] ∧ x.f2.length ≤ c ∧ k37.C w A x.f2.length x.f2 := by
  obtain ⟨_, _, rfl, rfl, ⟨_, _, rfl, hp, ⟨A, c, rfl, hl, hc⟩⟩⟩ := h
  obtain ⟨_, _, rfl, rfl, ⟨_, _, rfl, rfl, ⟨_, _, rfl, rfl, rfl⟩⟩⟩ := hp
  exact ⟨A, c, rfl, hl, hc⟩
def goodP (x : Pl) : Prop := wfI x.f0 ∧ wfI x.f1 ∧ wfI x.f2 ∧ wfI x.f3
theorem opens_P : Opens 23 kPl goodP (fun _ => 1) :=
  (opens_struct (g := fun x : Pl => (x.f0, x.f1, x.f2, x.f3)) (gi := fun p => ⟨p.1, p.2.1, p.2.2.1, p.2.2.2⟩) (fun _ => rfl) Try.underlying23 (by kernel_rfl)
    (opensF_cons (off := 1) (by kernel_rfl) rfl op_i (opensF_cons (off := 2) (by kernel_rfl) rfl op_i (opensF_cons (off := 3) (by kernel_rfl) rfl op_i (opensF_one (by kernel_rfl) op_i))))).imp (fun _ h => h) (fun _ => by omega)
def goodM (x : Mp) : Prop := wfI x.f0 ∧ goodP x.f1 ∧ ((∀ o ∈ x.f2, goodO o) ∧ x.f2.length * 56 ≤ reachBytes)
theorem opens_M : Opens 28 kMp goodM (fun _ => 1) :=
  (opens_struct (g := fun x : Mp => (x.f0, x.f1, x.f2)) (gi := fun p => ⟨p.1, p.2.1, p.2.2⟩) (fun _ => rfl) Try.underlying28 (by kernel_rfl)
    (opensF_cons (off := 1) (by kernel_rfl) rfl op_i (opensF_cons (off := 5) (by kernel_rfl) rfl opens_P (opensF_one (by kernel_rfl) opens_Os)))).imp (fun _ h => h) (fun _ => by simp only [lbulk]; omega)
theorem map_open {w : World} {x : Mp} {cs : Array Value} (h : kMp.K w x cs.toList) (g : goodM x) : ∃ A c, cs = boxM x.f0 x.f1.f0 x.f1.f1 x.f1.f2 x.f1.f3 A c x.f2 ∧ x.f2.length ≤ c ∧ kO.C w A x.f2.length x.f2 ∧ WfL x.f2 := by
  obtain ⟨A, c, e, hl, hc⟩ := kMp_open h
  refine ⟨A, c, ?_, hl, hc, fun o ho => ?_⟩
  · rw [← Array.toArray_toList (xs := cs), e]
    rfl
  · have h1 := g.2.2.1 o ho
    exact ⟨h1.1, h1.2.2.2.2.2.2.1, h1.2.2.2.2.2.2.2⟩
def goodC (x : Chg) : Prop := wfI x.kd ∧ goodO x.o
theorem opens_C : Opens 39 kC goodC (fun _ => 1) :=
  (opens_struct (g := fun x : Chg => (x.kd, x.o)) (gi := fun p => ⟨p.1, p.2⟩) (fun _ => rfl) Try.underlying39 (by kernel_rfl)
    (opensF_cons (off := 1) (by kernel_rfl) rfl op_i (opensF_one (by kernel_rfl) opens_O))).imp (fun _ h => h) (fun _ => by omega)
theorem walkApplies (cs0 : Array Value) (x0 : Mp) (cs1 : Array Value) (x1 : Chg) (w : World) (c0 : kMp.K w x0 cs0.toList) (g0 : goodM x0) (c1 : kC.K w x1 cs1.toList) (_ : goodC x1) :
    Calls Try.prog 4 #[.agg cs0, .agg cs1] w fun e w' => e = .returned (.bool true) ∧ Below w.heap.size w w' := by
  obtain ⟨A, c, rfl, hl, hc, hw⟩ := map_open c0 g0
  have e : cs1 = chA x1.kd x1.o := by rw [← Array.toArray_toList (xs := cs1), kC_open c1]
  subst e
  exact applies_calls _ _ _ _ _ A c x0.f2 x1.kd x1.o w hc hl hw g0.2.2.2
end Go.Proofs.Ytfikaekocgofoaa.AtO
/- AtlasApplies: one change applied, checked at both sides: true at every map and change. -/
namespace Go.Proofs.Ytfikaekocgofoaa.atlasApplies
open Go.ChangeShapes Go.WideShapes Go.ChangeAt Go.RowKit Go.Proofs.Ytfikaekocgofoaa.Opns
open Go.ChangeMaps (open_string shut_string)
set_option linter.unusedVariables false
theorem own : ownKnob Try.prog.godebug = none := by kernel_rfl
theorem laidOut : laidOutB Try.prog = true := by kernel_rfl
set_option maxRecDepth 100000 in
theorem lifted (os : Os) (started : os.Started) (H : Type) (enc : TypeId × Value → H) :
    ReturnsInHanded {} Try.checked os 4 .any (Rows.atlasAppliesSpec.pre6 enc Try.prog Try.f4 Rows.atlasAppliesRow.domain false) (Rows.atlasAppliesSpec.post enc Try.prog Try.f4 false true false false) := by
  refine returnsInHanded_of_change_sized (C := Try.checked) own started (by kernel_rfl) Try.func4
    (ChangeSpec.witness6 (enc := enc) (C := Try.checked) false ⟨#[], #[.agg #[.int .i64 0, .int .i64 0, .int .i64 0, .int .i64 0, .int .i64 0, .slice none 0 0], .agg #[.int .i64 0, .int .i64 0, .bool false, .bool false, .int .i64 0, .int .i64 0, .int .i64 0, .int .i64 0, .int .i64 0]], []⟩ 8 (by kernel_rfl) (by kernel_rfl) (by kernel_rfl) (by kernel_rfl)) ?_
  intro W base args ds gs before hval0 hW hcnd hsz0 _
  have hsz : (DataW.weightsEach Try.prog (Try.f4.params.toList ++ Rows.atlasAppliesSpec.plain.varTypes Try.prog) (ds ++ gs)).all (· ≤ reachBytes) = true := hsz0
  have hval : ∀ (j : Nat) t v, Try.f4.params[j]? = some t → args[j]? = some v → Value.okWide Try.prog W .any base t v := hval0
  have hW' := hW
  obtain ⟨p, q, hA0, hV, rfl, hfz, hnd⟩ := hW
  have hA : DataW.TrodAll enc Try.prog W 0 (fun _ => true) true Try.f4.params.toList args.toList ds p := hA0
  rw [Try.params4] at hA hval hsz
  obtain ⟨v0, vs0, d0, ds0, p0, q0, hargs, rfl, rfl, h0, r0⟩ := trodAll_cons hA
  obtain ⟨v1, vs1, d1, ds1, p1, q1, rfl, rfl, rfl, h1, r1⟩ := trodAll_cons r0
  obtain ⟨rfl, rfl, rfl⟩ := trodAll_nil r1
  obtain rfl : args = #[v0, v1] := by cases args; simp_all
  obtain ⟨rfl, rfl⟩ := trodVars_none hV
  have m0 := weigh (j := 0) (t := 28) hsz rfl rfl
  have k0 := h0
  have lt0 : ∀ x ∈ p0, x.block < W.heap.size := by obtain ⟨m, hm⟩ := k0; exact DataW.trod_lt m _ _ _ hm
  obtain ⟨cs0, rfl⟩ := okw_struct Try.underlying28 (hval 0 28 v0 rfl rfl)
  obtain ⟨x0, c0, g0, b0⟩ := arg_agg AtO.opens_M h0 m0
  have m1 := weigh (j := 1) (t := 39) hsz rfl rfl
  have k1 := h1
  have lt1 : ∀ x ∈ p1, x.block < W.heap.size := by obtain ⟨m, hm⟩ := k1; exact DataW.trod_lt m _ _ _ hm
  obtain ⟨cs1, rfl⟩ := okw_struct Try.underlying39 (hval 1 39 v1 rfl rfl)
  obtain ⟨x1, c1, g1, b1⟩ := arg_agg AtO.opens_C h1 m1
  clear hA0 hval0 hsz0 hsz
  refine (AtO.walkApplies cs0 x0 cs1 x1 W c0 g0 c1 g1).mono fun e W' ⟨he, bel⟩ => ?_
  subst he
  exact ⟨_, rfl, _, _, _, [], _, [], hW', trodAll_mk1 (shut_bool Try.underlying4 _), (trodAll_cons_mk (Below.trod laidOut (by kernel_rfl) (of_decide_eq_true (by kernel_rfl)) k0 bel lt0) (trodAll_cons_mk (Below.trod laidOut (by kernel_rfl) (of_decide_eq_true (by kernel_rfl)) k1 bel lt1) trodAll_mk0)), rfl, bel.frame _, fun h => by cases h⟩
theorem over : Rows.atlasAppliesRow.holds Try.pinned (OpenSpec.ofChange Rows.atlasAppliesSpec) :=
  OpenClaim.holds_of_wide 4 Try.f4 rfl rfl rfl rfl rfl rfl rfl ⟨rfl, rfl, rfl, rfl, rfl⟩ rfl rfl rfl rfl rfl (by kernel_rfl) Try.func4 (by kernel_rfl)
    (of_decide_eq_true (by kernel_rfl)) (by unfold Func.isWrapper; first | (rw [if_pos (by decide +kernel)]; kernel_rfl) | (rw [if_neg (by decide +kernel)]; exact ⟨rfl, rfl⟩))
    (fun os started H enc _ => lifted os started H enc)
theorem proved : Rows.AtlasAppliesSaid := over
#print axioms proved
end Go.Proofs.Ytfikaekocgofoaa.atlasApplies
