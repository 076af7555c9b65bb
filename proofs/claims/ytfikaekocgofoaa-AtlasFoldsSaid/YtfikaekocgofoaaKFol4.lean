import Derived.Test.YtfikaekocgofoaaKApp3
import Derived.Test.YtfikaekocgofoaaRows
import Derived.WalkKit
import Derived.ProofKit
import Derived.OpenShut
import Derived.ShutString
import Derived.ChangeOld
import Derived.Below
import Derived.SizedLaws
import Derived.JoinedCond
import Derived.Deep.CondSized
/- Merged texts, one behind the other: AtS, AtF, AtW, AtE, LaA, AtO, RowAtlasApplies. -/
/- Changes, one behind the other; a pool's first map. -/
set_option linter.unusedSimpArgs false
namespace Go.Proofs.Ytfikaekocgofoaa.AtS
open Go Go.RowKit Go.Proofs.YtfikaekocgofoaaW.PrintWords Go.Proofs.YtfikaekocgofoaaW.PrintLast Go.Proofs.YtfikaekocgofoaaW.PrintMore Mem PAll KW AtA AtB Sl Dsc MayP ApP Fnd PlF Roo Awk McW ApY ApZ ApW AtK AtV AtX AtD AtC AtP Ins AtQ AtR
open CrP hiding Od
structure Chg where
  kd : Int
  o : Od
  deriving Inhabited
def kC : Kd Chg := Kd.iso (Kd.pair (Kd.int .i64) kO) (fun x => (x.kd, x.o))
theorem kC_open {w : World} {x : Chg} {cs : List Value} (h : kC.K w x cs) : cs = (chA x.kd x.o).toList := by
  obtain ⟨_, _, rfl, rfl, h⟩ := h
  obtain rfl := k37_open h
  rfl
theorem at_C {w : World} {A : Option Addr} {n : Nat} {xs : List Chg} (h : kC.C w A n xs) (i : Nat) (h1 : i < n) :
    ∃ ad x, xs[i]? = some x ∧ A = some ad ∧ w.cell? (ad.add (i * 9)) = some (.int .i64 x.kd) ∧ w.cell? ⟨(ad.add (i * 9)).block, (ad.add (i * 9)).off + 1, none⟩ = some (.int .i64 x.o.f0) ∧ w.cell? ⟨(ad.add (i * 9)).block, (ad.add (i * 9)).off + 2, none⟩ = some (.bool x.o.f1) ∧ w.cell? ⟨(ad.add (i * 9)).block, (ad.add (i * 9)).off + 3, none⟩ = some (.bool x.o.f2) ∧ w.cell? ⟨(ad.add (i * 9)).block, (ad.add (i * 9)).off + 4, none⟩ = some (.int .i64 x.o.f3) ∧ w.cell? ⟨(ad.add (i * 9)).block, (ad.add (i * 9)).off + 5, none⟩ = some (.int .i64 x.o.f4) ∧ w.cell? ⟨(ad.add (i * 9)).block, (ad.add (i * 9)).off + 6, none⟩ = some (.int .i64 x.o.f5) ∧ w.cell? ⟨(ad.add (i * 9)).block, (ad.add (i * 9)).off + 7, none⟩ = some (.int .i64 x.o.f6) ∧ w.cell? ⟨(ad.add (i * 9)).block, (ad.add (i * 9)).off + 8, none⟩ = some (.int .i64 x.o.f7) := by
  obtain ⟨ad, c, e, _, hK, hc0⟩ := Kd.C_get h default (i : Int) (by omega) (by omega)
  have hn : i < xs.length := by have := h.1; omega
  have hg : xs.getD (i : Int).toNat default = xs[i] := by
    rw [Int.toNat_natCast, List.getD_eq_getElem?_getD, List.getElem?_eq_getElem hn]
    rfl
  rw [hg] at hK
  have hc : ∀ j u, c[j]? = some u → w.cell? (ad.add (i * 9 + j)) = some u := hc0
  obtain rfl := kC_open hK
  exact ⟨ad, xs[i], List.getElem?_eq_getElem hn, e, hc 0 _ rfl, by rw [← add_field _ _ 1 (by omega)]; exact hc 1 _ rfl, by rw [← add_field _ _ 2 (by omega)]; exact hc 2 _ rfl, by rw [← add_field _ _ 3 (by omega)]; exact hc 3 _ rfl, by rw [← add_field _ _ 4 (by omega)]; exact hc 4 _ rfl, by rw [← add_field _ _ 5 (by omega)]; exact hc 5 _ rfl, by rw [← add_field _ _ 6 (by omega)]; exact hc 6 _ rfl, by rw [← add_field _ _ 7 (by omega)]; exact hc 7 _ rfl, by rw [← add_field _ _ 8 (by omega)]; exact hc 8 _ rfl⟩
theorem ans_may {ep k m p d : Int} {l : List Od} {kd : Int} {o : Od} {l' : List Od} (h : Ans ep k m p d l kd o 0 l') : mayB (ep + 1) k m p d l' = true := by
  rcases h with ⟨_, e⟩ | ⟨hb, hk, e⟩ | ⟨hb, hk, e⟩
  · cases e
  · have hb' := hb
    simp only [Bool.and_eq_true, Bool.not_eq_true'] at hb'
    unfold applyR at e
    rw [if_neg (by rw [← hk, hb]; decide), if_pos rfl] at e
    split at e
    · injection e with e1 _; cases e1
    · split at e
      · injection e with e1 _; cases e1
      · split at e
        · rename_i h3; injection e with _ e2; rw [← e2]; exact h3
        · injection e with e1 _; cases e1
  · have hb' := hb
    simp only [Bool.and_eq_true, Bool.not_eq_true'] at hb'
    obtain ⟨h1, h2, h3⟩ := hb'
    rcases e with ⟨_, e2⟩ | ⟨j, q, hj, _, ⟨_, e2⟩ | ⟨_, _, e3⟩⟩
    · cases e2
    · cases e2
    · rw [e3]
      exact may_set h1 h3 h2 (by have := known_cases hk; omega) hj
/-- From one map to another, change by change; what each is told. -/
inductive Stp (k m p d : Int) : List Chg → Int → List Od → List Int → Prop
  | nil : Stp k m p d [] 0 [] []
  | no {cs : List Chg} {ep : Int} {l : List Od} {es : List Int} {c : Chg} {er : Int} {l' : List Od} : Stp k m p d cs ep l es → Ans ep k m p d l c.kd c.o er l' → er ≠ 0 → Stp k m p d (cs ++ [c]) ep l (es ++ [er])
  | ok {cs : List Chg} {ep : Int} {l : List Od} {es : List Int} {c : Chg} {l' : List Od} : Stp k m p d cs ep l es → Ans ep k m p d l c.kd c.o 0 l' → Stp k m p d (cs ++ [c]) (ep + 1) l' (es ++ [0])
theorem snoc_inj {α : Type} {a b : List α} {x y : α} (h : a ++ [x] = b ++ [y]) : a = b ∧ x = y := by
  have := List.append_inj' h rfl
  exact ⟨this.1, by simpa using this.2⟩
theorem steps_one {k m p d : Int} {cs : List Chg} {ep : Int} {l : List Od} {es : List Int} (h : Stp k m p d cs ep l es) : ∀ {ep2 : Int} {l2 : List Od} {es2 : List Int}, Stp k m p d cs ep2 l2 es2 → ep = ep2 ∧ l = l2 ∧ es = es2 := by
  induction h with
  | nil =>
    intro ep2 l2 es2 h2
    generalize hc : ([] : List Chg) = cs at h2
    cases h2 with
    | nil => exact ⟨rfl, rfl, rfl⟩
    | no _ _ _ => simp at hc
    | ok _ _ => simp at hc
  | @no cs ep l es c er l' hs ha hne ih =>
    intro ep2 l2 es2 h2
    generalize hc : cs ++ [c] = cs' at h2
    cases h2 with
    | nil => simp at hc
    | no hs2 ha2 hne2 =>
      obtain ⟨rfl, rfl⟩ := snoc_inj hc
      obtain ⟨rfl, rfl, rfl⟩ := ih hs2
      obtain ⟨rfl, _⟩ := ans_one ha ha2
      exact ⟨rfl, rfl, rfl⟩
    | ok hs2 ha2 =>
      obtain ⟨rfl, rfl⟩ := snoc_inj hc
      obtain ⟨rfl, rfl, rfl⟩ := ih hs2
      exact absurd (ans_one ha ha2).1 hne
  | @ok cs ep l es c l' hs ha ih =>
    intro ep2 l2 es2 h2
    generalize hc : cs ++ [c] = cs' at h2
    cases h2 with
    | nil => simp at hc
    | no hs2 ha2 hne2 =>
      obtain ⟨rfl, rfl⟩ := snoc_inj hc
      obtain ⟨rfl, rfl, rfl⟩ := ih hs2
      exact absurd (ans_one ha ha2).1.symm hne2
    | ok hs2 ha2 =>
      obtain ⟨rfl, rfl⟩ := snoc_inj hc
      obtain ⟨rfl, rfl, rfl⟩ := ih hs2
      have := (ans_one ha ha2).2 rfl
      exact ⟨rfl, this, rfl⟩
theorem steps_may {k m p d : Int} {cs : List Chg} {ep : Int} {l : List Od} {es : List Int} (h : Stp k m p d cs ep l es) (hp : poolB k m p d = true) : mayB ep k m p d l = true := by
  induction h with
  | nil =>
    unfold mayB
    rw [hp, show goodB [] = true from goodB_yes (fun _ _ hi _ => absurd hi (Nat.not_lt_zero _))]
    rfl
  | no _ _ _ ih => exact ih
  | ok _ ha _ => exact ans_may ha
theorem steps_len {k m p d : Int} {cs : List Chg} {ep : Int} {l : List Od} {es : List Int} (h : Stp k m p d cs ep l es) : es.length = cs.length := by
  induction h with
  | nil => rfl
  | no _ _ _ ih => simp [ih]
  | ok _ _ ih => simp [ih]
abbrev firstM (k m p d : Int) : Array Value := #[.int .i64 0, .int .i64 k, .int .i64 m, .int .i64 p, .int .i64 d, .slice none 0 0]
set_option maxHeartbeats 4000000 in
set_option maxRecDepth 100000 in
theorem new_calls (k m p d : Int) (w : World) : Calls Try.prog 25 #[.agg #[.int .i64 k, .int .i64 m, .int .i64 p, .int .i64 d]] w fun e w' => e = .returned (if poolB k m p d = true then .tuple #[.agg (firstM k m p d), .int .i64 0] else .tuple #[.agg zM, .int .i64 1]) ∧ Below w.heap.size w w' := by
  have hs1 : (w.alloc (.cells #[.int .i64 k, .int .i64 m, .int .i64 p, .int .i64 d] 23)).heap.size = w.heap.size + 1 := by simp only [World.alloc, Array.size_push]
  have HP1 : Hid (((w.alloc (.cells #[.int .i64 k, .int .i64 m, .int .i64 p, .int .i64 d] 23)).alloc (.cells zM 28)).heap[w.heap.size]? = some (.cells #[.int .i64 k, .int .i64 m, .int .i64 p, .int .i64 d] 23 (0, 0))) := Lib.hid (blk_below (blk_new _ _) (below_alloc (Below.refl _ _) _))
  have HR1 : Hid (((w.alloc (.cells #[.int .i64 k, .int .i64 m, .int .i64 p, .int .i64 d] 23)).alloc (.cells zM 28)).heap[w.heap.size + 1]? = some (.cells zM 28 (0, 0))) := Lib.hid (by
    have h := blk_new (w.alloc (.cells #[.int .i64 k, .int .i64 m, .int .i64 p, .int .i64 d] 23)) (.cells zM 28)
    rw [hs1] at h
    exact h)
  have HB1 := Lib.hid (below_alloc (below_alloc (Below.refl w.heap.size w) (.cells #[.int .i64 k, .int .i64 m, .int .i64 p, .int .i64 d] 23)) (.cells zM 28))
  obtain ⟨w1, hw1⟩ : ∃ w1, w1 = ((w.alloc (.cells #[.int .i64 k, .int .i64 m, .int .i64 p, .int .i64 d] 23)).alloc (.cells zM 28)) := ⟨_, rfl⟩
  have HWN := Lib.hid hw1
  rw [← hw1] at HP1 HR1 HB1
  obtain ⟨b, hb⟩ : ∃ b, b = poolB k m p d := ⟨_, rfl⟩
  have T := Lib.hid (pool_calls k m p d w1)
  rw [← hb] at T ⊢
  clear hb hw1 hs1
  have c0 := blk_cell HP1.out 0
  have c1 := blk_cell HP1.out 1
  have c2 := blk_cell HP1.out 2
  have c3 := blk_cell HP1.out 3
  rw [HWN.out] at c0 c1 c2 c3
  go_enter Try.func25, Try.ntmps25
  go_wp2_with fail
  rw [← HWN.out]
  refine T.out.mono ?_
  rintro e w2 ⟨rfl, hb⟩
  have HB2 := Lib.hid (below_then HB1.out HB1.out.size hb)
  have HP2 := Lib.hid (blk_below HP1.out hb)
  have HR2 := Lib.hid (blk_below HR1.out hb)
  clear hb c0 c1 c2 c3 T HP1 HR1 HB1 HWN
  have c0 := blk_cell HP2.out 0
  have c1 := blk_cell HP2.out 1
  have c2 := blk_cell HP2.out 2
  have c3 := blk_cell HP2.out 3
  cases b with
  | false =>
    go_wp2_with (first | (refine gate_ (.store 28 (.tmp 2) (.tmp 7)) rfl ?_; go_must (refine Stb.store_list rfl rfl 28 (.tmp 2) (.tmp 7) rfl (cur' := zM) [.int .i64 0, .int .i64 0, .int .i64 0, .int .i64 0, .int .i64 0, .slice none 0 0] (by exact HR2.out) (by rfl) (by rfl) (by rfl) (by kernel_rfl) (Nat.le_of_ble_eq_true rfl) (by rfl) (by rfl) ?_; intro wf hz_ hg_ hs_; have HF := Lib.hid hz_; have HBF := Lib.hid (Stb.below_grown1 HB2.out hg_ (Nat.le_add_right _ 1) HB2.out.size); clear hz_ hg_ hs_)))
    refine bodyPost_ret (results_ct rfl _ _ (w.heap.size + 1) 28 zM (0, 0) _ rfl HF.out Try.underlying28 rfl (by kernel_rfl)) rfl ?_
    exact ⟨rfl, HBF.out⟩
  | true =>
    go_wp2_with (first | (refine gate_ (.store 28 (.tmp 2) (.tmp 9)) rfl ?_; go_must (refine Stb.store_list rfl rfl 28 (.tmp 2) (.tmp 9) rfl (cur' := firstM k m p d) [.int .i64 0, .int .i64 k, .int .i64 m, .int .i64 p, .int .i64 d, .slice none 0 0] (by exact HR2.out) (by rfl) (by rfl) (by rfl) (by kernel_rfl) (Nat.le_of_ble_eq_true rfl) (by rfl) (by rfl) ?_; intro wf hz_ hg_ hs_; have HF := Lib.hid hz_; have HBF := Lib.hid (Stb.below_grown1 HB2.out hg_ (Nat.le_add_right _ 1) HB2.out.size); clear hz_ hg_ hs_)))
    refine bodyPost_ret (results_ct rfl _ _ (w.heap.size + 1) 28 (firstM k m p d) (0, 0) _ rfl HF.out Try.underlying28 rfl (by kernel_rfl)) rfl ?_
    exact ⟨rfl, HBF.out⟩
end Go.Proofs.Ytfikaekocgofoaa.AtS
/- Many changes, one behind the other: atlas.Fold. -/
set_option linter.unusedSimpArgs false
namespace Go.Proofs.Ytfikaekocgofoaa.AtF
open Go Go.RowKit Go.Proofs.YtfikaekocgofoaaW.PrintWords Go.Proofs.YtfikaekocgofoaaW.PrintLast Go.Proofs.YtfikaekocgofoaaW.PrintMore Mem PAll KW AtA AtB Sl Dsc MayP ApP Fnd PlF Roo Awk McW ApY ApZ ApW AtK AtV AtX AtD AtC AtP Ins AtQ AtR AtS
open CrP hiding Od
abbrev kE : Kd Int := Kd.int .i64
theorem infoE : (Try.prog.info? 30).map (fun i => (i.zero, i.size, i.bytes)) = some (some (.int .i64 0), kE.sz, 8) := by kernel_rfl
/-- Two rows of one's own that share nothing: the map's, and what was told. -/
structure Two (w : World) (base a b : Nat) (u : Value) (l : List Od) (v : Value) (es : List Int) : Prop where
  row : kO.R 37 w base (fun k => (k ≠ a ∧ k ≠ b) ∧ some k ≠ v.ownBlock) u l
  told : kE.R 30 w base (fun k => (k ≠ a ∧ k ≠ b) ∧ some k ≠ u.ownBlock) v es
theorem Two.below {w w1 : World} {base a b : Nat} {u v : Value} {l : List Od} {es : List Int} (h : Two w base a b u l v es) (hb : Below w.heap.size w w1) : Two w1 base a b u l v es := ⟨Kd.R_below h.row hb, Kd.R_below h.told hb⟩
theorem Two.set {w w1 : World} {base a b g : Nat} {u v : Value} {l : List Od} {es : List Int} (h : Two w base a b u l v es) (hg : w.grownBy w1 (some g)) (he : g = a ∨ g = b) : Two w1 base a b u l v es :=
  ⟨Kd.R_grown h.row hg (fun k hk e => by have e2 : k = g := Option.some.inj e; rcases he with he | he; exact hk.1.1 (e2.trans he); exact hk.1.2 (e2.trans he)), Kd.R_grown h.told hg (fun k hk e => by have e2 : k = g := Option.some.inj e; rcases he with he | he; exact hk.1.1 (e2.trans he); exact hk.1.2 (e2.trans he))⟩
theorem Two.more {w w1 : World} {base a b : Nat} {u v v1 : Value} {l : List Od} {es es' : List Int} (h : Two w base a b u l v es) (hg : w.grownBy w1 v.ownBlock) (hat : v1.ownBlock = v.ownBlock ∨ ∃ k, v1.ownBlock = some k ∧ w.heap.size ≤ k) (hv : kE.R 30 w1 base (fun k => (k ≠ a ∧ k ≠ b) ∧ some k ≠ u.ownBlock) v1 es') : Two w1 base a b u l v1 es' :=
  ⟨Kd.R_after h.row hg hat, hv⟩
/-- The map's row is another one, made since. -/
theorem Two.turn {w w1 : World} {base a b : Nat} {u u1 v : Value} {l l1 : List Od} {es : List Int} (h : Two w base a b u l v es) (hb : Below w.heap.size w w1) (ha : a < w.heap.size) (hbb : b < w.heap.size) (hbase : base ≤ w.heap.size) (hr : kO.R 37 w1 w.heap.size (fun _ => True) u1 l1) : Two w1 base a b u1 l1 v es := by
  have hlt := Kd.R_lt h.told
  refine ⟨Kd.R_lower (Kd.R_mono (Kd.R_bound hr) (fun k hk => ⟨⟨by omega, by omega⟩, fun e => by have := hlt k e.symm; omega⟩)) hbase, Kd.R_mono (Kd.R_below (Kd.R_bound h.told) hb) (fun k hk => ⟨hk.1.1, fun e => ?_⟩)⟩
  have h1 := Kd.R_base hr k e.symm
  have := hk.2.2.1
  omega
theorem Two.fresh {w : World} {base a b : Nat} {u v : Value} {l : List Od} {es : List Int} (h : Two w base a b u l v es) (ha : a < w.heap.size) (hb : b < w.heap.size) : ∀ k, w.heap.size ≤ k → ((k ≠ a ∧ k ≠ b) ∧ some k ≠ u.ownBlock) :=
  fun k hk => ⟨⟨by omega, by omega⟩, fun e => by have := Kd.R_lt h.row k e.symm; omega⟩
set_option maxHeartbeats 4000000 in
set_option maxRecDepth 100000 in
theorem fold_bad (k m p d : Int) (A : Option Addr) (cc : Nat) (cs : List Chg) (w : World) (hx : kC.C w A cs.length cs) (hl : cs.length ≤ 300) (hp : poolB k m p d = false) : Calls Try.prog 9 #[.agg #[.int .i64 k, .int .i64 m, .int .i64 p, .int .i64 d], .slice A cs.length cc] w fun e w' => e = .returned (.tuple #[.agg zM, .slice none 0 0, .int .i64 1]) ∧ Below w.heap.size w w' := by
  have hs1 : (w.alloc (.cells #[.int .i64 k, .int .i64 m, .int .i64 p, .int .i64 d] 23)).heap.size = w.heap.size + 1 := by simp only [World.alloc, Array.size_push]
  have hs2 : ((w.alloc (.cells #[.int .i64 k, .int .i64 m, .int .i64 p, .int .i64 d] 23)).alloc (.cells zM 28)).heap.size = w.heap.size + 2 := by simp only [World.alloc, Array.size_push]
  have HP1 : Hid (((w.alloc (.cells #[.int .i64 k, .int .i64 m, .int .i64 p, .int .i64 d] 23)).alloc (.cells zM 28)).heap[w.heap.size]? = some (.cells #[.int .i64 k, .int .i64 m, .int .i64 p, .int .i64 d] 23 (0, 0))) := Lib.hid (blk_below (blk_new _ _) (below_alloc (Below.refl _ _) _))
  have HR1 : Hid (((w.alloc (.cells #[.int .i64 k, .int .i64 m, .int .i64 p, .int .i64 d] 23)).alloc (.cells zM 28)).heap[w.heap.size + 1]? = some (.cells zM 28 (0, 0))) := Lib.hid (by
    have h := blk_new (w.alloc (.cells #[.int .i64 k, .int .i64 m, .int .i64 p, .int .i64 d] 23)) (.cells zM 28)
    rw [hs1] at h
    exact h)
  have HB1 := Lib.hid (below_alloc (below_alloc (Below.refl w.heap.size w) (.cells #[.int .i64 k, .int .i64 m, .int .i64 p, .int .i64 d] 23)) (.cells zM 28))
  have HC1 := Lib.hid (Kd.C_below hx HB1.out)
  obtain ⟨w1, hw1⟩ : ∃ w1, w1 = ((w.alloc (.cells #[.int .i64 k, .int .i64 m, .int .i64 p, .int .i64 d] 23)).alloc (.cells zM 28)) := ⟨_, rfl⟩
  have HWN := Lib.hid hw1
  rw [← hw1] at HP1 HR1 HB1 HC1 hs2
  have HSZ := Lib.hid hs2
  have HL := Lib.hid hl
  have HC0 := Lib.hid hx
  have T := Lib.hid (new_calls k m p d w1)
  have c0 := blk_cell HP1.out 0
  have c1 := blk_cell HP1.out 1
  have c2 := blk_cell HP1.out 2
  have c3 := blk_cell HP1.out 3
  rw [HWN.out] at c0 c1 c2 c3
  rw [hp] at T
  simp only [if_false, Bool.false_eq_true] at T
  clear hx hl hw1 hs1 hs2 hp
  go_enter Try.func9, Try.ntmps9
  go_wp2_with fail
  rw [← HWN.out]
  refine T.out.mono ?_
  rintro e w2 ⟨rfl, hb⟩
  have HB2 := Lib.hid (below_then HB1.out HB1.out.size hb)
  have HR2 := Lib.hid (blk_below HR1.out hb)
  have HC2 := Lib.hid (Kd.C_below HC1.out hb)
  have HS2 : Hid (w.heap.size + 2 ≤ w2.heap.size) := Lib.hid (by have := HSZ.out; have := hb.size; omega)
  clear hb c0 c1 c2 c3 T HP1 HR1 HB1 HC1 HWN HSZ
  unfold zM
  have HN : Hid ((w2.alloc (.cells zM 28)).heap[w2.heap.size]? = some (.cells zM 28 (0, 0))) := Lib.hid (blk_new _ _)
  have HR3 := Lib.hid (blk_alloc HR2.out (.cells zM 28))
  have HB3 := Lib.hid (below_alloc HB2.out (.cells zM 28))
  have n0 := blk_cell HN.out 0
  have n1 := blk_cell HN.out 1
  have n2 := blk_cell HN.out 2
  have n3 := blk_cell HN.out 3
  have n4 := blk_cell HN.out 4
  have n5 := blk_cell HN.out 5
  go_wp2_with (first | (refine gate_ (.store 28 (.tmp 4) (.tmp 21)) rfl ?_; go_must (refine Stb.store_list rfl rfl 28 (.tmp 4) (.tmp 21) rfl (cur' := zM) [.int .i64 0, .int .i64 0, .int .i64 0, .int .i64 0, .int .i64 0, .slice none 0 0] (by exact HR3.out) (by rfl) (by rfl) (by rfl) (by kernel_rfl) (Nat.le_of_ble_eq_true rfl) (by rfl) (by rfl) ?_; intro wf hz_ hg_ hs_; have HF := Lib.hid hz_; have HBF := Lib.hid (Stb.below_grown1 HB3.out hg_ (Nat.le_add_right _ 1) HB3.out.size); clear hz_ hg_ hs_)))
  refine bodyPost_ret (results_ctt rfl _ _ (w.heap.size + 1) 28 zM (0, 0) _ rfl HF.out Try.underlying28 rfl (by kernel_rfl)) rfl ?_
  exact ⟨rfl, HBF.out⟩
set_option maxHeartbeats 8000000 in
set_option maxRecDepth 100000 in
theorem fold_ok (k m p d : Int) (A : Option Addr) (cc : Nat) (cs : List Chg) (w : World) (hx : kC.C w A cs.length cs) (hl : cs.length ≤ 300) (hp : poolB k m p d = true) : Calls Try.prog 9 #[.agg #[.int .i64 k, .int .i64 m, .int .i64 p, .int .i64 d], .slice A cs.length cc] w fun e w' => ∃ (ep : Int) (l : List Od) (es : List Int) (A' : Option Addr) (c' : Nat) (v : Value), e = .returned (.tuple #[.agg (boxM ep k m p d A' c' l), v, .int .i64 0]) ∧ Stp k m p d cs ep l es ∧ kO.R 37 w' w.heap.size (fun _ => True) (.slice A' l.length c') l ∧ kE.R 30 w' w.heap.size (fun _ => True) v es ∧ Below w.heap.size w w' := by
  have hs1 : (w.alloc (.cells #[.int .i64 k, .int .i64 m, .int .i64 p, .int .i64 d] 23)).heap.size = w.heap.size + 1 := by simp only [World.alloc, Array.size_push]
  have hs2 : ((w.alloc (.cells #[.int .i64 k, .int .i64 m, .int .i64 p, .int .i64 d] 23)).alloc (.cells zM 28)).heap.size = w.heap.size + 2 := by simp only [World.alloc, Array.size_push]
  have HP1 : Hid (((w.alloc (.cells #[.int .i64 k, .int .i64 m, .int .i64 p, .int .i64 d] 23)).alloc (.cells zM 28)).heap[w.heap.size]? = some (.cells #[.int .i64 k, .int .i64 m, .int .i64 p, .int .i64 d] 23 (0, 0))) := Lib.hid (blk_below (blk_new _ _) (below_alloc (Below.refl _ _) _))
  have HR1 : Hid (((w.alloc (.cells #[.int .i64 k, .int .i64 m, .int .i64 p, .int .i64 d] 23)).alloc (.cells zM 28)).heap[w.heap.size + 1]? = some (.cells zM 28 (0, 0))) := Lib.hid (by
    have h := blk_new (w.alloc (.cells #[.int .i64 k, .int .i64 m, .int .i64 p, .int .i64 d] 23)) (.cells zM 28)
    rw [hs1] at h
    exact h)
  have HB1 := Lib.hid (below_alloc (below_alloc (Below.refl w.heap.size w) (.cells #[.int .i64 k, .int .i64 m, .int .i64 p, .int .i64 d] 23)) (.cells zM 28))
  have HC1 := Lib.hid (Kd.C_below hx HB1.out)
  obtain ⟨w1, hw1⟩ : ∃ w1, w1 = ((w.alloc (.cells #[.int .i64 k, .int .i64 m, .int .i64 p, .int .i64 d] 23)).alloc (.cells zM 28)) := ⟨_, rfl⟩
  have HWN := Lib.hid hw1
  rw [← hw1] at HP1 HR1 HB1 HC1 hs2
  have HSZ := Lib.hid hs2
  have HL := Lib.hid hl
  have HC0 := Lib.hid hx
  have T := Lib.hid (new_calls k m p d w1)
  have c0 := blk_cell HP1.out 0
  have c1 := blk_cell HP1.out 1
  have c2 := blk_cell HP1.out 2
  have c3 := blk_cell HP1.out 3
  rw [HWN.out] at c0 c1 c2 c3
  rw [hp] at T
  simp only [if_true] at T
  have HPB := Lib.hid hp
  clear hx hl hw1 hs1 hs2 hp
  go_enter Try.func9, Try.ntmps9
  go_wp2_with fail
  rw [← HWN.out]
  refine T.out.mono ?_
  rintro e w2 ⟨rfl, hb⟩
  have HB2 := Lib.hid (below_then HB1.out HB1.out.size hb)
  have HR2 := Lib.hid (blk_below HR1.out hb)
  have HC2 := Lib.hid (Kd.C_below HC1.out hb)
  have HS2 : Hid (w.heap.size + 2 ≤ w2.heap.size) := Lib.hid (by have := HSZ.out; have := hb.size; omega)
  clear hb c0 c1 c2 c3 T HP1 HR1 HB1 HC1 HWN HSZ
  unfold firstM
  have HM3 : Hid ((w2.alloc (.cells (firstM k m p d) 28)).heap[w2.heap.size]? = some (.cells (firstM k m p d) 28 (0, 0))) := Lib.hid (blk_new _ _)
  have HR3 := Lib.hid (blk_alloc HR2.out (.cells (firstM k m p d) 28))
  have HB3 := Lib.hid (below_alloc HB2.out (.cells (firstM k m p d) 28))
  have HC3 := Lib.hid (Kd.C_alloc HC2.out (.cells (firstM k m p d) 28))
  obtain ⟨w3, hw3⟩ : ∃ w3, w3 = w2.alloc (.cells (firstM k m p d) 28) := ⟨_, rfl⟩
  obtain ⟨g7, hg7⟩ : ∃ g7, g7 = w2.heap.size := ⟨_, rfl⟩
  have HW3 := Lib.hid hw3
  have HG7 : Hid (w.heap.size + 2 ≤ g7) := Lib.hid (by rw [hg7]; exact HS2.out)
  have hg7' := Lib.hid hg7
  rw [← hw3] at HM3 HR3 HB3 HC3
  rw [← hg7] at HM3
  have HT3 : Hid (Two w3 w.heap.size (w.heap.size + 1) g7 (.slice none 0 0) [] (.slice none 0 0) []) := Lib.hid ⟨Kd.R_nil _ _ _ _ _, Kd.R_nil _ _ _ _ _⟩
  clear hw3 hg7 HR2 HB2 HC2 HS2
  go_wp2_with fail
  unfold firstM at HM3 HW3
  rw [← HW3.out, ← hg7'.out]
  clear HW3 hg7'
  go_loopw [9, 25] (fun v9 i' wr => ∃ (n : Nat) (ep : Int) (l : List Od) (es : List Int) (A1 : Option Addr) (c1 : Nat), i' = .int .i64 n ∧ Hid (n ≤ cs.length) ∧ Hid (Stp k m p d (cs.take n) ep l es) ∧ Hid (wr.heap[g7]? = some (.cells #[.int .i64 ep, .int .i64 k, .int .i64 m, .int .i64 p, .int .i64 d, .slice A1 l.length c1] 28 (0, 0))) ∧ Hid (Two wr w.heap.size (w.heap.size + 1) g7 (.slice A1 l.length c1) l v9 es) ∧ Hid (wr.heap[w.heap.size + 1]? = some (.cells zM 28 (0, 0))) ∧ Hid (Below w.heap.size w wr)) (fun _ i' _ => (cs.length - intOf i').toNat)
  case atStart => exact ⟨0, 0, [], [], none, 0, rfl, Lib.hid (Nat.zero_le _), Lib.hid Stp.nil, HM3, HT3, HR3, HB3⟩
  case round =>
    obtain ⟨n, ep, l, es, A1, c1, rfl, HNL, HST, HM, HT, HR, HB⟩ := hrel
    have hn := HNL.out
    have hl3 := HL.out
    by_cases h : n < cs.length
    · have hlt : decide (n < cs.length) = true := decide_eq_true h
      have hltI : decide ((n : Int) < (cs.length : Int)) = true := decide_eq_true (by omega)
      have i0 : (0 : Int) ≤ n := by omega
      have i1 : (n : Int) < cs.length := by omega
      have i2 : n < 300 := by omega
      have i3 : (n : Int) < 300 := by omega
      have HNI := Lib.hid h
      obtain ⟨ac, c, hc, hA, b0, b1, b2, b3, b4, b5, b6, b7, b8⟩ := at_C (Kd.C_below HC0.out HB.out) n h
      subst hA
      have HTK : Hid (cs.take (n + 1) = cs.take n ++ [c]) := Lib.hid (by obtain ⟨q1, q2⟩ := List.getElem?_eq_some_iff.1 hc; rw [List.take_succ_eq_append_getElem q1, q2])
      have HMB : Hid (mayB ep k m p d l = true) := Lib.hid (steps_may HST.out HPB.out)
      have HEP := Lib.hid (may_ep01 HMB.out)
      have HEL : Hid (es.length ≤ n) := Lib.hid (by rw [steps_len HST.out]; have := List.length_take_le n cs; omega)
      clear hc hn h
      obtain ⟨wv, hwv⟩ : ∃ wv, wv = wr.alloc (.cells #[.int .i64 c.kd, .int .i64 c.o.f0, .bool c.o.f1, .bool c.o.f2, .int .i64 c.o.f3, .int .i64 c.o.f4, .int .i64 c.o.f5, .int .i64 c.o.f6, .int .i64 c.o.f7] 39) := ⟨_, rfl⟩
      have HBA := Lib.hid (below_alloc (Below.refl wr.heap.size wr) (.cells #[.int .i64 c.kd, .int .i64 c.o.f0, .bool c.o.f1, .bool c.o.f2, .int .i64 c.o.f3, .int .i64 c.o.f4, .int .i64 c.o.f5, .int .i64 c.o.f6, .int .i64 c.o.f7] 39))
      have HCV : Hid ((wr.alloc (.cells #[.int .i64 c.kd, .int .i64 c.o.f0, .bool c.o.f1, .bool c.o.f2, .int .i64 c.o.f3, .int .i64 c.o.f4, .int .i64 c.o.f5, .int .i64 c.o.f6, .int .i64 c.o.f7] 39)).heap[wr.heap.size]? = some (.cells #[.int .i64 c.kd, .int .i64 c.o.f0, .bool c.o.f1, .bool c.o.f2, .int .i64 c.o.f3, .int .i64 c.o.f4, .int .i64 c.o.f5, .int .i64 c.o.f6, .int .i64 c.o.f7] 39 (0, 0))) := Lib.hid (blk_new _ _)
      have HBV := Lib.hid (below_alloc HB.out (.cells #[.int .i64 c.kd, .int .i64 c.o.f0, .bool c.o.f1, .bool c.o.f2, .int .i64 c.o.f3, .int .i64 c.o.f4, .int .i64 c.o.f5, .int .i64 c.o.f6, .int .i64 c.o.f7] 39))
      have HMV := Lib.hid (blk_alloc HM.out (.cells #[.int .i64 c.kd, .int .i64 c.o.f0, .bool c.o.f1, .bool c.o.f2, .int .i64 c.o.f3, .int .i64 c.o.f4, .int .i64 c.o.f5, .int .i64 c.o.f6, .int .i64 c.o.f7] 39))
      have HRV := Lib.hid (blk_alloc HR.out (.cells #[.int .i64 c.kd, .int .i64 c.o.f0, .bool c.o.f1, .bool c.o.f2, .int .i64 c.o.f3, .int .i64 c.o.f4, .int .i64 c.o.f5, .int .i64 c.o.f6, .int .i64 c.o.f7] 39))
      have HTV := Lib.hid (HT.out.below HBA.out)
      have HGL : Hid (g7 < wr.heap.size) := Lib.hid (blk_lt HM.out)
      have HRL : Hid (w.heap.size + 1 < wr.heap.size) := Lib.hid (blk_lt HR.out)
      have HWV := Lib.hid hwv
      rw [← hwv] at HBA HCV HBV HMV HRV HTV
      have TA := Lib.hid (aapply_calls ep k m p d A1 c1 l c.kd c.o wv (Kd.R_reads' HTV.out.row).2.2 (wf_may HMB.out))
      unfold boxM chA at TA
      clear hwv HB HM HR HT
      have m0 := blk_cell HMV.out 0
      have m1 := blk_cell HMV.out 1
      have m2 := blk_cell HMV.out 2
      have m3 := blk_cell HMV.out 3
      have m4 := blk_cell HMV.out 4
      have m5 := blk_cell HMV.out 5
      have e0 := blk_cell HCV.out 0
      have e1 := blk_cell HCV.out 1
      have e2 := blk_cell HCV.out 2
      have e3 := blk_cell HCV.out 3
      have e4 := blk_cell HCV.out 4
      have e5 := blk_cell HCV.out 5
      have e6 := blk_cell HCV.out 6
      have e7 := blk_cell HCV.out 7
      have e8 := blk_cell HCV.out 8
      rw [HWV.out] at m0 m1 m2 m3 m4 m5 e0 e1 e2 e3 e4 e5 e6 e7 e8
      go_wp2_with fail
      rw [← HWV.out]
      refine TA.out.mono ?_
      rintro e w4 ⟨er, l', ha, hb, hres⟩
      have HAN := Lib.hid ha
      have HB4 := Lib.hid (below_then HBV.out HBV.out.size hb)
      have HM4 := Lib.hid (blk_below HMV.out hb)
      have HR4 := Lib.hid (blk_below HRV.out hb)
      have HT4 := Lib.hid (HTV.out.below hb)
      have HGL4 : Hid (g7 < w4.heap.size) := Lib.hid (blk_lt HM4.out)
      have HRL4 : Hid (w.heap.size + 1 < w4.heap.size) := Lib.hid (blk_lt HR4.out)
      have HGV : Hid (g7 < wv.heap.size ∧ w.heap.size + 1 < wv.heap.size) := Lib.hid ⟨blk_lt HMV.out, blk_lt HRV.out⟩
      have HBW := Lib.hid hb
      clear ha hb m0 m1 m2 m3 m4 m5 e0 e1 e2 e3 e4 e5 e6 e7 e8 TA HMV HRV HCV b0 b1 b2 b3 b4 b5 b6 b7 b8
      rcases hres with ⟨hne, rfl⟩ | ⟨rfl, A2, c2, rfl, hr2⟩
      · have q1 : (er == 0) = false := by simpa using hne
        have q2 : decide (er = 0) = false := decide_eq_false hne
        have HST2 : Hid (Stp k m p d (cs.take (n + 1)) ep l (es ++ [er])) := Lib.hid (by rw [HTK.out]; exact Stp.no HST.out HAN.out hne)
        clear hne
        have HB5 := Lib.hid (below_alloc HB4.out (.cells zM 28))
        have HM5 := Lib.hid (blk_alloc HM4.out (.cells zM 28))
        have HR5 := Lib.hid (blk_alloc HR4.out (.cells zM 28))
        have HT5 := Lib.hid (HT4.out.below (below_alloc (Below.refl _ _) (.cells zM 28)))
        obtain ⟨w5, hw5⟩ : ∃ w5, w5 = w4.alloc (.cells zM 28) := ⟨_, rfl⟩
        have HW5 := Lib.hid hw5
        rw [← hw5] at HB5 HM5 HR5 HT5
        have HGL5 : Hid (g7 < w5.heap.size) := Lib.hid (blk_lt HM5.out)
        have HRL5 : Hid (w.heap.size + 1 < w5.heap.size) := Lib.hid (blk_lt HR5.out)
        have HAT : Hid ((∀ v9 : Value, Two w5 w.heap.size (w.heap.size + 1) g7 (.slice A1 l.length c1) l v9 es → some g7 ≠ v9.ownBlock ∧ some (w.heap.size + 1) ≠ v9.ownBlock)) := Lib.hid (fun v9 hT => ⟨fun e => (hT.told.1 _ e.symm).1.2 rfl, fun e => (hT.told.1 _ e.symm).1.1 rfl⟩)
        clear HB4 HM4 HR4 HT4 HW5
        subst hw5
        have HATX : Hid (some g7 ≠ Value.ownBlock u9 ∧ some (w.heap.size + 1) ≠ Value.ownBlock u9) := Lib.hid ⟨fun e => (HT5.out.told.1 _ e.symm).1.2 rfl, fun e => (HT5.out.told.1 _ e.symm).1.1 rfl⟩
        go_wp2_with (first | (at_builtin; go_must (refine Kd.R_append kE (w0 := w) w.heap.size rfl _ _ 29 30 (.int .i64 0) 8 rfl Try.underlying29 infoE rfl (by decide) (by decide) _ _ er [.int .i64 er] (fun k => (k ≠ w.heap.size + 1 ∧ k ≠ g7) ∧ some k ≠ (Value.slice A1 l.length c1).ownBlock) (fun _ => False) rfl (by first | rfl | (simp only [World.alloc, Array.size_push]; rfl)) rfl (fun _ hk => hk.elim) (HT5.out.fresh HRL5.out HGL5.out) (by exact HT5.out.told) (by exact HB5.out) (by exact HB5.out.size) ?hl ?_; (case hl => have h1 := HNL.out; have h2 := HL.out; have h3 := HEL.out; omega); intro v12 w12 ho hb hg hat; have HT12 := Lib.hid (HT5.out.more hg hat ho); have HB12 := Lib.hid hb; have HM12 := Lib.hid (blk_grown HM5.out hg ((by have h1 := HATX.out; exact h1.1))); have HR12 := Lib.hid (blk_grown HR5.out hg ((by have h1 := HATX.out; exact h1.2))); clear ho hb hg hat)))
        go_roundw
        case rel => exact ⟨n + 1, _, _, _, _, _, by go_num, Lib.hid (by have := HNI.out; omega), Lib.hid HST2.out, HM12, HT12, HR12, HB12⟩
        case measure => have := HNI.out; simp only [intOf]; omega
      · have HST2 : Hid (Stp k m p d (cs.take (n + 1)) (ep + 1) l' (es ++ [0])) := Lib.hid (by rw [HTK.out]; exact Stp.ok HST.out HAN.out)
        have HT5a := Lib.hid (HTV.out.turn HBW.out HGV.out.2 HGV.out.1 HBV.out.size hr2)
        clear hr2
        have HBN := Lib.hid (below_alloc (Below.refl w4.heap.size w4) (.cells #[.int .i64 (ep + 1), .int .i64 k, .int .i64 m, .int .i64 p, .int .i64 d, .slice A2 l'.length c2] 28))
        have HB5 := Lib.hid (below_alloc HB4.out (.cells #[.int .i64 (ep + 1), .int .i64 k, .int .i64 m, .int .i64 p, .int .i64 d, .slice A2 l'.length c2] 28))
        have HM5 := Lib.hid (blk_alloc HM4.out (.cells #[.int .i64 (ep + 1), .int .i64 k, .int .i64 m, .int .i64 p, .int .i64 d, .slice A2 l'.length c2] 28))
        have HR5 := Lib.hid (blk_alloc HR4.out (.cells #[.int .i64 (ep + 1), .int .i64 k, .int .i64 m, .int .i64 p, .int .i64 d, .slice A2 l'.length c2] 28))
        have HN5 : Hid ((w4.alloc (.cells #[.int .i64 (ep + 1), .int .i64 k, .int .i64 m, .int .i64 p, .int .i64 d, .slice A2 l'.length c2] 28)).heap[w4.heap.size]? = some (.cells #[.int .i64 (ep + 1), .int .i64 k, .int .i64 m, .int .i64 p, .int .i64 d, .slice A2 l'.length c2] 28 (0, 0))) := Lib.hid (blk_new _ _)
        have HT5 := Lib.hid (HT5a.out.below HBN.out)
        obtain ⟨w5, hw5⟩ : ∃ w5, w5 = w4.alloc (.cells #[.int .i64 (ep + 1), .int .i64 k, .int .i64 m, .int .i64 p, .int .i64 d, .slice A2 l'.length c2] 28) := ⟨_, rfl⟩
        have HW5 := Lib.hid hw5
        rw [← hw5] at HB5 HM5 HR5 HN5 HT5
        have m0 := blk_cell HN5.out 0
        have m1 := blk_cell HN5.out 1
        have m2 := blk_cell HN5.out 2
        have m3 := blk_cell HN5.out 3
        have m4 := blk_cell HN5.out 4
        have m5 := blk_cell HN5.out 5
        clear HB4 HM4 HR4 HT4 HT5a HBN HW5
        subst hw5
        unfold boxM
        have HATX : Hid (some g7 ≠ Value.ownBlock u9 ∧ some (w.heap.size + 1) ≠ Value.ownBlock u9) := Lib.hid ⟨fun e => (HT5.out.told.1 _ e.symm).1.2 rfl, fun e => (HT5.out.told.1 _ e.symm).1.1 rfl⟩
        go_wp2_with (first | (refine gate_ (.store 28 (.tmp 7) (.tmp 37)) rfl ?_; go_must (refine Stb.store_list rfl rfl 28 (.tmp 7) (.tmp 37) rfl (cur' := #[.int .i64 (ep + 1), .int .i64 k, .int .i64 m, .int .i64 p, .int .i64 d, .slice A2 l'.length c2]) [.int .i64 (ep + 1), .int .i64 k, .int .i64 m, .int .i64 p, .int .i64 d, .slice A2 l'.length c2] (by exact HM5.out) (by rfl) (by rfl) (by rfl) (by kernel_rfl) (Nat.le_of_ble_eq_true rfl) (by rfl) (by rfl) ?_; intro w6 hz_ hg_ hs_; have HM6 := Lib.hid hz_; have HR6 := Lib.hid (blk_grown HR5.out hg_ (fun e => by injection e with e; have := HG7.out; omega)); have HT6 := Lib.hid (HT5.out.set hg_ (.inr rfl)); have HB6 := Lib.hid (Stb.below_grown1 HB5.out hg_ (Nat.le_of_succ_le (Nat.le_of_succ_le HG7.out)) HB5.out.size); have HGL6 : Hid (g7 < w6.heap.size) := Lib.hid (blk_lt hz_); have HRL6 : Hid (w.heap.size + 1 < w6.heap.size) := Lib.hid (blk_lt HR6.out); clear hz_ hg_ hs_)) | (at_builtin; go_must (refine Kd.R_append kE (w0 := w) w.heap.size rfl _ _ 29 30 (.int .i64 0) 8 rfl Try.underlying29 infoE rfl (by decide) (by decide) _ _ 0 [.int .i64 0] (fun k => (k ≠ w.heap.size + 1 ∧ k ≠ g7) ∧ some k ≠ (Value.slice A2 l'.length c2).ownBlock) (fun _ => False) rfl (by first | rfl | (simp only [World.alloc, Array.size_push]; rfl)) rfl (fun _ hk => hk.elim) (HT6.out.fresh HRL6.out HGL6.out) (by exact HT6.out.told) (by exact HB6.out) (by exact HB6.out.size) ?hl ?_; (case hl => have h1 := HNL.out; have h2 := HL.out; have h3 := HEL.out; omega); intro v12 w12 ho hb hg hat; have HT12 := Lib.hid (HT6.out.more hg hat ho); have HB12 := Lib.hid hb; have HM12 := Lib.hid (blk_grown HM6.out hg ((by have h1 := HATX.out; exact h1.1))); have HR12 := Lib.hid (blk_grown HR6.out hg ((by have h1 := HATX.out; exact h1.2))); clear ho hb hg hat)))
        go_roundw
        case rel => exact ⟨n + 1, _, _, _, _, _, by go_num, Lib.hid (by have := HNI.out; omega), Lib.hid HST2.out, HM12, HT12, HR12, HB12⟩
        case measure => have := HNI.out; simp only [intOf]; omega
    · obtain rfl : n = cs.length := by omega
      have hlt : decide (cs.length < cs.length) = false := decide_eq_false (Nat.lt_irrefl _)
      have hltI : decide ((cs.length : Int) < (cs.length : Int)) = false := decide_eq_false (Int.lt_irrefl _)
      clear h hn
      rw [List.take_of_length_le (Nat.le_refl _)] at HST
      have m0 := blk_cell HM.out 0
      have m1 := blk_cell HM.out 1
      have m2 := blk_cell HM.out 2
      have m3 := blk_cell HM.out 3
      have m4 := blk_cell HM.out 4
      have m5 := blk_cell HM.out 5
      go_wp2_with (first | (refine gate_ (.store 28 (.tmp 4) (.tmp 43)) rfl ?_; go_must (refine Stb.store_list rfl rfl 28 (.tmp 4) (.tmp 43) rfl (cur' := #[.int .i64 ep, .int .i64 k, .int .i64 m, .int .i64 p, .int .i64 d, .slice A1 l.length c1]) [.int .i64 ep, .int .i64 k, .int .i64 m, .int .i64 p, .int .i64 d, .slice A1 l.length c1] (by exact HR.out) (by rfl) (by rfl) (by rfl) (by kernel_rfl) (Nat.le_of_ble_eq_true rfl) (by rfl) (by rfl) ?_; intro wf hz_ hg_ hs_; have HF := Lib.hid hz_; have HBF := Lib.hid (Stb.below_grown1 HB.out hg_ (Nat.le_add_right _ 1) HB.out.size); have HTF := Lib.hid (HT.out.set hg_ (.inl rfl)); clear hz_ hg_ hs_)))
      obtain ⟨A9, c9, hv9⟩ := Kd.R_slice HTF.out.told
      subst hv9
      refine bodyPost_ret (results_ctt rfl _ _ (w.heap.size + 1) 28 #[.int .i64 ep, .int .i64 k, .int .i64 m, .int .i64 p, .int .i64 d, .slice A1 l.length c1] (0, 0) _ rfl HF.out Try.underlying28 rfl (by kernel_rfl)) rfl ?_
      exact ⟨ep, l, es, A1, c1, _, rfl, HST.out, Kd.R_mono HTF.out.row (fun _ _ => trivial), Kd.R_mono HTF.out.told (fun _ _ => trivial), HBF.out⟩
end Go.Proofs.Ytfikaekocgofoaa.AtF
/- The law's fixed question of layer 13. -/
set_option linter.unusedSimpArgs false
namespace Go.Proofs.Ytfikaekocgofoaa.AtW
open Go Go.RowKit Go.Proofs.YtfikaekocgofoaaW.PrintWords Go.Proofs.YtfikaekocgofoaaW.PrintLast Go.Proofs.YtfikaekocgofoaaW.PrintMore Mem PAll KW AtA AtB Sl Dsc MayP ApP Fnd PlF Roo Awk McW ApY ApZ ApW AtK AtV AtX AtD AtC AtP Ins AtQ AtR AtS AtF
open CrP hiding Od
def oA : Od := ⟨3, false, false, 0, 0, 0, 0, 0⟩
def oB : Od := ⟨3, false, false, 0, 7, 1, 0, 0⟩
def oC : Od := ⟨9, false, false, 0, 0, 0, 0, 0⟩
def oU : Od := ⟨3, true, false, 0, 7, 1, 0, 0⟩
def threeC : List Chg := [⟨1, oA⟩, ⟨2, oB⟩, ⟨3, oC⟩]
theorem pool_yes : poolB 2 1 4 0 = true := by decide
theorem good_0 : goodB [] = true := goodB_yes (fun _ _ hi _ => absurd hi (Nat.not_lt_zero _))
theorem good_1 {o : Od} (h : osdB o = true) : goodB [o] = true := goodB_yes (fun i q hi hq => by
  obtain rfl : i = 0 := by simp at hi; omega
  obtain rfl : o = q := by simpa using hq
  exact ⟨h, fun j _ hj => absurd hj (Nat.not_lt_zero _)⟩)
theorem may_0 : mayB 0 2 1 4 0 [] = true := by unfold mayB; rw [good_0]; decide
theorem may_1 : mayB 1 2 1 4 0 [oA] = true := by unfold mayB; rw [good_1 (by decide)]; decide
theorem ans_1 : Ans 0 2 1 4 0 [] 1 oA 0 [oA] := by
  have hb : (mayB 0 2 1 4 0 [] && (mayC 1 oA && !((0 : Int) == 1048576))) = true := by rw [may_0]; decide
  refine .inr (.inl ⟨hb, rfl, ?_⟩)
  unfold applyR
  rw [if_neg (by rw [hb]; decide), if_pos rfl, if_neg (by decide), if_neg (by decide)]
  rw [show insA oA [] = [oA] from rfl, show (0 : Int) + 1 = 1 from rfl, if_pos may_1]
theorem ans_2 : Ans 1 2 1 4 0 [oA] 2 oB 0 [oU] := by
  have hb : (mayB 1 2 1 4 0 [oA] && (mayC 2 oB && !((1 : Int) == 1048576))) = true := by rw [may_1]; decide
  exact .inr (.inr ⟨hb, by decide,   .inr ⟨0, oA, rfl, rfl, .inr ⟨by decide, rfl, rfl⟩⟩⟩)
theorem ans_3 : Ans 2 2 1 4 0 [oU] 3 oC 4 [] := by
  have hb : (mayB 2 2 1 4 0 [oU] && (mayC 3 oC && !((2 : Int) == 1048576))) = true := by rw [show mayB 2 2 1 4 0 [oU] = true from ans_may ans_2]; decide
  exact .inr (.inr ⟨hb, by decide, .inl ⟨rfl, rfl⟩⟩)
theorem three_steps : Stp 2 1 4 0 threeC 2 [oU] [0, 0, 4] :=
  Stp.no (cs := [⟨1, oA⟩, ⟨2, oB⟩]) (es := [0, 0]) (Stp.ok (cs := [⟨1, oA⟩]) (es := [0]) (Stp.ok (cs := []) (es := []) Stp.nil ans_1) ans_2) ans_3 (by decide)
theorem three_C {w : World} {g : Nat} (h : w.heap[g]? = some (.cells #[.int .i64 1, .int .i64 3, .bool false, .bool false, .int .i64 0, .int .i64 0, .int .i64 0, .int .i64 0, .int .i64 0, .int .i64 2, .int .i64 3, .bool false, .bool false, .int .i64 0, .int .i64 7, .int .i64 1, .int .i64 0, .int .i64 0, .int .i64 3, .int .i64 9, .bool false, .bool false, .int .i64 0, .int .i64 0, .int .i64 0, .int .i64 0, .int .i64 0] 39 (0, 0))) : kC.C w (some ⟨g, 0, none⟩) threeC.length threeC := by
  refine ⟨rfl, by show 3 ≤ 9223372036854775807; decide, fun _ => ⟨_, rfl, fun j p hj => ?_⟩⟩
  have mk : ∀ c : Chg, kC.K w c (chA c.kd c.o).toList := fun c => ⟨[.int .i64 c.kd], (aggO c.o).toList, rfl, rfl, k37_mkM w 0 (fun _ => True) c.o⟩
  have fin : ∀ (b : Nat) (cs : List Value), cs.length = 9 → (∀ i u, cs[i]? = some u → (#[.int .i64 1, .int .i64 3, .bool false, .bool false, .int .i64 0, .int .i64 0, .int .i64 0, .int .i64 0, .int .i64 0, .int .i64 2, .int .i64 3, .bool false, .bool false, .int .i64 0, .int .i64 7, .int .i64 1, .int .i64 0, .int .i64 0, .int .i64 3, .int .i64 9, .bool false, .bool false, .int .i64 0, .int .i64 0, .int .i64 0, .int .i64 0, .int .i64 0] : Array Value)[b + i]? = some u) → ∀ i u, cs[i]? = some u → w.cell? ((⟨g, 0, none⟩ : Addr).add (b + i)) = some u := by
    intro b cs _ hc i u hu
    rw [add_plain, blk_cell h]
    exact hc i u hu
  match j, hj with
  | 0, hj =>
    obtain rfl := Option.some.inj hj
    exact ⟨_, rfl, mk ⟨1, oA⟩, fin 0 _ rfl (by intro i u hu; match i, hu with | 0, hu => exact hu | 1, hu => exact hu | 2, hu => exact hu | 3, hu => exact hu | 4, hu => exact hu | 5, hu => exact hu | 6, hu => exact hu | 7, hu => exact hu | 8, hu => exact hu | i + 9, hu => cases hu)⟩
  | 1, hj =>
    obtain rfl := Option.some.inj hj
    exact ⟨_, rfl, mk ⟨2, oB⟩, fin 9 _ rfl (by intro i u hu; match i, hu with | 0, hu => exact hu | 1, hu => exact hu | 2, hu => exact hu | 3, hu => exact hu | 4, hu => exact hu | 5, hu => exact hu | 6, hu => exact hu | 7, hu => exact hu | 8, hu => exact hu | i + 9, hu => cases hu)⟩
  | 2, hj =>
    obtain rfl := Option.some.inj hj
    exact ⟨_, rfl, mk ⟨3, oC⟩, fin 18 _ rfl (by intro i u hu; match i, hu with | 0, hu => exact hu | 1, hu => exact hu | 2, hu => exact hu | 3, hu => exact hu | 4, hu => exact hu | 5, hu => exact hu | 6, hu => exact hu | 7, hu => exact hu | 8, hu => exact hu | i + 9, hu => cases hu)⟩
  | j + 3, hj => cases hj
theorem cells_E {w : World} {g n c base : Nat} {ok : Nat → Prop} {xs : List Int} (h : kE.R 30 w base ok (.slice (some ⟨g, 0, none⟩) n c) xs) : ∀ j, j < xs.length → w.cell? ⟨g, j, none⟩ = some (.int .i64 (xs.getD j 0)) := by
  intro j hj
  obtain ⟨hn, _, hC⟩ := Kd.R_reads' h
  have hr : ReadsOf (Value.int .i64) (0 : Int) w (some ⟨g, 0, none⟩) xs.length xs := Kd.reads_of_C hC
  obtain ⟨ad, e, hc⟩ := hr.2.2 (by omega)
  injection e with e
  subst e
  have h2 := hc j hj
  rw [show (⟨g, 0, none⟩ : Addr).add j = ⟨g, j, none⟩ by unfold Addr.add; split <;> simp_all] at h2
  exact h2
set_option maxHeartbeats 8000000 in
set_option maxRecDepth 100000 in
theorem awake13_calls (w : World) : Calls Try.prog 8 #[] w fun e w' => e = .returned (.bool true) ∧ Below w.heap.size w w' := by
  have HB1 := Lib.hid (below_alloc (Below.refl w.heap.size w) (.cells #[.int .i64 1, .int .i64 3, .bool false, .bool false, .int .i64 0, .int .i64 0, .int .i64 0, .int .i64 0, .int .i64 0, .int .i64 2, .int .i64 3, .bool false, .bool false, .int .i64 0, .int .i64 7, .int .i64 1, .int .i64 0, .int .i64 0, .int .i64 3, .int .i64 9, .bool false, .bool false, .int .i64 0, .int .i64 0, .int .i64 0, .int .i64 0, .int .i64 0] 39))
  have T := Lib.hid (fold_ok 2 1 4 0 (some ⟨w.heap.size, 0, none⟩) 3 threeC (w.alloc (.cells #[.int .i64 1, .int .i64 3, .bool false, .bool false, .int .i64 0, .int .i64 0, .int .i64 0, .int .i64 0, .int .i64 0, .int .i64 2, .int .i64 3, .bool false, .bool false, .int .i64 0, .int .i64 7, .int .i64 1, .int .i64 0, .int .i64 0, .int .i64 3, .int .i64 9, .bool false, .bool false, .int .i64 0, .int .i64 0, .int .i64 0, .int .i64 0, .int .i64 0] 39)) (three_C (blk_new _ _)) (by decide) pool_yes)
  have e3 : threeC.length = 3 := rfl
  rw [e3] at T
  clear e3
  go_enter Try.func8, Try.ntmps8
  go_wp2_with fail
  refine T.out.mono ?_
  rintro e w2 ⟨ep, l, es, A', c', v, rfl, hs, hr, ht, hb⟩
  obtain ⟨rfl, rfl, rfl⟩ := steps_one hs three_steps
  have HB2 := Lib.hid (below_then HB1.out HB1.out.size hb)
  obtain ⟨gt, ct, rfl, _⟩ := Kd.R_form ht (by decide)
  have x2 : w2.cell? ⟨gt, 2, none⟩ = some (.int .i64 4) := cells_E ht 2 (by decide)
  have HX := Lib.hid x2
  have HC2 := Lib.hid (Kd.R_reads' hr).2.2
  clear hs hr ht hb T x2 HB1
  unfold boxM
  simp only [List.length_cons, List.length_nil, Nat.zero_add, Nat.reduceAdd]
  have HM3 : Hid ((w2.alloc (.cells #[.int .i64 2, .int .i64 2, .int .i64 1, .int .i64 4, .int .i64 0, .slice A' 1 c'] 28)).heap[w2.heap.size]? = some (.cells #[.int .i64 2, .int .i64 2, .int .i64 1, .int .i64 4, .int .i64 0, .slice A' 1 c'] 28 (0, 0))) := Lib.hid (blk_new _ _)
  have HB3 := Lib.hid (below_alloc HB2.out (.cells #[.int .i64 2, .int .i64 2, .int .i64 1, .int .i64 4, .int .i64 0, .slice A' 1 c'] 28))
  have TF := Lib.hid (aFind_calls 2 2 1 4 0 A' c' [oU] 3 _ (Kd.C_alloc HC2.out (.cells #[.int .i64 2, .int .i64 2, .int .i64 1, .int .i64 4, .int .i64 0, .slice A' 1 c'] 28)))
  rw [show descV (findO [oU] 3) = .tuple #[.agg #[.int .i64 3, .bool true, .bool false, .int .i64 0, .int .i64 7, .int .i64 1, .int .i64 0, .int .i64 0], .bool true] from rfl] at TF
  unfold boxM at TF
  have m0 := blk_cell HM3.out 0
  have m1 := blk_cell HM3.out 1
  have m2 := blk_cell HM3.out 2
  have m3 := blk_cell HM3.out 3
  have m4 := blk_cell HM3.out 4
  have m5 := blk_cell HM3.out 5
  go_wp2_with fail
  refine TF.out.mono ?_
  rintro e w4 ⟨rfl, hb⟩
  have HB4 := Lib.hid (below_then HB3.out HB3.out.size hb)
  have HM4 := Lib.hid (blk_below HM3.out hb)
  have HX4 := Lib.hid (pw_cell_below hb (cell_alloc HX.out (.cells #[.int .i64 2, .int .i64 2, .int .i64 1, .int .i64 4, .int .i64 0, .slice A' 1 c'] 28)))
  clear hb m0 m1 m2 m3 m4 m5 TF HB3 HM3 HX
  have HB5 := Lib.hid (below_alloc HB4.out (.cells #[.int .i64 3, .bool true, .bool false, .int .i64 0, .int .i64 7, .int .i64 1, .int .i64 0, .int .i64 0] 37))
  have HO5 : Hid ((w4.alloc (.cells #[.int .i64 3, .bool true, .bool false, .int .i64 0, .int .i64 7, .int .i64 1, .int .i64 0, .int .i64 0] 37)).heap[w4.heap.size]? = some (.cells #[.int .i64 3, .bool true, .bool false, .int .i64 0, .int .i64 7, .int .i64 1, .int .i64 0, .int .i64 0] 37 (0, 0))) := Lib.hid (blk_new _ _)
  have m0 := blk_cell (blk_alloc HM4.out (.cells #[.int .i64 3, .bool true, .bool false, .int .i64 0, .int .i64 7, .int .i64 1, .int .i64 0, .int .i64 0] 37)) 0
  have x2 := cell_alloc HX4.out (.cells #[.int .i64 3, .bool true, .bool false, .int .i64 0, .int .i64 7, .int .i64 1, .int .i64 0, .int .i64 0] 37)
  have y1 := blk_cell HO5.out 1
  have y4 := blk_cell HO5.out 4
  go_wp2_with fail
  go_ret
  exact ⟨rfl, HB5.out⟩
end Go.Proofs.Ytfikaekocgofoaa.AtW
/- Are maps alike? Both answers. -/
set_option linter.unusedSimpArgs false
namespace Go.Proofs.Ytfikaekocgofoaa.AtE
open Go Go.RowKit Go.Proofs.YtfikaekocgofoaaW.PrintWords Go.Proofs.YtfikaekocgofoaaW.PrintLast Go.Proofs.YtfikaekocgofoaaW.PrintMore Mem PAll KW AtA AtB Sl Dsc MayP ApP Fnd PlF Roo Awk McW ApY ApZ ApW AtK AtV AtX AtD AtC AtP Ins AtQ AtR AtS AtF AtW
open CrP hiding Od
theorem cond_eq (a b : Od) : (!(a.f0 == b.f0) || (!(a.f1 == b.f1) || (!(a.f2 == b.f2) || (!(a.f3 == b.f3) || (!(a.f4 == b.f4) || (!(a.f5 == b.f5) || (!(a.f6 == b.f6) || (!(a.f7 == b.f7))))))))) = !(eqO a b) := by
  unfold eqO
  simp only [Bool.not_and]
theorem eqO_iff' {a b : Od} : eqO a b = true ↔ a = b := by
  unfold eqO
  cases a
  cases b
  simp only [Bool.and_eq_true, beq_iff_eq, S37.mk.injEq]
instance : DecidableEq Od := fun a b => decidable_of_iff (eqO a b = true) eqO_iff'
theorem rd_get {l : List Od} {i : Nat} (h : i < l.length) : rd_T37 l (i : Int) = l[i] := by
  unfold rd_T37
  rw [Int.toNat_natCast, List.getD_eq_getElem?_getD, List.getElem?_eq_getElem h]
  rfl
theorem drop_eq {l l' : List Od} {i : Nat} (h : i < l.length) (h' : i < l'.length) : decide (l.drop i = l'.drop i) = (eqO l[i] l'[i] && decide (l.drop (i + 1) = l'.drop (i + 1))) := by
  rw [List.drop_eq_getElem_cons h, List.drop_eq_getElem_cons h', Bool.eq_iff_iff]
  simp only [Bool.and_eq_true, decide_eq_true_eq, List.cons.injEq, eqO_iff']
theorem wrap_succ {i n : Nat} (h : i < n) (hn : n ≤ 9223372036854775807) : wrap64 ((i : Int) + 1) = ((i + 1 : Nat) : Int) := by
  unfold wrap64
  omega
theorem rsame_l0 (e k m p d e' k' m' p' d' : Int) (l l' : List Od) (hlen : l.length = l'.length) (hm : l.length ≤ 9223372036854775807) : ∀ (r i : Nat), i + r = l.length → ∃ K, mooringref13_Same.l0 K (i : Int) e k m p d l e' k' m' p' d' l' = some (decide (l.drop i = l'.drop i)) := by
  intro r
  induction r with
  | zero =>
    intro i hi
    refine ⟨1, ?_⟩
    simp only [mooringref13_Same.l0]
    rw [if_neg (by omega), List.drop_eq_nil_of_le (by omega), List.drop_eq_nil_of_le (by omega)]
    simp
  | succ r ih =>
    intro i hi
    obtain ⟨K, hK⟩ := ih (i + 1) (by omega)
    have h1 : i < l.length := by omega
    have h2 : i < l'.length := by omega
    refine ⟨K + 1, ?_⟩
    simp only [mooringref13_Same.l0]
    rw [if_pos (by omega), if_pos (by omega), if_pos (by omega), rd_get h1, rd_get h2, cond_eq, drop_eq h1 h2, wrap_succ h1 hm]
    cases hq : eqO l[i] l'[i]
    · rfl
    · rw [if_neg (by decide), hK]
      rfl
theorem asame_l0 (l l' : List Od) (hlen : l.length = l'.length) (hm : l.length ≤ 9223372036854775807) : ∀ (r i : Nat), i + r = l.length → ∃ K, api_Osd.l0 K l l' (l.length : Int) (i : Int) = some (decide (l.drop i = l'.drop i)) := by
  intro r
  induction r with
  | zero =>
    intro i hi
    refine ⟨1, ?_⟩
    simp only [api_Osd.l0]
    rw [if_neg (by omega), List.drop_eq_nil_of_le (by omega), List.drop_eq_nil_of_le (by omega)]
    simp
  | succ r ih =>
    intro i hi
    obtain ⟨K, hK⟩ := ih (i + 1) (by omega)
    have h1 : i < l.length := by omega
    have h2 : i < l'.length := by omega
    refine ⟨K + 1, ?_⟩
    simp only [api_Osd.l0]
    rw [if_pos (by omega), if_pos (by omega), if_pos (by omega), if_pos (by omega), rd_get h1, rd_get h2, cond_eq, drop_eq h1 h2, wrap_succ h1 hm]
    cases hq : eqO l[i] l'[i]
    · rfl
    · rw [if_neg (by decide), hK]
      rfl
def sameB (e k m p d : Int) (l : List Od) (e' k' m' p' d' : Int) (l' : List Od) : Bool := (e == e' && (k == k' && (m == m' && (p == p' && d == d')))) && decide (l = l')
theorem same_self (e k m p d : Int) (l : List Od) : sameB e k m p d l e k m p d l = true := by unfold sameB; simp
theorem rsame_f (e k m p d e' k' m' p' d' : Int) (l l' : List Od) (hm : l.length ≤ 9223372036854775807) : ∃ K, mooringref13_Same.f K e k m p d l e' k' m' p' d' l' = some (sameB e k m p d l e' k' m' p' d' l') := by
  by_cases he : e = e'
  · have q1 : (e == e') = true := by simpa using he
    cases hp : (k == k' && (m == m' && (p == p' && d == d'))) with
    | false =>
      refine ⟨1, ?_⟩
      unfold mooringref13_Same.f sameB
      rw [if_pos he, q1, hp, if_pos (by rw [show (!(k == k') || (!(m == m') || (!(p == p') || !(d == d')))) = !(k == k' && (m == m' && (p == p' && d == d'))) by simp only [Bool.not_and], hp]; rfl)]
      rfl
    | true =>
      by_cases hl : l.length = l'.length
      · obtain ⟨K, hK⟩ := rsame_l0 e k m p d e' k' m' p' d' l l' hl hm l.length 0 (by omega)
        refine ⟨K + 1, ?_⟩
        unfold mooringref13_Same.f sameB
        rw [if_pos he, q1, hp, if_neg (by rw [show (!(k == k') || (!(m == m') || (!(p == p') || !(d == d')))) = !(k == k' && (m == m' && (p == p' && d == d'))) by simp only [Bool.not_and], hp]; decide)]
        simp only [mooringref13_Same.j0]
        rw [if_neg (by simp [hl])]
        rw [List.drop_zero, List.drop_zero] at hK
        exact hK
      · refine ⟨1, ?_⟩
        unfold mooringref13_Same.f sameB
        rw [if_pos he, q1, hp, if_neg (by rw [show (!(k == k') || (!(m == m') || (!(p == p') || !(d == d')))) = !(k == k' && (m == m' && (p == p' && d == d'))) by simp only [Bool.not_and], hp]; decide)]
        simp only [mooringref13_Same.j0]
        have hb : ((l.length : Int) != (l'.length : Int)) = true := by simp; omega
        rw [if_pos hb, decide_eq_false (fun h => hl (congrArg List.length h))]
        rfl
  · refine ⟨1, ?_⟩
    unfold mooringref13_Same.f sameB
    have q1 : (e == e') = false := by simpa using he
    rw [if_neg he, q1]
    rfl
theorem asame_f (e k m p d e' k' m' p' d' : Int) (l l' : List Od) (hm : l.length ≤ 9223372036854775807) : ∃ K, atlas_Same.f K e k m p d l e' k' m' p' d' l' = some (sameB e k m p d l e' k' m' p' d' l') := by
  by_cases he : e = e'
  · have q1 : (e == e') = true := by simpa using he
    cases hp : (k == k' && (m == m' && (p == p' && d == d'))) with
    | false =>
      refine ⟨1, ?_⟩
      unfold atlas_Same.f sameB
      rw [if_pos he, q1, hp, if_neg (by decide)]
      rfl
    | true =>
      by_cases hl : l.length = l'.length
      · obtain ⟨K, hK⟩ := asame_l0 l l' hl hm l.length 0 (by omega)
        refine ⟨K, ?_⟩
        unfold atlas_Same.f sameB
        rw [if_pos he, q1, hp, if_pos rfl]
        unfold api_Osd.f
        rw [List.drop_zero, List.drop_zero] at hK
        rw [if_pos (by omega)]
        have e0 : ((0 : Nat) : Int) = 0 := rfl
        rw [e0] at hK
        rw [hK]
        rfl
      · refine ⟨1, ?_⟩
        unfold atlas_Same.f sameB
        rw [if_pos he, q1, hp, if_pos rfl]
        unfold api_Osd.f
        rw [if_neg (by omega), decide_eq_false (fun h => hl (congrArg List.length h))]
        rfl
  · refine ⟨1, ?_⟩
    unfold atlas_Same.f sameB
    have q1 : (e == e') = false := by simpa using he
    rw [if_neg he, q1]
    rfl
section
variable (e k m p d : Int) (A : Option Addr) (c : Nat) (l : List Od) (e' k' m' p' d' : Int) (A' : Option Addr) (c' : Nat) (l' : List Od) (w : World)
theorem rsame_calls (hx : kO.C w A l.length l) (hc : l.length ≤ c) (hx' : kO.C w A' l'.length l') (hc' : l'.length ≤ c') : Calls Try.prog 12 #[.agg (boxM e k m p d A c l), .agg (boxM e' k' m' p' d' A' c' l')] w fun en w' => en = .returned (.bool (sameB e k m p d l e' k' m' p' d' l')) ∧ Below w.heap.size w w' := by
  obtain ⟨K, hK⟩ := rsame_f e k m p d e' k' m' p' d' l l' hx.2.1
  exact mooringref13_Same.calls K e k m p d A c l e' k' m' p' d' A' c' l' _ w hx hc hx' hc' hK
theorem asame_calls (hx : kO.C w A l.length l) (hc : l.length ≤ c) (hx' : kO.C w A' l'.length l') (hc' : l'.length ≤ c') : Calls Try.prog 14 #[.agg (boxM e k m p d A c l), .agg (boxM e' k' m' p' d' A' c' l')] w fun en w' => en = .returned (.bool (sameB e k m p d l e' k' m' p' d' l')) ∧ Below w.heap.size w w' := by
  obtain ⟨K, hK⟩ := asame_f e k m p d e' k' m' p' d' l l' hx.2.1
  exact atlas_Same.calls K e k m p d A c l e' k' m' p' d' A' c' l' _ w hx hc hx' hc' hK
end
end Go.Proofs.Ytfikaekocgofoaa.AtE
/- AtlasApplies: what the row asks for. -/
set_option linter.unusedSimpArgs false
namespace Go.Proofs.Ytfikaekocgofoaa.LaA
open Go Go.RowKit Go.Proofs.YtfikaekocgofoaaW.PrintWords Go.Proofs.YtfikaekocgofoaaW.PrintLast Go.Proofs.YtfikaekocgofoaaW.PrintMore Mem PAll KW AtA AtB Sl Dsc MayP ApP Fnd PlF Roo Awk McW ApY ApZ ApW AtK AtV AtX AtD AtC AtP Ins AtQ AtR AtS AtF AtW AtE
open CrP hiding Od
/-- What is answered, in one shape. -/
def Val (ep k m p d er E K1 M1 P1 D1 : Int) (l' L1 : List Od) : Prop := (er ≠ 0 ∧ E = 0 ∧ K1 = 0 ∧ M1 = 0 ∧ P1 = 0 ∧ D1 = 0 ∧ L1 = []) ∨ (er = 0 ∧ E = ep + 1 ∧ K1 = k ∧ M1 = m ∧ P1 = p ∧ D1 = d ∧ L1 = l')
theorem told_uni {ep k m p d : Int} {l : List Od} {kd : Int} {o : Od} {w w' : World} {e : Ending} (h : AtR.Told ep k m p d l kd o w e w') : ∃ (er : Int) (l' : List Od) (E K1 M1 P1 D1 : Int) (L1 : List Od) (A' : Option Addr) (c' : Nat), Ans ep k m p d l kd o er l' ∧ Val ep k m p d er E K1 M1 P1 D1 l' L1 ∧ e = .returned (.tuple #[.agg (boxM E K1 M1 P1 D1 A' c' L1), .int .i64 er]) ∧ L1.length ≤ c' ∧ kO.C w' A' L1.length L1 ∧ Below w.heap.size w w' := by
  obtain ⟨er, l', ha, hb, ⟨hne, rfl⟩ | ⟨rfl, A', c', rfl, hr⟩⟩ := h
  · exact ⟨er, l', 0, 0, 0, 0, 0, [], none, 0, ha, .inl ⟨hne, rfl, rfl, rfl, rfl, rfl, rfl⟩, rfl, Nat.le_refl _, Kd.C_nil _ _, hb⟩
  · exact ⟨0, l', ep + 1, k, m, p, d, l', A', c', ha, .inr ⟨rfl, rfl, rfl, rfl, rfl, rfl, rfl⟩, rfl, (Kd.R_reads' hr).2.1, (Kd.R_reads' hr).2.2, hb⟩
theorem val_one {ep k m p d er E K1 M1 P1 D1 E2 K2 M2 P2 D2 : Int} {l' L1 l2 L2 : List Od} (h : Val ep k m p d er E K1 M1 P1 D1 l' L1) (h2 : Val ep k m p d er E2 K2 M2 P2 D2 l2 L2) (hl : er = 0 → l' = l2) : E = E2 ∧ K1 = K2 ∧ M1 = M2 ∧ P1 = P2 ∧ D1 = D2 ∧ L1 = L2 := by
  rcases h with ⟨hn, rfl, rfl, rfl, rfl, rfl, rfl⟩ | ⟨h0, rfl, rfl, rfl, rfl, rfl, rfl⟩ <;> rcases h2 with ⟨hn2, rfl, rfl, rfl, rfl, rfl, rfl⟩ | ⟨h02, rfl, rfl, rfl, rfl, rfl, rfl⟩
  · exact ⟨rfl, rfl, rfl, rfl, rfl, rfl⟩
  · exact absurd h02 hn
  · exact absurd h0 hn2
  · exact ⟨rfl, rfl, rfl, rfl, rfl, hl h0⟩
end Go.Proofs.Ytfikaekocgofoaa.LaA
/- What the rows ask for: maps, changes, pools. -/
namespace Go.Proofs.Ytfikaekocgofoaa.AtO
open Go Go.RowKit Go.Proofs.YtfikaekocgofoaaW.PrintWords Opns PAll KW AtA Grp AtB McW AtS LaA UpsO
abbrev wfI (n : Int) : Prop := (Lit.int .i64 n).wf = true
theorem op_i : Opens 3 (Kd.int .i64) (fun n => wfI n) (fun _ => 1) := opens_int Try.underlying3
theorem op_b : Opens 4 Kd.bool (fun _ => True) (fun _ => 1) := opens_bool Try.underlying4
def goodO (x : S37) : Prop := wfI x.f0 ∧ True ∧ True ∧ wfI x.f3 ∧ wfI x.f4 ∧ wfI x.f5 ∧ wfI x.f6 ∧ wfI x.f7
theorem opens_O : Opens 37 k37 goodO (fun _ => 1) :=
  (opens_struct (g := fun x : S37 => (x.f0, x.f1, x.f2, x.f3, x.f4, x.f5, x.f6, x.f7)) (gi := fun p => ⟨p.1, p.2.1, p.2.2.1, p.2.2.2.1, p.2.2.2.2.1, p.2.2.2.2.2.1, p.2.2.2.2.2.2.1, p.2.2.2.2.2.2.2⟩) (fun _ => rfl) Try.underlying37 (by kernel_rfl)
    (opensF_cons (off := 1) (by kernel_rfl) rfl op_i (opensF_cons (off := 2) (by kernel_rfl) rfl op_b (opensF_cons (off := 3) (by kernel_rfl) rfl op_b (opensF_cons (off := 4) (by kernel_rfl) rfl op_i (opensF_cons (off := 5) (by kernel_rfl) rfl op_i (opensF_cons (off := 6) (by kernel_rfl) rfl op_i (opensF_cons (off := 7) (by kernel_rfl) rfl op_i (opensF_one (by kernel_rfl) op_i))))))))).imp (fun _ h => h) (fun _ => by omega)
theorem opens_Os : Opens 26 (Kd.slice 37 k37) (fun xs => (∀ x ∈ xs, goodO x) ∧ xs.length * 56 ≤ reachBytes) (fun xs => lbulk (fun _ => 1) xs + 1) := opens_slice Try.underlying26 (by kernel_rfl) (by kernel_rfl) opens_O
structure Pl where
  f0 : Int
  f1 : Int
  f2 : Int
  f3 : Int
def kPl : Kd Pl := Kd.iso (Kd.pair (Kd.int .i64) (Kd.pair (Kd.int .i64) (Kd.pair (Kd.int .i64) (Kd.int .i64)))) (fun x : Pl => (x.f0, x.f1, x.f2, x.f3))
structure Mp where
  f0 : Int
  f1 : Pl
  f2 : List S37
def kMp : Kd Mp := Kd.iso (Kd.pair (Kd.int .i64) (Kd.pair kPl (Kd.slice 37 k37))) (fun x : Mp => (x.f0, x.f1, x.f2))
theorem kMp_open {w : World} {x : Mp} {cs : List Value} (h : kMp.K w x cs) : ∃ A c, cs = [.int .i64 x.f0, .int .i64 x.f1.f0, .int .i64 x.f1.f1, .int .i64 x.f1.f2, .int .i64 x.f1.f3, .slice A x.f2.length c] ∧ x.f2.length ≤ c ∧ k37.C w A x.f2.length x.f2 := by
  obtain ⟨_, _, rfl, rfl, ⟨_, _, rfl, hp, ⟨A, c, rfl, hl, hc⟩⟩⟩ := h
  obtain ⟨_, _, rfl, rfl, ⟨_, _, rfl, rfl, ⟨_, _, rfl, rfl, rfl⟩⟩⟩ := hp
  exact ⟨A, c, rfl, hl, hc⟩
def goodP (x : Pl) : Prop := wfI x.f0 ∧ wfI x.f1 ∧ wfI x.f2 ∧ wfI x.f3
theorem opens_P : Opens 23 kPl goodP (fun _ => 1) :=
  (opens_struct (g := fun x : Pl => (x.f0, x.f1, x.f2, x.f3)) (gi := fun p => ⟨p.1, p.2.1, p.2.2.1, p.2.2.2⟩) (fun _ => rfl) Try.underlying23 (by kernel_rfl)
    (opensF_cons (off := 1) (by kernel_rfl) rfl op_i (opensF_cons (off := 2) (by kernel_rfl) rfl op_i (opensF_cons (off := 3) (by kernel_rfl) rfl op_i (opensF_one (by kernel_rfl) op_i))))).imp (fun _ h => h) (fun _ => by omega)
def goodM (x : Mp) : Prop := wfI x.f0 ∧ goodP x.f1 ∧ ((∀ o ∈ x.f2, goodO o) ∧ x.f2.length * 56 ≤ reachBytes)
theorem opens_M : Opens 28 kMp goodM (fun _ => 1) :=
  (opens_struct (g := fun x : Mp => (x.f0, x.f1, x.f2)) (gi := fun p => ⟨p.1, p.2.1, p.2.2⟩) (fun _ => rfl) Try.underlying28 (by kernel_rfl)
    (opensF_cons (off := 1) (by kernel_rfl) rfl op_i (opensF_cons (off := 5) (by kernel_rfl) rfl opens_P (opensF_one (by kernel_rfl) opens_Os)))).imp (fun _ h => h) (fun _ => by simp only [lbulk]; omega)
theorem map_open {w : World} {x : Mp} {cs : Array Value} (h : kMp.K w x cs.toList) (g : goodM x) : ∃ A c, cs = boxM x.f0 x.f1.f0 x.f1.f1 x.f1.f2 x.f1.f3 A c x.f2 ∧ x.f2.length ≤ c ∧ kO.C w A x.f2.length x.f2 ∧ WfL x.f2 := by
  obtain ⟨A, c, e, hl, hc⟩ := kMp_open h
  refine ⟨A, c, ?_, hl, hc, fun o ho => ?_⟩
  · rw [← Array.toArray_toList (xs := cs), e]
    rfl
  · have h1 := g.2.2.1 o ho
    exact ⟨h1.1, h1.2.2.2.2.2.2.1, h1.2.2.2.2.2.2.2⟩
def goodC (x : Chg) : Prop := wfI x.kd ∧ goodO x.o
theorem opens_C : Opens 39 kC goodC (fun _ => 1) :=
  (opens_struct (g := fun x : Chg => (x.kd, x.o)) (gi := fun p => ⟨p.1, p.2⟩) (fun _ => rfl) Try.underlying39 (by kernel_rfl)
    (opensF_cons (off := 1) (by kernel_rfl) rfl op_i (opensF_one (by kernel_rfl) opens_O))).imp (fun _ h => h) (fun _ => by omega)
theorem opens_Cs : Opens 24 (Kd.slice 39 kC) (fun xs => (∀ x ∈ xs, goodC x) ∧ xs.length * 64 ≤ reachBytes) (fun xs => lbulk (fun _ => 1) xs + 1) := opens_slice Try.underlying24 (by kernel_rfl) (by kernel_rfl) opens_C
end Go.Proofs.Ytfikaekocgofoaa.AtO
/- AtlasFolds: what the row asks for. -/
set_option linter.unusedSimpArgs false
namespace Go.Proofs.Ytfikaekocgofoaa.LaF
open Go Go.RowKit Go.Proofs.YtfikaekocgofoaaW.PrintWords Go.Proofs.YtfikaekocgofoaaW.PrintLast Go.Proofs.YtfikaekocgofoaaW.PrintMore Mem PAll KW AtA AtB Sl Dsc MayP ApP Fnd PlF Roo Awk McW ApY ApZ ApW AtK AtV AtX AtD AtC AtP Ins AtQ AtR AtS AtF AtW AtE LaA
open CrP hiding Od
theorem stp_more {k m p d : Int} {cs0 : List Chg} {E0 : Int} {L0 : List Od} {ES0 : List Int} {c0 : Chg} {er0 : Int} {l0 : List Od} (h0 : Stp k m p d cs0 E0 L0 ES0) (ha : Ans E0 k m p d L0 c0.kd c0.o er0 l0)
    (ih : ∀ {n : Nat} {ep : Int} {l : List Od} {es : List Int} {c : Chg} {er : Int} {l' : List Od}, Stp k m p d (cs0.take n) ep l es → cs0[n]? = some c → Ans ep k m p d l c.kd c.o er l' → ES0[n]? = some er)
    {n : Nat} {ep : Int} {l : List Od} {es : List Int} {c : Chg} {er : Int} {l' : List Od} (hs : Stp k m p d ((cs0 ++ [c0]).take n) ep l es) (hc : (cs0 ++ [c0])[n]? = some c) (ha2 : Ans ep k m p d l c.kd c.o er l') : (ES0 ++ [er0])[n]? = some er := by
  have hlen := steps_len h0
  by_cases hn : n < cs0.length
  · rw [List.take_append_of_le_length (Nat.le_of_lt hn)] at hs
    rw [List.getElem?_append_left hn] at hc
    rw [List.getElem?_append_left (by omega)]
    exact ih hs hc ha2
  · have he : n = cs0.length := by
      have h1 := (List.getElem?_eq_some_iff.1 hc).1
      rw [List.length_append, List.length_singleton] at h1
      omega
    subst he
    rw [List.take_left' rfl] at hs
    rw [List.getElem?_append_right (Nat.le_refl _), Nat.sub_self] at hc
    obtain rfl := Option.some.inj hc
    obtain ⟨rfl, rfl, rfl⟩ := steps_one h0 hs
    obtain ⟨rfl, _⟩ := ans_one ha ha2
    rw [List.getElem?_append_right (by omega), hlen, Nat.sub_self]
    rfl
theorem stp_get {k m p d : Int} {cs : List Chg} {E : Int} {L : List Od} {ES : List Int} (h : Stp k m p d cs E L ES) : ∀ {n : Nat} {ep : Int} {l : List Od} {es : List Int} {c : Chg} {er : Int} {l' : List Od}, Stp k m p d (cs.take n) ep l es → cs[n]? = some c → Ans ep k m p d l c.kd c.o er l' → ES[n]? = some er := by
  induction h with
  | nil => intro n ep l es c er l' _ hc; cases n <;> cases hc
  | no h0 ha _ ih => intro n ep l es c er l' hs hc ha2; exact stp_more h0 ha (fun a b c => ih a b c) hs hc ha2
  | ok h0 ha ih => intro n ep l es c er l' hs hc ha2; exact stp_more h0 ha (fun a b c => ih a b c) hs hc ha2
def Got (ep k m p d : Int) (l : List Od) (kd : Int) (o : Od) (er E K1 M1 P1 D1 : Int) (L1 : List Od) : Prop := ∃ l', Ans ep k m p d l kd o er l' ∧ Val ep k m p d er E K1 M1 P1 D1 l' L1
theorem told_row {ep k m p d : Int} {l : List Od} {kd : Int} {o : Od} {w w' : World} {e : Ending} (h : AtR.Told ep k m p d l kd o w e w') : ∃ (er E K1 M1 P1 D1 : Int) (L1 : List Od) (v5 : Value), e = .returned (.tuple #[.agg #[.int .i64 E, .int .i64 K1, .int .i64 M1, .int .i64 P1, .int .i64 D1, v5], .int .i64 er]) ∧ kO.R 37 w' w.heap.size (fun _ => True) v5 L1 ∧ Got ep k m p d l kd o er E K1 M1 P1 D1 L1 ∧ Below w.heap.size w w' := by
  obtain ⟨er, l', ha, hb, ⟨hne, rfl⟩ | ⟨rfl, A', c', rfl, hr⟩⟩ := h
  · exact ⟨er, 0, 0, 0, 0, 0, [], .slice none 0 0, rfl, Kd.R_nil _ _ _ _ _, ⟨l', ha, .inl ⟨hne, rfl, rfl, rfl, rfl, rfl, rfl⟩⟩, hb⟩
  · exact ⟨0, ep + 1, k, m, p, d, l', _, rfl, hr, ⟨l', ha, .inr ⟨rfl, rfl, rfl, rfl, rfl, rfl, rfl⟩⟩, hb⟩
theorem pool_calls (k m p d : Int) (w : World) : Calls Try.prog 10 #[.agg #[.int .i64 k, .int .i64 m, .int .i64 p, .int .i64 d]] w fun e w' => e = .returned (.bool (poolB k m p d)) ∧ Below w.heap.size w w' := by
  refine (mooringref13_Pool.calls k m p d _ w (pool_eq k m p d)).mono ?_
  rintro e w1 ⟨rfl, hb⟩
  exact ⟨rfl, hb⟩
set_option maxHeartbeats 8000000 in
set_option maxRecDepth 100000 in
theorem folds_calls (k m p d : Int) (A : Option Addr) (cc : Nat) (cs : List Chg) (w : World) (hx : kC.C w A cs.length cs) :
    Calls Try.prog 3 #[.agg #[.int .i64 k, .int .i64 m, .int .i64 p, .int .i64 d], .slice A cs.length cc] w fun e w' => e = .returned (.bool true) ∧ Below w.heap.size w w' := by
  have HB1 := Lib.hid (below_alloc (Below.refl w.heap.size w) (.cells #[.int .i64 k, .int .i64 m, .int .i64 p, .int .i64 d] 23))
  have HP1 : Hid ((w.alloc (.cells #[.int .i64 k, .int .i64 m, .int .i64 p, .int .i64 d] 23)).heap[w.heap.size]? = some (.cells #[.int .i64 k, .int .i64 m, .int .i64 p, .int .i64 d] 23 (0, 0))) := Lib.hid (blk_new _ _)
  have HC1 := Lib.hid (Kd.C_alloc hx (.cells #[.int .i64 k, .int .i64 m, .int .i64 p, .int .i64 d] 23))
  have TW := Lib.hid (fun W => awake13_calls W)
  have TP := Lib.hid (fun W => pool_calls k m p d W)
  clear hx
  have c0 := blk_cell HP1.out 0
  have c1 := blk_cell HP1.out 1
  have c2 := blk_cell HP1.out 2
  have c3 := blk_cell HP1.out 3
  by_cases h3 : 300 < cs.length
  · have q1 : decide (300 < cs.length) = true := decide_eq_true h3
    have q2 : decide ((300 : Int) < (cs.length : Int)) = true := decide_eq_true (by omega)
    clear h3
    go_enter Try.func3, Try.ntmps3
    go_wp2_with fail
    refine (TW.out _).mono ?_
    rintro e w1 ⟨rfl, hb⟩
    have HB2 := Lib.hid (below_then HB1.out HB1.out.size hb)
    clear hb
    go_wp2_with fail
    go_ret
    exact ⟨rfl, HB2.out⟩
  have q1 : decide (300 < cs.length) = false := decide_eq_false h3
  have q2 : decide ((300 : Int) < (cs.length : Int)) = false := decide_eq_false (by omega)
  have HL : Hid (cs.length ≤ 300) := Lib.hid (by omega)
  clear h3
  cases hp : poolB k m p d with
  | false =>
    have TF := Lib.hid (fun W (hC : kC.C W A cs.length cs) => fold_bad k m p d A cc cs W hC HL.out hp)
    rw [hp] at TP
    clear hp
    unfold zM at TF
    go_enter Try.func3, Try.ntmps3
    go_wp2_with fail
    refine (TF.out _ HC1.out).mono ?_
    rintro e w1 ⟨rfl, hb⟩
    have HB2 := Lib.hid (below_alloc (below_then HB1.out HB1.out.size hb) (.cells zM 28))
    have HP2 := Lib.hid (blk_alloc (blk_below HP1.out hb) (.cells zM 28))
    clear hb c0 c1 c2 c3
    unfold zM at HB2 HP2
    have c0 := blk_cell HP2.out 0
    have c1 := blk_cell HP2.out 1
    have c2 := blk_cell HP2.out 2
    have c3 := blk_cell HP2.out 3
    go_wp2_with fail
    refine (TP.out _).mono ?_
    rintro e w2 ⟨rfl, hb⟩
    have HB3 := Lib.hid (below_then HB2.out HB2.out.size hb)
    clear hb c0 c1 c2 c3
    go_wp2_with fail
    refine (TW.out _).mono ?_
    rintro e w3 ⟨rfl, hb⟩
    have HB4 := Lib.hid (below_then HB3.out HB3.out.size hb)
    clear hb
    go_wp2_with fail
    go_ret
    exact ⟨rfl, HB4.out⟩
  | true =>
    have TF := Lib.hid (fun W (hC : kC.C W A cs.length cs) => fold_ok k m p d A cc cs W hC HL.out hp)
    rw [hp] at TP
    clear hp
    unfold boxM at TF
    go_enter Try.func3, Try.ntmps3
    go_wp2_with fail
    refine (TF.out _ HC1.out).mono ?_
    rintro e w1 ⟨ep0, l0, es0, A0, c00, vt, rfl, hst, hr, ht, hb⟩
    obtain ⟨A9, c9, hv9⟩ := Kd.R_slice ht
    subst hv9
    obtain ⟨Le, hLe⟩ : ∃ Le, Le = es0.length := ⟨_, rfl⟩
    have hle2 : Le = cs.length := by rw [hLe]; exact steps_len hst
    subst hle2
    rw [← hLe] at ht ⊢
    have HLE := Lib.hid hLe
    clear hLe
    have HST0 := Lib.hid hst
    have HCAP0 := Lib.hid (Kd.R_reads' hr).2.1
    have HCR := Lib.hid (Kd.C_alloc (Kd.R_reads' hr).2.2 (.cells #[.int .i64 ep0, .int .i64 k, .int .i64 m, .int .i64 p, .int .i64 d, .slice A0 l0.length c00] 28))
    have HTR := Lib.hid (Kd.R_alloc ht (.cells #[.int .i64 ep0, .int .i64 k, .int .i64 m, .int .i64 p, .int .i64 d, .slice A0 l0.length c00] 28))
    have HB2 := Lib.hid (below_alloc (below_then HB1.out HB1.out.size hb) (.cells #[.int .i64 ep0, .int .i64 k, .int .i64 m, .int .i64 p, .int .i64 d, .slice A0 l0.length c00] 28))
    have HP2 := Lib.hid (blk_alloc (blk_below HP1.out hb) (.cells #[.int .i64 ep0, .int .i64 k, .int .i64 m, .int .i64 p, .int .i64 d, .slice A0 l0.length c00] 28))
    have HC2 := Lib.hid (Kd.C_alloc (Kd.C_below HC1.out hb) (.cells #[.int .i64 ep0, .int .i64 k, .int .i64 m, .int .i64 p, .int .i64 d, .slice A0 l0.length c00] 28))
    have HM2 : Hid ((w1.alloc (.cells #[.int .i64 ep0, .int .i64 k, .int .i64 m, .int .i64 p, .int .i64 d, .slice A0 l0.length c00] 28)).heap[w1.heap.size]? = some (.cells #[.int .i64 ep0, .int .i64 k, .int .i64 m, .int .i64 p, .int .i64 d, .slice A0 l0.length c00] 28 (0, 0))) := Lib.hid (blk_new _ _)
    clear hst hr ht hb c0 c1 c2 c3
    have c0 := blk_cell HP2.out 0
    have c1 := blk_cell HP2.out 1
    have c2 := blk_cell HP2.out 2
    have c3 := blk_cell HP2.out 3
    go_wp2_with fail
    refine (TP.out _).mono ?_
    rintro e w2 ⟨rfl, hb⟩
    have HB3 := Lib.hid (below_then HB2.out HB2.out.size hb)
    have HP3 := Lib.hid (blk_below HP2.out hb)
    have HC3 := Lib.hid (Kd.C_below HC2.out hb)
    have HM3 := Lib.hid (blk_below HM2.out hb)
    have HCR3 := Lib.hid (Kd.C_below HCR.out hb)
    have HTR3 := Lib.hid (Kd.R_below HTR.out hb)
    clear hb c0 c1 c2 c3 HP1 HB1 HC1 HB2 HP2 HC2 HM2 HCR HTR
    obtain ⟨gm, hgm⟩ : ∃ gm, gm = w1.heap.size := ⟨_, rfl⟩
    rw [← hgm] at HM3 ⊢
    clear hgm
    have c0 := blk_cell HP3.out 0
    have c1 := blk_cell HP3.out 1
    have c2 := blk_cell HP3.out 2
    have c3 := blk_cell HP3.out 3
    have hnn : (!(((cs.length : Nat) : Int) == ((cs.length : Nat) : Int))) = false := by simp
    have HW4 : Hid ((w2.alloc (.cells #[.int .i64 0, .int .i64 k, .int .i64 m, .int .i64 p, .int .i64 d, .slice none 0 0] 28)).heap[w2.heap.size]? = some (.cells #[.int .i64 0, .int .i64 k, .int .i64 m, .int .i64 p, .int .i64 d, .slice none 0 0] 28 (0, 0))) := Lib.hid (blk_new _ _)
    have HB4 := Lib.hid (below_alloc (Below.refl w2.heap.size w2) (.cells #[.int .i64 0, .int .i64 k, .int .i64 m, .int .i64 p, .int .i64 d, .slice none 0 0] 28))
    have HR4 : Hid (kO.R 37 (w2.alloc (.cells #[.int .i64 0, .int .i64 k, .int .i64 m, .int .i64 p, .int .i64 d, .slice none 0 0] 28)) w2.heap.size (fun k => k ≠ w2.heap.size) (.slice none 0 0) []) := Lib.hid (Kd.R_nil _ _ _ _ _)
    go_upto_region 9 with fail
    obtain ⟨w4, hw4⟩ : ∃ w4, w4 = w2.alloc (.cells #[.int .i64 0, .int .i64 k, .int .i64 m, .int .i64 p, .int .i64 d, .slice none 0 0] 28) := ⟨_, rfl⟩
    rw [← hw4] at HW4 HB4 HR4 ⊢
    clear hw4 c0 c1 c2 c3
    go_wp2_with fail
    go_loopw [9] (fun i' wr => ∃ (n : Nat) (ep : Int) (l : List Od) (es : List Int) (A1 : Option Addr) (c1 : Nat), i' = .int .i64 n ∧ Hid (n ≤ cs.length) ∧ Hid (Stp k m p d (cs.take n) ep l es) ∧ Hid (wr.heap[w2.heap.size]? = some (.cells #[.int .i64 ep, .int .i64 k, .int .i64 m, .int .i64 p, .int .i64 d, .slice A1 l.length c1] 28 (0, 0))) ∧ Hid (kO.R 37 wr w2.heap.size (fun k => k ≠ w2.heap.size) (.slice A1 l.length c1) l) ∧ Hid (Below w2.heap.size w2 wr)) (fun i' _ => (cs.length - intOf i').toNat)
    case atStart => exact ⟨0, 0, [], [], none, 0, rfl, Lib.hid (Nat.zero_le _), Lib.hid Stp.nil, HW4, HR4, HB4⟩
    case round =>
      obtain ⟨n, ep, l, es, A1, c1, rfl, HN, HST, HM, HO, HB⟩ := hrel
      clear HW4 HR4 HB4
      have hn := HN.out
      by_cases h : n < cs.length
      · have hlt : decide (n < cs.length) = true := decide_eq_true h
        have i0 : (0 : Int) ≤ n := by omega
        have i1 : (n : Int) < cs.length := by omega
        have hltI : decide ((n : Int) < (cs.length : Int)) = true := decide_eq_true i1
        have HNI := Lib.hid h
        have hl3 := HL.out
        have i2 : n < 300 := by omega
        clear hl3
        obtain ⟨ac, y, hy, hA2, b0, b1, b2, b3, b4, b5, b6, b7, b8⟩ := at_C (Kd.C_below HC3.out HB.out) n h
        subst hA2
        have HY := Lib.hid hy
        have HTK : Hid (cs.take (n + 1) = cs.take n ++ [y]) := Lib.hid (by obtain ⟨q1, q2⟩ := List.getElem?_eq_some_iff.1 hy; rw [List.take_succ_eq_append_getElem q1, q2])
        have HC5 := Lib.hid (Kd.R_reads' HO.out).2.2
        have HC5L := Lib.hid (Kd.R_reads' HO.out).2.1
        have T := Lib.hid (fun W (hC : kO.C W A1 l.length l) => (rapply_calls ep k m p d A1 c1 l y.kd y.o W hC HC5L.out).mono (fun _ _ h => told_row h))
        unfold boxM chA at T
        clear h hn hy
        obtain ⟨wv, hwv⟩ : ∃ wv, wv = wr := ⟨_, rfl⟩
        rw [← hwv] at HM HO HB HC5 b0 b1 b2 b3 b4 b5 b6 b7 b8 ⊢
        clear hwv
        have m0 := blk_cell HM.out 0
        have m1 := blk_cell HM.out 1
        have m2 := blk_cell HM.out 2
        have m3 := blk_cell HM.out 3
        have m4 := blk_cell HM.out 4
        have m5 := blk_cell HM.out 5
        have HGL : Hid (w2.heap.size < wv.heap.size) := Lib.hid (blk_lt HM.out)
        go_upto_region 12 with fail
        go_cut [10, 11] from 47 to 70 (fun s8 s9 wx => ∃ (R : Nat) (er a0 a1 a2 a3 a4 : Int) (l' : List Od) (v5 : Value), s8 = .pointer (some ⟨R, 0, none⟩) ∧ s9 = .int .i64 er ∧ wx.heap[R]? = some (.cells #[.int .i64 a0, .int .i64 a1, .int .i64 a2, .int .i64 a3, .int .i64 a4, v5] 28 (0, 0)) ∧ kO.R 37 wx wv.heap.size (fun k => wv.heap.size ≤ k) v5 l' ∧ Got ep k m p d l y.kd y.o er a0 a1 a2 a3 a4 l' ∧ Below wv.heap.size wv wx)
        case first =>
          refine start_ (n := 12) (S := fun w' => Below wv.heap.size wv w') (ds := [10]) #[false, false, false, false, false, false, false, false, false, false, false, false] (by kernel_rfl) rfl rfl (below_drew (Below.refl _ _)) (fun hHeld => ?_)
          have HBd := Lib.hid (below_drew (Below.refl wv.heap.size wv))
          generalize wv.drew = wd at HBd hHeld ⊢
          refine take_ (i := 0) (N := some 54) (v := ?_) (a' := ?_) #[true, false, false, false, false, false, false, false, false, false, false, false] rfl rfl (by kernel_rfl) (fun _ _ _ h => h) (Or.inl ⟨by rfl, ?_⟩) hHeld ?_ ?_
          rotate_left
          · rintro w' hS
            have x0 := pw_cell_below hS m0
            have x1 := pw_cell_below hS m1
            have x2 := pw_cell_below hS m2
            have x3 := pw_cell_below hS m3
            have x4 := pw_cell_below hS m4
            have x5 := pw_cell_below hS m5
            go_simp
            with_reducible rfl
          rotate_left
          · simp only [Act.put, List.setIfInBounds_toArray, List.set_cons_zero, List.set_cons_succ, i64_w, i32_w]
            rfl
          refine pure_ (i := 1) (N := some 55) (v := ?_) (a' := ?_) #[true, true, false, false, false, false, false, false, false, false, false, false] rfl rfl (by kernel_rfl) (fun _ _ _ h => h) (Or.inl ⟨by rfl, ?_⟩) ?_ ?_
          rotate_left
          · intro w'
            go_simp
            with_reducible rfl
          rotate_left
          · simp only [Act.put, List.setIfInBounds_toArray, List.set_cons_zero, List.set_cons_succ, i64_w, i32_w]
            rfl
          refine pure_ (i := 2) (N := some 56) (v := ?_) (a' := ?_) #[true, true, true, false, false, false, false, false, false, false, false, false] rfl rfl (by kernel_rfl) (fun _ _ _ h => h) (Or.inl ⟨by rfl, ?_⟩) ?_ ?_
          rotate_left
          · intro w'
            go_simp
            with_reducible rfl
          rotate_left
          · simp only [Act.put, List.setIfInBounds_toArray, List.set_cons_zero, List.set_cons_succ, i64_w, i32_w]
            rfl
          refine pure_ (i := 3) (N := some 57) (v := ?_) (a' := ?_) #[true, true, true, true, false, false, false, false, false, false, false, false] rfl rfl (by kernel_rfl) (fun _ _ _ h => h) (Or.inl ⟨by rfl, ?_⟩) ?_ ?_
          rotate_left
          · intro w'
            go_simp
            with_reducible rfl
          rotate_left
          · simp only [Act.put, List.setIfInBounds_toArray, List.set_cons_zero, List.set_cons_succ, i64_w, i32_w]
            rfl
          refine take_ (i := 4) (N := some 58) (v := ?_) (a' := ?_) #[true, true, true, true, true, false, false, false, false, false, false, false] rfl rfl (by kernel_rfl) (fun _ _ _ h => h) (Or.inl ⟨by rfl, ?_⟩) hHeld ?_ ?_
          rotate_left
          · rintro w' hS
            have x0 := pw_cell_below hS b0
            have x1 := pw_cell_below hS b1
            have x2 := pw_cell_below hS b2
            have x3 := pw_cell_below hS b3
            have x4 := pw_cell_below hS b4
            have x5 := pw_cell_below hS b5
            have x6 := pw_cell_below hS b6
            have x7 := pw_cell_below hS b7
            have x8 := pw_cell_below hS b8
            go_simp
            with_reducible rfl
          rotate_left
          · simp only [Act.put, List.setIfInBounds_toArray, List.set_cons_zero, List.set_cons_succ, i64_w, i32_w]
            rfl
          refine join_ (σ := Nat × Int × Int × Int × Int × Int × Int × List Od × Option Addr × Nat × Nat) 2 #[true, true, true, true, true, true, true, true, true, true, false, false] (fun s => [(10, .pointer (some ⟨s.1, 0, none⟩)), (59, .tuple #[.agg #[.int .i64 s.2.2.1, .int .i64 s.2.2.2.1, .int .i64 s.2.2.2.2.1, .int .i64 s.2.2.2.2.2.1, .int .i64 s.2.2.2.2.2.2.1, .slice s.2.2.2.2.2.2.2.2.1 s.2.2.2.2.2.2.2.2.2.1 s.2.2.2.2.2.2.2.2.2.2], .int .i64 s.2.1]), (53, .tuple #[.agg #[.int .i64 s.2.2.1, .int .i64 s.2.2.2.1, .int .i64 s.2.2.2.2.1, .int .i64 s.2.2.2.2.2.1, .int .i64 s.2.2.2.2.2.2.1, .slice s.2.2.2.2.2.2.2.2.1 s.2.2.2.2.2.2.2.2.2.1 s.2.2.2.2.2.2.2.2.2.2], .int .i64 s.2.1]), (60, .agg #[.int .i64 s.2.2.1, .int .i64 s.2.2.2.1, .int .i64 s.2.2.2.2.1, .int .i64 s.2.2.2.2.2.1, .int .i64 s.2.2.2.2.2.2.1, .slice s.2.2.2.2.2.2.2.2.1 s.2.2.2.2.2.2.2.2.2.1 s.2.2.2.2.2.2.2.2.2.2]), (61, .int .i64 s.2.1)]) (fun s w' => Hid (w'.heap[s.1]? = some (.cells zM 28 (0, 0))) ∧ Hid (kO.R 37 w' wv.heap.size (fun k => wv.heap.size ≤ k ∧ k ≠ s.1) (.slice s.2.2.2.2.2.2.2.2.1 s.2.2.2.2.2.2.2.2.2.1 s.2.2.2.2.2.2.2.2.2.2) s.2.2.2.2.2.2.2.1) ∧ Hid (Got ep k m p d l y.kd y.o s.2.1 s.2.2.1 s.2.2.2.1 s.2.2.2.2.1 s.2.2.2.2.2.1 s.2.2.2.2.2.2.1 s.2.2.2.2.2.2.2.1) ∧ Hid (Below wv.heap.size wv w') ∧ Hid (wv.heap.size ≤ s.1)) ?_ (fun hfin => ?_)
          · rintro ⟨R, er, a0, a1, a2, a3, a4, l', A6, L6, c6⟩ w9 ⟨HZ, HR, HGO, HB9, HRG⟩
            dsimp only at HZ HR HGO HRG
            refine norm_ (a' := ?_) ?_ ?_
            rotate_left
            · show putAll _ _ = _
              simp only [putAll, Act.put, List.setIfInBounds_toArray, List.set_cons_zero, List.set_cons_succ]
              rfl
            clear m0 m1 m2 m3 m4 m5 b0 b1 b2 b3 b4 b5 b6 b7 b8 i0 i1 hlt hltI T
            refine last_ (i := 10) (N := none) #[true, true, true, true, true, true, true, true, true, true, true, false] rfl rfl (by kernel_rfl) (by decide) (fun K hK => ?_)
            refine Stb.store_step (by rfl) rfl 28 (.tmp 10) (.tmp 60) (by rfl) (cur' := #[.int .i64 a0, .int .i64 a1, .int .i64 a2, .int .i64 a3, .int .i64 a4, .slice A6 L6 c6]) [.int .i64 a0, .int .i64 a1, .int .i64 a2, .int .i64 a3, .int .i64 a4, .slice A6 L6 c6] HZ.out (by rfl) (by rfl) (by rfl) (by kernel_rfl) (Nat.le_refl 6) (by rfl) (by rfl) ?_
            intro w10 hz10 hg10 hs10
            have HZ2 := Lib.hid hz10
            have HR2 := Lib.hid (Kd.R_mono (Kd.R_grown HR.out hg10 (fun k hk e => hk.2 (Option.some.inj e))) (fun k hk => hk.1))
            have HB2 := Lib.hid (Stb.below_grown1 HB9.out hg10 HRG.out HB9.out.size)
            clear hz10 hg10 hs10
            refine hK.out _ _ ?_
            clear hK K
            refine norm_ (a' := ?_) ?_ ?_
            rotate_left
            · show Act.put _ (none) _ = _
              simp only [Act.put, List.setIfInBounds_toArray, List.set_cons_zero, List.set_cons_succ, i64_w, i32_w]
              rfl
            refine pure_ (i := 11) (N := some 11) (v := ?_) (a' := ?_) #[true, true, true, true, true, true, true, true, true, true, true, true] rfl rfl (by kernel_rfl) (fun _ _ _ h => h) (Or.inl ⟨by rfl, ?_⟩) ?_ ?_
            rotate_left
            · intro w'
              go_simp
              with_reducible rfl
            rotate_left
            · simp only [Act.put, List.setIfInBounds_toArray, List.set_cons_zero, List.set_cons_succ, i64_w, i32_w]
              rfl
            refine done_ (by kernel_rfl) ?_
            go_wp2_with fail
            go_meet
            exact ⟨R, er, a0, a1, a2, a3, a4, l', .slice A6 L6 c6, rfl, rfl, HZ2.out, HR2.out, HGO.out, HB2.out⟩
          refine two_ (i := 5) (j := 9) (Ni := some 59) (Nj := some 10) #[true, true, true, true, true, true, false, false, false, false, false, false] #[true, true, true, true, true, false, false, false, false, true, false, false] rfl rfl rfl rfl (by kernel_rfl) (by decide) (by decide) (fun K hK => ?_) (fun K hK => ?_)
          · refine goes_ Try.func11 (by kernel_rfl) rfl #[.agg #[.int .i64 ep, .int .i64 k, .int .i64 m, .int .i64 p, .int .i64 d, .slice A1 l.length c1], .agg #[.int .i64 y.kd, .int .i64 y.o.f0, .bool y.o.f1, .bool y.o.f2, .int .i64 y.o.f3, .int .i64 y.o.f4, .int .i64 y.o.f5, .int .i64 y.o.f6, .int .i64 y.o.f7]] (by rfl) rfl rfl (by (try simp only [List.map_toArray, List.map_cons, List.map_nil]); first | done | rfl | (go_simp; done) | (go_simp; rfl)) ?_
            refine (T.out _ (Kd.C_below HC5.out HBd.out)).mono ?_
            rintro e w5 ⟨er, a0, a1, a2, a3, a4, l', v5, rfl, hr, hgo, hb⟩
            obtain ⟨A6, c6, hv5⟩ := Kd.R_slice hr
            obtain ⟨L6, hL6⟩ : ∃ L6, L6 = l'.length := ⟨_, rfl⟩
            rw [← hL6] at hv5
            clear hL6
            subst hv5
            refine ⟨_, rfl, ?_⟩
            refine hK.out _ _ (below_then HBd.out HBd.out.size hb) (fun hHeld => ?_)
            clear hK K
            refine norm_ (a' := ?_) ?_ ?_
            rotate_left
            · show Act.put _ (some 59) _ = _
              simp only [Act.put, List.setIfInBounds_toArray, List.set_cons_zero, List.set_cons_succ, i64_w, i32_w]
              rfl
            refine pure_ (i := 6) (N := some 53) (v := ?_) (a' := ?_) #[true, true, true, true, true, true, true, false, false, false, false, false] rfl rfl (by kernel_rfl) (fun _ _ _ h => h) (Or.inl ⟨by rfl, ?_⟩) ?_ ?_
            rotate_left
            · intro w'
              go_simp
              with_reducible rfl
            rotate_left
            · simp only [Act.put, List.setIfInBounds_toArray, List.set_cons_zero, List.set_cons_succ, i64_w, i32_w]
              rfl
            refine pure_ (i := 7) (N := some 60) (v := ?_) (a' := ?_) #[true, true, true, true, true, true, true, true, false, false, false, false] rfl rfl (by kernel_rfl) (fun _ _ _ h => h) (Or.inl ⟨by rfl, ?_⟩) ?_ ?_
            rotate_left
            · intro w'
              go_simp
              with_reducible rfl
            rotate_left
            · simp only [Act.put, List.setIfInBounds_toArray, List.set_cons_zero, List.set_cons_succ, i64_w, i32_w]
              rfl
            refine pure_ (i := 8) (N := some 61) (v := ?_) (a' := ?_) #[true, true, true, true, true, true, true, true, true, false, false, false] rfl rfl (by kernel_rfl) (fun _ _ _ h => h) (Or.inl ⟨by rfl, ?_⟩) ?_ ?_
            rotate_left
            · intro w'
              go_simp
              with_reducible rfl
            rotate_left
            · simp only [Act.put, List.setIfInBounds_toArray, List.set_cons_zero, List.set_cons_succ, i64_w, i32_w]
              rfl
            refine one_ (i := 9) (N := some 10) #[true, true, true, true, true, true, true, true, true, true, false, false] rfl rfl (by kernel_rfl) (by decide) (fun K hK => ?_)
            refine value_ (w1 := ?_) (v := ?_) (by rfl) rfl ?_ ?_
            rotate_left 2
            · go_simp
              constructor
              · rfl
              · rfl
            refine hK.out _ _ (below_alloc hHeld _) (fun hHeld => ?_)
            clear hK K
            refine norm_ (a' := ?_) ?_ ?_
            rotate_left
            · show Act.put _ (some 10) _ = _
              simp only [Act.put, List.setIfInBounds_toArray, List.set_cons_zero, List.set_cons_succ, i64_w, i32_w]
              rfl
            have h9 := hfin (w5.heap.size, er, a0, a1, a2, a3, a4, l', A6, L6, c6) _ ⟨Lib.hid (blk_new w5 _), Lib.hid (Kd.R_below (Kd.R_lower (Kd.R_mono (Kd.R_bound hr) (fun k hk => by have h1 := HBd.out.size; exact ⟨by omega, by omega⟩)) HBd.out.size) (below_alloc (Below.refl _ _) _)), Lib.hid hgo, Lib.hid hHeld, Lib.hid (Nat.le_trans HBd.out.size hb.size)⟩
            refine norm_ ?_ h9
            show _ = putAll _ _
            simp only [putAll, Act.put, List.setIfInBounds_toArray, List.set_cons_zero, List.set_cons_succ]
          · refine value_ (w1 := ?_) (v := ?_) (by rfl) rfl ?_ ?_
            rotate_left 2
            · go_simp
              constructor
              · rfl
              · rfl
            refine hK.out _ _ (below_alloc HBd.out _) (fun hHeld => ?_)
            clear hK K
            refine norm_ (a' := ?_) ?_ ?_
            rotate_left
            · show Act.put _ (some 10) _ = _
              simp only [Act.put, List.setIfInBounds_toArray, List.set_cons_zero, List.set_cons_succ, i64_w, i32_w]
              rfl
            refine one_ (i := 5) (N := some 59) #[true, true, true, true, true, true, false, false, false, true, false, false] rfl rfl (by kernel_rfl) (by decide) (fun K hK => ?_)
            refine goes_ Try.func11 (by kernel_rfl) rfl #[.agg #[.int .i64 ep, .int .i64 k, .int .i64 m, .int .i64 p, .int .i64 d, .slice A1 l.length c1], .agg #[.int .i64 y.kd, .int .i64 y.o.f0, .bool y.o.f1, .bool y.o.f2, .int .i64 y.o.f3, .int .i64 y.o.f4, .int .i64 y.o.f5, .int .i64 y.o.f6, .int .i64 y.o.f7]] (by rfl) rfl rfl (by (try simp only [List.map_toArray, List.map_cons, List.map_nil]); first | done | rfl | (go_simp; done) | (go_simp; rfl)) ?_
            refine (T.out _ (Kd.C_below HC5.out (below_alloc HBd.out _))).mono ?_
            rintro e w5 ⟨er, a0, a1, a2, a3, a4, l', v5, rfl, hr, hgo, hb⟩
            obtain ⟨A6, c6, hv5⟩ := Kd.R_slice hr
            obtain ⟨L6, hL6⟩ : ∃ L6, L6 = l'.length := ⟨_, rfl⟩
            rw [← hL6] at hv5
            clear hL6
            subst hv5
            refine ⟨_, rfl, ?_⟩
            refine hK.out _ _ (below_then (below_alloc HBd.out _) (below_alloc HBd.out _).size hb) (fun hHeld => ?_)
            clear hK K
            refine norm_ (a' := ?_) ?_ ?_
            rotate_left
            · show Act.put _ (some 59) _ = _
              simp only [Act.put, List.setIfInBounds_toArray, List.set_cons_zero, List.set_cons_succ, i64_w, i32_w]
              rfl
            refine pure_ (i := 6) (N := some 53) (v := ?_) (a' := ?_) #[true, true, true, true, true, true, true, false, false, true, false, false] rfl rfl (by kernel_rfl) (fun _ _ _ h => h) (Or.inl ⟨by rfl, ?_⟩) ?_ ?_
            rotate_left
            · intro w'
              go_simp
              with_reducible rfl
            rotate_left
            · simp only [Act.put, List.setIfInBounds_toArray, List.set_cons_zero, List.set_cons_succ, i64_w, i32_w]
              rfl
            refine pure_ (i := 7) (N := some 60) (v := ?_) (a' := ?_) #[true, true, true, true, true, true, true, true, false, true, false, false] rfl rfl (by kernel_rfl) (fun _ _ _ h => h) (Or.inl ⟨by rfl, ?_⟩) ?_ ?_
            rotate_left
            · intro w'
              go_simp
              with_reducible rfl
            rotate_left
            · simp only [Act.put, List.setIfInBounds_toArray, List.set_cons_zero, List.set_cons_succ, i64_w, i32_w]
              rfl
            refine pure_ (i := 8) (N := some 61) (v := ?_) (a' := ?_) #[true, true, true, true, true, true, true, true, true, true, false, false] rfl rfl (by kernel_rfl) (fun _ _ _ h => h) (Or.inl ⟨by rfl, ?_⟩) ?_ ?_
            rotate_left
            · intro w'
              go_simp
              with_reducible rfl
            rotate_left
            · simp only [Act.put, List.setIfInBounds_toArray, List.set_cons_zero, List.set_cons_succ, i64_w, i32_w]
              rfl
            have h9 := hfin (wd.heap.size, er, a0, a1, a2, a3, a4, l', A6, L6, c6) _ ⟨Lib.hid (blk_below (blk_new wd _) hb), Lib.hid (Kd.R_lower (Kd.R_mono (Kd.R_bound hr) (fun k hk => by have h1 := HBd.out.size; simp only [World.alloc, Array.size_push] at hk; exact ⟨by omega, by omega⟩)) (below_alloc HBd.out _).size), Lib.hid hgo, Lib.hid hHeld, Lib.hid HBd.out.size⟩
            refine norm_ ?_ h9
            show _ = putAll _ _
            simp only [putAll, Act.put, List.setIfInBounds_toArray, List.set_cons_zero, List.set_cons_succ]
        case rest =>
          obtain ⟨R, er, a0, a1, a2, a3, a4, l', v5, rfl, rfl, hz, hr, hgo, hb⟩ := hcut
          obtain ⟨A6, c6, rfl⟩ := Kd.R_slice hr
          have HZ := Lib.hid hz
          have HR := Lib.hid hr
          obtain ⟨l2, han, hval⟩ := hgo
          have HAN := Lib.hid han
          have HVA := Lib.hid hval
          have HOc := Lib.hid (Kd.R_below HO.out hb)
          have HMc := Lib.hid (blk_below HM.out hb)
          have HBc := Lib.hid (below_then HB.out HB.out.size hb)
          have HSZ : Hid (wv.heap.size ≤ wc.heap.size) := Lib.hid hb.size
          clear hz hr han hval hb HO HB HM m0 m1 m2 m3 m4 m5 b0 b1 b2 b3 b4 b5 b6 b7 b8 T HC5
          have hge := stp_get HST0.out HST.out HY.out HAN.out
          have hgd : es0.getD n 0 = er := by rw [List.getD_eq_getElem?_getD, hge]; rfl
          have hel : n < es0.length := (List.getElem?_eq_some_iff.1 hge).1
          obtain ⟨gt, ct, hvt, _⟩ := Kd.R_form HTR3.out (by omega)
          injection hvt with hA9 _ hc9
          subst hA9
          have tcell := cells_E (Kd.R_below (Kd.R_mono HTR3.out (fun _ h => h)) HBc.out) n hel
          rw [hgd] at tcell
          have qn : (!(er == er)) = false := by simp
          clear hge hgd hel
          have y0 := blk_cell HZ.out 0
          have y1 := blk_cell HZ.out 1
          have y2 := blk_cell HZ.out 2
          have y3 := blk_cell HZ.out 3
          have y4 := blk_cell HZ.out 4
          have y5 := blk_cell HZ.out 5
          rcases HVA.out with ⟨he, rfl, rfl, rfl, rfl, rfl, rfl⟩ | ⟨h0, u1, u2, u3, u4, u5, u6⟩
          · have HST2 : Hid (Stp k m p d (cs.take (n + 1)) ep l (es ++ [er])) := Lib.hid (by rw [HTK.out]; exact Stp.no HST.out HAN.out he)
            have q1 : (er == 0) = false := by simpa using he
            have q2 : decide (er = 0) = false := decide_eq_false he
            clear he HVA
            go_wp2_with fail
            go_roundw
            case rel => exact ⟨n + 1, _, _, _, _, _, by go_num, Lib.hid (by have := HNI.out; omega), HST2, HMc, HOc, HBc⟩
            case measure => have := HNI.out; simp only [intOf]; omega
          · subst h0 u1
            obtain rfl := u2.symm
            obtain rfl := u3.symm
            obtain rfl := u4.symm
            obtain rfl := u5.symm
            obtain rfl := u6
            have HST2 : Hid (Stp k m p d (cs.take (n + 1)) (ep + 1) l' (es ++ [0])) := Lib.hid (by rw [HTK.out]; exact Stp.ok HST.out HAN.out)
            clear HVA
            go_wp2_with (first | (refine gate_ (.store 28 (.tmp 8) (.tmp 70)) rfl ?_; go_must (refine Stb.store_list rfl rfl 28 (.tmp 8) (.tmp 70) rfl (cur' := #[.int .i64 (ep + 1), .int .i64 k, .int .i64 m, .int .i64 p, .int .i64 d, .slice A6 l'.length c6]) [.int .i64 (ep + 1), .int .i64 k, .int .i64 m, .int .i64 p, .int .i64 d, .slice A6 l'.length c6] (by exact HMc.out) (by rfl) (by rfl) (by rfl) (by kernel_rfl) (Nat.le_of_ble_eq_true rfl) (by rfl) (by rfl) ?_; intro w6 hz_ hg_ hs_; have HM6 := Lib.hid hz_; have HO6 : Hid (kO.R 37 w6 w2.heap.size (fun k => k ≠ w2.heap.size) (.slice A6 l'.length c6) l') := Lib.hid (Kd.R_lower (Kd.R_mono (Kd.R_grown HR.out hg_ (fun k hk e => by have e2 := Option.some.inj e; have := HGL.out; omega)) (fun k hk => by have := HGL.out; omega)) (Nat.le_of_lt HGL.out)); have HB6 := Lib.hid (Stb.below_grown1 HBc.out hg_ (Nat.le_refl _) HBc.out.size); clear hz_ hg_ hs_)))
            go_roundw
            case rel => exact ⟨n + 1, _, _, _, _, _, by go_num, Lib.hid (by have := HNI.out; omega), HST2, HM6, HO6, HB6⟩
            case measure => have := HNI.out; simp only [intOf]; omega
      · obtain rfl : n = cs.length := by omega
        have hlt : decide (cs.length < cs.length) = false := decide_eq_false (Nat.lt_irrefl _)
        have hltI : decide ((cs.length : Int) < (cs.length : Int)) = false := decide_eq_false (Int.lt_irrefl _)
        clear h hn
        rw [List.take_of_length_le (Nat.le_refl _)] at HST
        obtain ⟨rfl, rfl, rfl⟩ := steps_one HST0.out HST.out
        have HMF := Lib.hid (blk_below HM3.out HB.out)
        have TS := rsame_calls ep0 k m p d A0 c00 l0 ep0 k m p d A1 c1 l0 wr (Kd.C_below HCR3.out HB.out) HCAP0.out (Kd.R_reads' HO.out).2.2 (Kd.R_reads' HO.out).2.1
        rw [same_self] at TS
        unfold boxM at TS
        have HTS := Lib.hid TS
        clear TS
        have m0 := blk_cell HM.out 0
        have m1 := blk_cell HM.out 1
        have m2 := blk_cell HM.out 2
        have m3 := blk_cell HM.out 3
        have m4 := blk_cell HM.out 4
        have m5 := blk_cell HM.out 5
        have y0 := blk_cell HMF.out 0
        have y1 := blk_cell HMF.out 1
        have y2 := blk_cell HMF.out 2
        have y3 := blk_cell HMF.out 3
        have y4 := blk_cell HMF.out 4
        have y5 := blk_cell HMF.out 5
        go_wp2_with fail
        refine HTS.out.mono ?_
        rintro e w5 ⟨rfl, hb⟩
        have HB5 := Lib.hid (below_then HB.out HB.out.size hb)
        clear hb m0 m1 m2 m3 m4 m5 y0 y1 y2 y3 y4 y5
        go_wp2_with fail
        refine (TW.out _).mono ?_
        rintro e w6 ⟨rfl, hb⟩
        have HB6 := Lib.hid (below_then HB5.out HB5.out.size hb)
        clear hb
        go_wp2_with fail
        go_ret
        exact ⟨rfl, below_then HB3.out HB3.out.size HB6.out⟩
end Go.Proofs.Ytfikaekocgofoaa.LaF

/- AtlasFolds' row: its arguments. -/
namespace Go.Proofs.Ytfikaekocgofoaa.LfO
open Go Go.RowKit Go.Proofs.YtfikaekocgofoaaW.PrintWords Opns PAll KW AtA Grp AtB McW AtS LaF UpsO AtO
theorem pool_open {w : World} {x : Pl} {cs : Array Value} (h : kPl.K w x cs.toList) : cs = #[.int .i64 x.f0, .int .i64 x.f1, .int .i64 x.f2, .int .i64 x.f3] := by
  obtain ⟨_, _, e, rfl, ⟨_, _, rfl, rfl, ⟨_, _, rfl, rfl, rfl⟩⟩⟩ := h
  rw [← Array.toArray_toList (xs := cs), e]
  rfl
theorem walkFolds (cs0 : Array Value) (x0 : Pl) (A1 : Option Addr) (c1 : Nat) (x1 : List Chg) (w : World) (h0 : kPl.K w x0 cs0.toList) (_ : goodP x0) (_ : x1.length ≤ c1) (h1 : kC.C w A1 x1.length x1) (_ : (∀ x ∈ x1, goodC x) ∧ x1.length * 64 ≤ reachBytes) :
    Calls Try.prog 3 #[.agg cs0, .slice A1 x1.length c1] w fun e w' => e = .returned (.bool true) ∧ Below w.heap.size w w' := by
  have e := pool_open h0
  subst e
  exact folds_calls _ _ _ _ A1 c1 x1 w h1
end Go.Proofs.Ytfikaekocgofoaa.LfO

namespace Go.Proofs.Ytfikaekocgofoaa.Opns
open Go.RowKit Go.Proofs.YtfikaekocgofoaaW.PrintWords Go.Deep
section
variable {H : Type} {enc : TypeId × Value → H} {W : World} {t : TypeId} {y : DataW H} {ps : List MemPlace}
theorem arg_slice {α : Type} {e : TypeId} {d : Kd α} {good : List α → Prop} {bulk : List α → Nat} {a : Option Addr} {len cap : Nat} (ho : Opens t (Kd.slice e d) good bulk)
    (h : DataW.Trod enc Try.prog W 0 (fun _ => true) true t (.slice a len cap) y ps) (hw : ∀ m ∈ y.weights Try.prog t, m ≤ reachBytes) :
    ∃ x : List α, len = x.length ∧ x.length ≤ cap ∧ d.C W a x.length x ∧ good x ∧ bulk x ≤ Rows.uptoBulk y := by
  obtain ⟨fuel, hf⟩ := h
  obtain ⟨x, hk, hg, hb⟩ := ho.out enc W fuel _ y ps hf hw
  obtain ⟨A, c, he, hl, hc⟩ := hk
  have he' : [Value.slice a len cap] = [.slice A x.length c] := he
  injection he' with he' _
  injection he' with h1 h2 h3
  subst h1 h2 h3
  exact ⟨x, rfl, hl, hc, hg, hb⟩
end
end Go.Proofs.Ytfikaekocgofoaa.Opns
/- AtlasFolds: the fold's map is what each change makes of it: true at every pool and changes. -/
namespace Go.Proofs.Ytfikaekocgofoaa.atlasFolds
open Go.ChangeShapes Go.WideShapes Go.ChangeAt Go.RowKit Go.Proofs.Ytfikaekocgofoaa.Opns
open Go.ChangeMaps (open_string shut_string)
set_option linter.unusedVariables false
theorem own : ownKnob Try.prog.godebug = none := by kernel_rfl
theorem laidOut : laidOutB Try.prog = true := by kernel_rfl
set_option maxRecDepth 100000 in
theorem lifted (os : Os) (started : os.Started) (H : Type) (enc : TypeId × Value → H) :
    ReturnsInHanded {} Try.checked os 3 .any (Rows.atlasFoldsSpec.pre6 enc Try.prog Try.f3 Rows.atlasFoldsRow.domain false) (Rows.atlasFoldsSpec.post enc Try.prog Try.f3 false true false false) := by
  refine returnsInHanded_of_change_sized (C := Try.checked) own started (by kernel_rfl) Try.func3
    (ChangeSpec.witness6 (enc := enc) (C := Try.checked) false ⟨#[], #[.agg #[.int .i64 0, .int .i64 0, .int .i64 0, .int .i64 0], .slice none 0 0], []⟩ 8 (by kernel_rfl) (by kernel_rfl) (by kernel_rfl) (by kernel_rfl)) ?_
  intro W base args ds gs before hval0 hW hcnd hsz0 _
  have hsz : (DataW.weightsEach Try.prog (Try.f3.params.toList ++ Rows.atlasFoldsSpec.plain.varTypes Try.prog) (ds ++ gs)).all (· ≤ reachBytes) = true := hsz0
  have hval : ∀ (j : Nat) t v, Try.f3.params[j]? = some t → args[j]? = some v → Value.okWide Try.prog W .any base t v := hval0
  have hW' := hW
  obtain ⟨p, q, hA0, hV, rfl, hfz, hnd⟩ := hW
  have hA : DataW.TrodAll enc Try.prog W 0 (fun _ => true) true Try.f3.params.toList args.toList ds p := hA0
  rw [Try.params3] at hA hval hsz
  obtain ⟨v0, vs0, d0, ds0, p0, q0, hargs, rfl, rfl, h0, r0⟩ := trodAll_cons hA
  obtain ⟨v1, vs1, d1, ds1, p1, q1, rfl, rfl, rfl, h1, r1⟩ := trodAll_cons r0
  obtain ⟨rfl, rfl, rfl⟩ := trodAll_nil r1
  obtain rfl : args = #[v0, v1] := by cases args; simp_all
  obtain ⟨rfl, rfl⟩ := trodVars_none hV
  have m0 := weigh (j := 0) (t := 23) hsz rfl rfl
  have k0 := h0
  have lt0 : ∀ x ∈ p0, x.block < W.heap.size := by obtain ⟨m, hm⟩ := k0; exact DataW.trod_lt m _ _ _ hm
  obtain ⟨cs0, rfl⟩ := okw_struct Try.underlying23 (hval 0 23 v0 rfl rfl)
  obtain ⟨x0, c0, g0, b0⟩ := arg_agg AtO.opens_P h0 m0
  have m1 := weigh (j := 1) (t := 24) hsz rfl rfl
  have k1 := h1
  have lt1 : ∀ x ∈ p1, x.block < W.heap.size := by obtain ⟨m, hm⟩ := k1; exact DataW.trod_lt m _ _ _ hm
  obtain ⟨A1, len1, cap1, rfl⟩ := okWide_slice Try.underlying24 (hval 1 24 v1 rfl rfl)
  obtain ⟨x1, rfl, l1, c1, g1, b1⟩ := arg_slice AtO.opens_Cs h1 m1
  clear hA0 hval0 hsz0 hsz
  refine (LfO.walkFolds cs0 x0 A1 cap1 x1 W c0 g0 l1 c1 g1).mono fun e W' ⟨he, bel⟩ => ?_
  subst he
  exact ⟨_, rfl, _, _, _, [], _, [], hW', trodAll_mk1 (shut_bool Try.underlying4 _), (trodAll_cons_mk (Below.trod laidOut (by kernel_rfl) (of_decide_eq_true (by kernel_rfl)) k0 bel lt0) (trodAll_cons_mk (Below.trod laidOut (by kernel_rfl) (of_decide_eq_true (by kernel_rfl)) k1 bel lt1) trodAll_mk0)), rfl, bel.frame _, fun h => by cases h⟩
theorem over : Rows.atlasFoldsRow.holds Try.pinned (OpenSpec.ofChange Rows.atlasFoldsSpec) :=
  OpenClaim.holds_of_wide 3 Try.f3 rfl rfl rfl rfl rfl rfl rfl ⟨rfl, rfl, rfl, rfl, rfl⟩ rfl rfl rfl rfl rfl (by kernel_rfl) Try.func3 (by kernel_rfl)
    (of_decide_eq_true (by kernel_rfl)) (by unfold Func.isWrapper; first | (rw [if_pos (by decide +kernel)]; kernel_rfl) | (rw [if_neg (by decide +kernel)]; exact ⟨rfl, rfl⟩))
    (fun os started H enc _ => lifted os started H enc)
theorem proved : Rows.AtlasFoldsSaid := over
end Go.Proofs.Ytfikaekocgofoaa.atlasFolds

