import Derived.Test.YtnpphmgibgfjoaaKCov2
import Derived.Test.YtnpphmgibgfjoaaWWords
import Derived.Test.YtnpphmgibgfjoaaWLast
import Derived.Test.YtnpphmgibgfjoaaWMore
/- Merged texts, one behind the other: UpsO, MpC, Stb, MpW, IvC, PlF, PlU, Rds, WghP, Wgh, Chr, IntG, LDe, DeO, LAp. -/
/- CrushUps: what the row asks for. -/
namespace Go.Proofs.Ytnpphmgibgfjoaa.UpsO
open Go Go.RowKit Go.Proofs.YtnpphmgibgfjoaaW.PrintWords Opns PAll KW AtA Grp AtB Ups
abbrev wfI (n : Int) : Prop := (Lit.int .i64 n).wf = true
theorem op_i : Opens 3 (Kd.int .i64) (fun n => wfI n) (fun _ => 1) := opens_int Try.underlying3
theorem op_b : Opens 4 Kd.bool (fun _ => True) (fun _ => 1) := opens_bool Try.underlying4
instance : Inhabited S40 := ⟨⟨0, false, false, 0, 0, 0, 0, 0⟩⟩
def goodO (x : S40) : Prop := wfI x.f0 ∧ True ∧ True ∧ wfI x.f3 ∧ wfI x.f4 ∧ wfI x.f5 ∧ wfI x.f6 ∧ wfI x.f7
theorem opens_O : Opens 40 k40 goodO (fun _ => 1) :=
  (opens_struct (g := fun x : S40 => (x.f0, x.f1, x.f2, x.f3, x.f4, x.f5, x.f6, x.f7)) (gi := fun p => ⟨p.1, p.2.1, p.2.2.1, p.2.2.2.1, p.2.2.2.2.1, p.2.2.2.2.2.1, p.2.2.2.2.2.2.1, p.2.2.2.2.2.2.2⟩) (fun _ => rfl) Try.underlying40 (by kernel_rfl)
    (opensF_cons (off := 1) (by kernel_rfl) rfl op_i (opensF_cons (off := 2) (by kernel_rfl) rfl op_b (opensF_cons (off := 3) (by kernel_rfl) rfl op_b (opensF_cons (off := 4) (by kernel_rfl) rfl op_i (opensF_cons (off := 5) (by kernel_rfl) rfl op_i (opensF_cons (off := 6) (by kernel_rfl) rfl op_i (opensF_cons (off := 7) (by kernel_rfl) rfl op_i (opensF_one (by kernel_rfl) op_i))))))))).imp (fun _ h => h) (fun _ => by omega)
def goodP (x : S23) : Prop := wfI x.f0 ∧ wfI x.f1 ∧ wfI x.f2 ∧ wfI x.f3
theorem opens_P : Opens 23 k23 goodP (fun _ => 1) :=
  (opens_struct (g := fun x : S23 => (x.f0, x.f1, x.f2, x.f3)) (gi := fun p => ⟨p.1, p.2.1, p.2.2.1, p.2.2.2⟩) (fun _ => rfl) Try.underlying23 (by kernel_rfl)
    (opensF_cons (off := 1) (by kernel_rfl) rfl op_i (opensF_cons (off := 2) (by kernel_rfl) rfl op_i (opensF_cons (off := 3) (by kernel_rfl) rfl op_i (opensF_one (by kernel_rfl) op_i))))).imp (fun _ h => h) (fun _ => by omega)
structure Ru where
  f0 : Int
  f1 : Int
  deriving Inhabited
end Go.Proofs.Ytnpphmgibgfjoaa.UpsO
/- A row of changes; Apply's answer in one shape. -/
namespace Go.Proofs.Ytnpphmgibgfjoaa.MpC
open Go Go.RowKit Go.Proofs.YtnpphmgibgfjoaaW.PrintWords Opns Mem PAll KW MixP MixW StrP AtA Srt Grp Sl Dsc AtB Roo Cho MayP Awk ApP Fnd McW ApY ApW UpsO
open CrP hiding Od
structure Chg where
  kd : Int
  o : Od
  deriving Inhabited
def kC : Kd Chg := Kd.iso (Kd.pair (Kd.int .i64) kO) (fun x => (x.kd, x.o))
theorem kC_open {w : World} {x : Chg} {cs : List Value} (h : kC.K w x cs) : cs = (chA x.kd x.o).toList := by
  obtain ⟨_, _, rfl, rfl, h⟩ := h
  obtain rfl := k40_open h
  rfl
theorem at_C {w : World} {A : Option Addr} {n : Nat} {xs : List Chg} (h : kC.C w A n xs) (i : Nat) (h1 : i < n) :
    ∃ ad x, xs[i]? = some x ∧ A = some ad ∧ w.cell? (ad.add (i * 9)) = some (.int .i64 x.kd) ∧ w.cell? ⟨(ad.add (i * 9)).block, (ad.add (i * 9)).off + 1, none⟩ = some (.int .i64 x.o.f0) ∧ w.cell? ⟨(ad.add (i * 9)).block, (ad.add (i * 9)).off + 2, none⟩ = some (.bool x.o.f1) ∧ w.cell? ⟨(ad.add (i * 9)).block, (ad.add (i * 9)).off + 3, none⟩ = some (.bool x.o.f2) ∧ w.cell? ⟨(ad.add (i * 9)).block, (ad.add (i * 9)).off + 4, none⟩ = some (.int .i64 x.o.f3) ∧ w.cell? ⟨(ad.add (i * 9)).block, (ad.add (i * 9)).off + 5, none⟩ = some (.int .i64 x.o.f4) ∧ w.cell? ⟨(ad.add (i * 9)).block, (ad.add (i * 9)).off + 6, none⟩ = some (.int .i64 x.o.f5) ∧ w.cell? ⟨(ad.add (i * 9)).block, (ad.add (i * 9)).off + 7, none⟩ = some (.int .i64 x.o.f6) ∧ w.cell? ⟨(ad.add (i * 9)).block, (ad.add (i * 9)).off + 8, none⟩ = some (.int .i64 x.o.f7) := by
  obtain ⟨ad, c, e, _, hK, hc0⟩ := Kd.C_get h default (i : Int) (by omega) (by omega)
  have hn : i < xs.length := by have := h.1; omega
  have hg : xs.getD (i : Int).toNat default = xs[i] := by
    rw [Int.toNat_natCast, List.getD_eq_getElem?_getD, List.getElem?_eq_getElem hn]
    rfl
  rw [hg] at hK
  have hc : ∀ j u, c[j]? = some u → w.cell? (ad.add (i * 9 + j)) = some u := hc0
  obtain rfl := kC_open hK
  exact ⟨ad, xs[i], List.getElem?_eq_getElem hn, e, hc 0 _ rfl, by rw [← add_field _ _ 1 (by omega)]; exact hc 1 _ rfl, by rw [← add_field _ _ 2 (by omega)]; exact hc 2 _ rfl, by rw [← add_field _ _ 3 (by omega)]; exact hc 3 _ rfl, by rw [← add_field _ _ 4 (by omega)]; exact hc 4 _ rfl, by rw [← add_field _ _ 5 (by omega)]; exact hc 5 _ rfl, by rw [← add_field _ _ 6 (by omega)]; exact hc 6 _ rfl, by rw [← add_field _ _ 7 (by omega)]; exact hc 7 _ rfl, by rw [← add_field _ _ 8 (by omega)]; exact hc 8 _ rfl⟩
/-- What Apply answers, right or not. -/
def Goes (ep k m p d er a0 a1 a2 a3 a4 : Int) (l : List Od) : Prop := er = 0 → a0 = ep + 1 ∧ a1 = k ∧ a2 = m ∧ a3 = p ∧ a4 = d ∧ mayB (ep + 1) k m p d l = true
theorem apply_uni (ep k m p d : Int) (A : Option Addr) (c : Nat) (l : List Od) (kd : Int) (o : Od) (w : World) (hx : kO.C w A l.length l) (hcap : l.length ≤ c) :
    Calls Try.prog 49 #[.agg (boxM ep k m p d A c l), .agg (chA kd o)] w fun e w' => ∃ (er a0 a1 a2 a3 a4 : Int) (l' : List Od) (v5 : Value), e = .returned (.tuple #[.agg #[.int .i64 a0, .int .i64 a1, .int .i64 a2, .int .i64 a3, .int .i64 a4, v5], .int .i64 er]) ∧ kO.R 40 w' w.heap.size (fun k => w.heap.size ≤ k) v5 l' ∧ Goes ep k m p d er a0 a1 a2 a3 a4 l' ∧ Below w.heap.size w w' := by
  refine (apply_any ep k m p d A c l kd o w hx hcap).mono ?_
  rintro e w1 ⟨er, hb, ⟨h0, rfl⟩ | ⟨l', A', c', rfl, rfl, hr, hm⟩⟩
  · exact ⟨er, 0, 0, 0, 0, 0, [], .slice none 0 0, rfl, Kd.R_nil _ _ _ _ _, fun h => absurd h h0, hb⟩
  · refine ⟨0, ep + 1, k, m, p, d, l', .slice A' l'.length c', rfl, Kd.R_mono (Kd.R_bound hr) (fun k hk => hk.2.1), fun _ => ⟨rfl, rfl, rfl, rfl, rfl, hm⟩, hb⟩
def goodC (x : Chg) : Prop := wfI x.kd ∧ goodO x.o
theorem opens_C : Opens 88 kC goodC (fun _ => 1) :=
  (opens_struct (g := fun x : Chg => (x.kd, x.o)) (gi := fun p => ⟨p.1, p.2⟩) (fun _ => rfl) Try.underlying88 (by kernel_rfl)
    (opensF_cons (off := 1) (by kernel_rfl) rfl op_i (opensF_one (by kernel_rfl) opens_O))).imp (fun _ h => h) (fun _ => by omega)
theorem opens_Cs : Opens 47 (Kd.slice 88 kC) (fun xs => (∀ x ∈ xs, goodC x) ∧ xs.length * 64 ≤ reachBytes) (fun xs => lbulk (fun _ => 1) xs + 1) := opens_slice Try.underlying47 (by kernel_rfl) (by kernel_rfl) opens_C
end Go.Proofs.Ytnpphmgibgfjoaa.MpC
/- A store into a block that is known whole: the block behind it, all else as it was. -/
namespace Go.Proofs.Ytnpphmgibgfjoaa.Stb
open Go Go.RowKit Go.Proofs.YtnpphmgibgfjoaaW.PrintWords Go.Proofs.YtnpphmgibgfjoaaW.PrintLast Go.Proofs.YtnpphmgibgfjoaaW.PrintMore
section
variable {P : Program} {ops : Array Oper} {rest : List Oper} {o : Oper} {a : Act} {Q : Exit → Act → World → Prop} {Kc : Act → World → Prop}
theorem store_run {W : World} (t : TypeId) (p x : Operand) (ho : o.op = .store t p x) {g j : Nat} {e : TypeId} {cur cur' : Array Value} {u : Value} (seg : List Value)
    (hh : W.heap[g]? = some (.cells cur e (0, 0))) (haddr : a.eval p = .pointer (some ⟨g, j, none⟩)) (hx : a.eval x = u) (hu : u.cells.toList = seg) (ht : (P.info? t).map (·.size) = some seg.length) (hfit : j + seg.length ≤ cur.size) (h1 : seg.all (fun q => q.oneCell') = true)
    (hc : cur'.toList = cur.toList.take j ++ seg ++ cur.toList.drop (j + seg.length)) :
    ∃ w1, (execOp a.eval o).run P W = .ok .skip w1 ∧ w1.heap[g]? = some (.cells cur' e (0, 0)) ∧ W.grownBy w1 (some g) ∧ w1.heap.size = W.heap.size := by
  have h1' : ∀ q ∈ seg, q.oneCell' = true := fun q hq => List.all_eq_true.1 h1 q hq
  have hrun := run_store_run (P := P) (o := j) t u seg hh hu ht hfit h1'
  obtain ⟨c2, k1, k2, k3⟩ := setCells_row seg j W cur hh hfit
  obtain ⟨s1, s2, s3, s4⟩ := setCells_same g seg j W
  have e2 : c2 = cur' := by rw [← Array.toList_inj, k3, hc]
  subst e2
  refine ⟨W.setCells g j seg, ?_, k1, ⟨s1, s2, s3, by rw [s4]; exact Nat.le_refl _, fun k _ hk => setCells_far _ _ k (fun he => hk (by rw [he]))⟩, s4⟩
  unfold execOp
  simp only [ho, haddr, hx, Sem.run_bind, Sem.run_pure, Result.andThen_ok, hrun]
/-- In a region that draws its order. -/
theorem store_step {W : World} (hw : Region.wanted o (yielded ops a.tmps) = true) (hN : o.dst = none) (t : TypeId) (p x : Operand) (ho : o.op = .store t p x) {g j : Nat} {e : TypeId} {cur cur' : Array Value} {u : Value} (seg : List Value)
    (hh : W.heap[g]? = some (.cells cur e (0, 0))) (haddr : a.eval p = .pointer (some ⟨g, j, none⟩)) (hx : a.eval x = u) (hu : u.cells.toList = seg) (ht : (P.info? t).map (·.size) = some seg.length) (hfit : j + seg.length ≤ cur.size) (h1 : seg.all (fun q => q.oneCell') = true)
    (hc : cur'.toList = cur.toList.take j ++ seg ++ cur.toList.drop (j + seg.length))
    (h : ∀ w1, w1.heap[g]? = some (.cells cur' e (0, 0)) → W.grownBy w1 (some g) → w1.heap.size = W.heap.size → Kc (a.put none undef) w1) : if Region.wanted o (yielded ops a.tmps) = true then Oper.wp P o a W Kc Q else Kc (a.put none undef) W := by
  obtain ⟨w1, hrun, k1, k2, k3⟩ := store_run (P := P) t p x ho seg hh haddr hx hu ht hfit h1 hc
  exact skip_ hw hN hrun (h w1 k1 k2 k3)
/-- In a plain region, as an arm: 'hd' is the operation itself. -/
theorem store_list {W : World} (hgd : o.guard = none) (hN : o.dst = none) (t : TypeId) (p x : Operand) (ho : o.op = .store t p x) {g j : Nat} {e : TypeId} {cur cur' : Array Value} {u : Value} (seg : List Value)
    (hh : W.heap[g]? = some (.cells cur e (0, 0))) (haddr : a.eval p = .pointer (some ⟨g, j, none⟩)) (hx : a.eval x = u) (hu : u.cells.toList = seg) (ht : (P.info? t).map (·.size) = some seg.length) (hfit : j + seg.length ≤ cur.size) (h1 : seg.all (fun q => q.oneCell') = true)
    (hc : cur'.toList = cur.toList.take j ++ seg ++ cur.toList.drop (j + seg.length))
    (h : ∀ w1, w1.heap[g]? = some (.cells cur' e (0, 0)) → W.grownBy w1 (some g) → w1.heap.size = W.heap.size → wpList P ops Q rest a w1) : wpList P ops Q (o :: rest) a W := by
  obtain ⟨w1, hrun, k1, k2, k3⟩ := store_run (P := P) t p x ho seg hh haddr hx hu ht hfit h1 hc
  refine wpList_plain hgd fun K hK => ?_
  unfold Oper.wp
  rw [hrun]
  show K (a.put o.dst undef) w1
  rw [hN]
  exact hK _ _ (h w1 k1 k2 k3)
end
theorem below_grown1 {w0 w w1 : World} {B g : Nat} (h : Below B w0 w) (hg : w.grownBy w1 (some g)) (hb : B ≤ g) (hB : B ≤ w.heap.size) : Below B w0 w1 := h.grown hg hB (by intro k hk; injection hk with hk; omega)
end Go.Proofs.Ytnpphmgibgfjoaa.Stb
/- The maps that come of changes. -/
set_option linter.unusedSimpArgs false
namespace Go.Proofs.Ytnpphmgibgfjoaa.MpW
open Go Go.RowKit Go.Proofs.YtnpphmgibgfjoaaW.PrintWords Go.Proofs.YtnpphmgibgfjoaaW.PrintLast Go.Proofs.YtnpphmgibgfjoaaW.PrintMore Mem PAll KW MixP MixW StrP AtA Srt Grp Sl Dsc AtB Roo Cho MayP Awk ApP Fnd McW ApY ApW MpC
open CrP hiding Od
abbrev Mp := S26
abbrev kM := k26
theorem infoM : (Try.prog.info? 26).map (fun i => (i.zero, i.size, i.bytes)) = some (some (.agg #[.int .i64 0, .int .i64 0, .int .i64 0, .int .i64 0, .int .i64 0, .slice none 0 0]), 6, 64) := by kernel_rfl
structure Chain (k m p d : Int) (ms : List Mp) : Prop where
  pos : 0 < ms.length
  each : ∀ (i : Nat) (x : Mp), ms[i]? = some x → x.f0 = i ∧ x.f1 = ⟨k, m, p, d⟩ ∧ mayB i k m p d x.f2 = true
theorem good_nil : goodB [] = true := goodB_yes (fun _ _ hi _ => absurd hi (Nat.not_lt_zero _))
theorem Chain.one {k m p d : Int} (h : poolB k m p d = true) : Chain k m p d [⟨0, ⟨k, m, p, d⟩, []⟩] where
  pos := Nat.zero_lt_one
  each := by
    intro i x hi
    match i, hi with
    | 0, hi =>
      obtain rfl := Option.some.inj hi
      refine ⟨rfl, rfl, ?_⟩
      unfold mayB
      rw [h, good_nil]
      rfl
    | i + 1, hi => cases hi
theorem Chain.more {k m p d : Int} {ms : List Mp} (h : Chain k m p d ms) {er a0 a1 a2 a3 a4 : Int} {l' : List Od} (hg : Goes ((ms.length : Int) - 1) k m p d er a0 a1 a2 a3 a4 l') (h0 : er = 0) : Chain k m p d (ms ++ [⟨a0, ⟨a1, a2, a3, a4⟩, l'⟩]) where
  pos := by rw [List.length_append]; have := h.pos; omega
  each := by
    intro i x hi
    by_cases e : i < ms.length
    · rw [List.getElem?_append_left e] at hi
      exact h.each i x hi
    · have e2 := (List.getElem?_eq_some_iff.1 hi).1
      rw [List.length_append, List.length_singleton] at e2
      have e3 : i = ms.length := by omega
      subst e3
      rw [List.getElem?_append_right (Nat.le_refl _), Nat.sub_self] at hi
      obtain rfl := Option.some.inj hi
      obtain ⟨g0, g1, g2, g3, g4, g5⟩ := hg h0
      have e4 : (ms.length : Int) - 1 + 1 = ms.length := by omega
      rw [e4] at g0 g5
      subst g1 g2 g3 g4
      exact ⟨g0, rfl, g5⟩
theorem at_M {w : World} {A : Option Addr} {n : Nat} {ms : List Mp} (h : kM.C w A n ms) (i : Nat) (h1 : i < n) :
    ∃ ad x A5 c5, ms[i]? = some x ∧ A = some ad ∧ w.cell? (ad.add (i * 6)) = some (.int .i64 x.f0) ∧ w.cell? ⟨(ad.add (i * 6)).block, (ad.add (i * 6)).off + 1, none⟩ = some (.int .i64 x.f1.f0) ∧ w.cell? ⟨(ad.add (i * 6)).block, (ad.add (i * 6)).off + 2, none⟩ = some (.int .i64 x.f1.f1) ∧ w.cell? ⟨(ad.add (i * 6)).block, (ad.add (i * 6)).off + 3, none⟩ = some (.int .i64 x.f1.f2) ∧ w.cell? ⟨(ad.add (i * 6)).block, (ad.add (i * 6)).off + 4, none⟩ = some (.int .i64 x.f1.f3) ∧ w.cell? ⟨(ad.add (i * 6)).block, (ad.add (i * 6)).off + 5, none⟩ = some (.slice A5 x.f2.length c5) ∧ x.f2.length ≤ c5 ∧ kO.C w A5 x.f2.length x.f2 := by
  obtain ⟨ad, c, e, _, hK, hc0⟩ := Kd.C_get h z26 (i : Int) (by omega) (by omega)
  have hn : i < ms.length := by have := h.1; omega
  have hg : ms.getD (i : Int).toNat z26 = ms[i] := by
    rw [Int.toNat_natCast, List.getD_eq_getElem?_getD, List.getElem?_eq_getElem hn]
    rfl
  rw [hg] at hK
  have hc : ∀ j u, c[j]? = some u → w.cell? (ad.add (i * 6 + j)) = some u := hc0
  obtain ⟨A5, c5, rfl, h5, h6⟩ := k26_open hK
  exact ⟨ad, ms[i], A5, c5, List.getElem?_eq_getElem hn, e, hc 0 _ rfl, by rw [← add_field _ _ 1 (by omega)]; exact hc 1 _ rfl, by rw [← add_field _ _ 2 (by omega)]; exact hc 2 _ rfl, by rw [← add_field _ _ 3 (by omega)]; exact hc 3 _ rfl, by rw [← add_field _ _ 4 (by omega)]; exact hc 4 _ rfl, by rw [← add_field _ _ 5 (by omega)]; exact hc 5 _ rfl, h5, h6⟩
/-- Does the law go on? -/
def mapsB (k m p d : Int) : Bool := poolB k m p d && decide (k + m ≤ 8)
theorem pool_calls (k m p d : Int) (w : World) : Calls Try.prog 37 #[.agg #[.int .i64 k, .int .i64 m, .int .i64 p, .int .i64 d]] w fun e w' => e = .returned (.bool (poolB k m p d)) ∧ Below w.heap.size w w' := by
  refine (mooringref13_Pool.calls k m p d _ w (pool_eq k m p d)).mono ?_
  rintro e w1 ⟨rfl, hb⟩
  exact ⟨rfl, hb⟩
set_option maxHeartbeats 8000000 in
set_option maxRecDepth 100000 in
theorem maps_calls (k m p d : Int) (A : Option Addr) (c : Nat) (xs : List Chg) (w : World) (hx : kC.C w A xs.length xs) (hcap : xs.length ≤ c) :
    Calls Try.prog 23 #[.agg #[.int .i64 k, .int .i64 m, .int .i64 p, .int .i64 d], .slice A xs.length c] w fun e w' => Below w.heap.size w w' ∧ ((mapsB k m p d = false ∧ e = .returned (.tuple #[.slice none 0 0, .bool false])) ∨ (mapsB k m p d = true ∧ ∃ (v : Value) (ms : List Mp), e = .returned (.tuple #[v, .bool true]) ∧ kM.R 26 w' w.heap.size (fun _ => True) v ms ∧ Chain k m p d ms ∧ ms.length ≤ 41)) := by
  have HB1 := Lib.hid (below_alloc (Below.refl w.heap.size w) (.cells #[.int .i64 k, .int .i64 m, .int .i64 p, .int .i64 d] 23))
  have HP1 : Hid ((w.alloc (.cells #[.int .i64 k, .int .i64 m, .int .i64 p, .int .i64 d] 23)).heap[w.heap.size]? = some (.cells #[.int .i64 k, .int .i64 m, .int .i64 p, .int .i64 d] 23 (0, 0))) := Lib.hid (blk_new _ _)
  have HC1 := Lib.hid (Kd.C_alloc hx (.cells #[.int .i64 k, .int .i64 m, .int .i64 p, .int .i64 d] 23))
  have TP := Lib.hid (fun W => pool_calls k m p d W)
  obtain ⟨pb, hpb⟩ : ∃ pb, pb = poolB k m p d := ⟨_, rfl⟩
  have HPB := Lib.hid hpb
  have hmb : mapsB k m p d = (pb && decide (k + m ≤ 8)) := by rw [hpb]; rfl
  rw [← hpb] at TP
  have HMB := Lib.hid hmb
  obtain ⟨ok, hok⟩ : ∃ ok, ok = mapsB k m p d := ⟨_, rfl⟩
  rw [← hok] at HMB ⊢
  clear hx hmb hpb hok
  have c0 := blk_cell HP1.out 0
  have c1 := blk_cell HP1.out 1
  have c2 := blk_cell HP1.out 2
  have c3 := blk_cell HP1.out 3
  cases pb with
  | false =>
    have HOK : Hid (ok = false) := Lib.hid HMB.out
    go_enter Try.func23, Try.ntmps23
    go_wp2_with fail
    refine (TP.out _).mono ?_
    rintro e w1 ⟨rfl, hb⟩
    have HB2 := Lib.hid (below_then HB1.out HB1.out.size hb)
    clear hb c0 c1 c2 c3
    go_wp2_with fail
    go_ret2
    exact ⟨HB2.out, .inl ⟨HOK.out, rfl⟩⟩
  | true =>
    have hpr : (1 ≤ k ∧ k ≤ 32) ∧ (1 ≤ m ∧ m ≤ 32) := by
      have := HPB.out.symm
      unfold poolB at this
      simp only [Bool.and_eq_true, decide_eq_true_eq] at this
      omega
    obtain ⟨⟨q1, q2⟩, q3, q4⟩ := hpr
    go_enter Try.func23, Try.ntmps23
    go_wp2_with fail
    refine (TP.out _).mono ?_
    rintro e w1 ⟨rfl, hb⟩
    have HB2 := Lib.hid (below_then HB1.out HB1.out.size hb)
    have HP2 := Lib.hid (blk_below HP1.out hb)
    have HC2 := Lib.hid (Kd.C_below HC1.out hb)
    have HS2 : Hid (w.heap.size < w1.heap.size) := Lib.hid (blk_lt HP2.out)
    clear hb c0 c1 c2 c3 HB1 HP1 HC1
    have c0 := blk_cell HP2.out 0
    have c1 := blk_cell HP2.out 1
    have c2 := blk_cell HP2.out 2
    have c3 := blk_cell HP2.out 3
    by_cases h8 : 8 < k + m
    · have h8b : decide (8 < k + m) = true := decide_eq_true h8
      have HOK : Hid (ok = false) := Lib.hid (by rw [HMB.out, decide_eq_false (by omega)]; rfl)
      clear h8
      go_wp2_with fail
      go_ret2
      exact ⟨HB2.out, .inl ⟨HOK.out, rfl⟩⟩
    have h8b : decide (8 < k + m) = false := decide_eq_false h8
    have HOK : Hid (ok = true) := Lib.hid (by rw [HMB.out, decide_eq_true (by omega)]; rfl)
    clear h8
    go_upto_region 4 with fail
    have HO2 : Hid (kM.R 26 (w1.alloc (.cells #[.int .i64 0, .int .i64 k, .int .i64 m, .int .i64 p, .int .i64 d, .slice none 0 0] 26)) w1.heap.size (fun _ => True) (.slice (some ⟨w1.heap.size, 0, none⟩) 1 1) [⟨0, ⟨k, m, p, d⟩, []⟩]) := Lib.hid ⟨fun _ _ => trivial, OwnRow.lit w1 w1.heap.size (ps := [(⟨0, ⟨k, m, p, d⟩, []⟩ : Mp)]) (inner := [.int .i64 0, .int .i64 k, .int .i64 m, .int .i64 p, .int .i64 d, .slice none 0 0]) ⟨rfl, fun j q hj => by
      match j, hj with
      | 0, hj =>
        obtain rfl := Option.some.inj hj
        exact k26_mkM _ _ _ (⟨0, ⟨k, m, p, d⟩, []⟩ : Mp) (Kd.R_nil _ _ _ _ _)
      | j + 1, hj => cases hj⟩ (Nat.le_refl _) (show 1 ≤ 9223372036854775807 by decide)⟩
    have HCH0 : Hid (Chain k m p d [⟨0, ⟨k, m, p, d⟩, []⟩]) := Lib.hid (Chain.one HPB.out.symm)
    have HB3 := Lib.hid (below_alloc (Below.refl w1.heap.size w1) (.cells #[.int .i64 0, .int .i64 k, .int .i64 m, .int .i64 p, .int .i64 d, .slice none 0 0] 26))
    obtain ⟨w2, hw2⟩ : ∃ w2, w2 = w1.alloc (.cells #[.int .i64 0, .int .i64 k, .int .i64 m, .int .i64 p, .int .i64 d, .slice none 0 0] 26) := ⟨_, rfl⟩
    rw [← hw2] at HO2 HB3 ⊢
    clear hw2 c0 c1 c2 c3 q1 q2 q3 q4 h8b HMB HPB
    have HCAP := Lib.hid hcap
    clear hcap
    go_wp2_with fail
    go_loopw [6, 7] (fun v' i' wr => ∃ (n : Nat) (ms : List Mp), i' = .int .i64 n ∧ Hid (n ≤ xs.length) ∧ Hid (n ≤ 40) ∧ Hid (ms.length ≤ n + 1) ∧ Hid (Chain k m p d ms) ∧ Hid (kM.R 26 wr w1.heap.size (fun _ => True) v' ms) ∧ Hid (Below w1.heap.size w1 wr)) (fun _ i' _ => (xs.length - intOf i').toNat)
    case atStart => exact ⟨0, _, rfl, Lib.hid (Nat.zero_le _), Lib.hid (Nat.zero_le _), Lib.hid (Nat.le_refl _), HCH0, HO2, HB3⟩
    case round =>
      obtain ⟨n, ms, rfl, HN, HN40, HML, HCH, HO, HB⟩ := hrel
      clear HO2 HB3 HCH0
      have hn := HN.out
      have hn40 := HN40.out
      by_cases h : n < xs.length
      · have hlt : decide (n < xs.length) = true := decide_eq_true h
        have i0 : (0 : Int) ≤ n := by omega
        have i1 : (n : Int) < xs.length := by omega
        have hltI : decide ((n : Int) < (xs.length : Int)) = true := decide_eq_true i1
        by_cases h40 : n < 40
        · have hlt40 : decide ((n : Int) < 40) = true := decide_eq_true (by omega)
          have HNI := Lib.hid h
          have HN4I := Lib.hid h40
          clear h hn hn40 h40
          obtain ⟨g, cap, rfl, hbg, hgl, _⟩ := Kd.R_form HO.out HCH.out.pos
          obtain ⟨L, hL⟩ : ∃ L : Nat, ms.length = L + 1 := ⟨ms.length - 1, by have := HCH.out.pos; omega⟩
          have hrc := Kd.R_reads' HO.out
          obtain ⟨ad, x, A5, c5, hx, hA, m0, m1, m2, m3, m4, m5, h5, hc5⟩ := at_M hrc.2.2 L (by omega)
          obtain rfl := Option.some.inj hA
          simp only [add_plain] at m0 m1 m2 m3 m4 m5
          obtain ⟨ac, y, hy, hA2, b0, b1, b2, b3, b4, b5, b6, b7, b8⟩ := at_C (Kd.C_below HC2.out HB.out) n HNI.out
          subst hA2
          obtain ⟨e0, e1, e2⟩ := HCH.out.each L x hx
          rw [e0] at m0
          rw [e1] at m1 m2 m3 m4
          obtain ⟨Lm, hLm⟩ : ∃ Lm, Lm = ms.length := ⟨_, rfl⟩
          rw [← hLm] at HO ⊢
          have hls : (Lm : Int) - 1 = L := by omega
          have hl1 : decide (L < Lm) = true := decide_eq_true (by omega)
          have hlI : (L : Int) < Lm := by omega
          have hlr : Lm ≤ 41 := by have := HML.out; have := HN4I.out; omega
          have hw : IntKind.i64.wrap (L : Int) = L := by rw [Go.IntKind.wrap_i64]; omega
          have hl0 : (0 : Int) ≤ L := by omega
          have HLM := Lib.hid hLm
          clear hLm
          have HL := Lib.hid hL
          have HC5 := Lib.hid hc5
          have T := Lib.hid (fun W (hC : kO.C W A5 x.f2.length x.f2) => apply_uni (L : Int) k m p d A5 c5 x.f2 y.kd y.o W hC h5)
          unfold boxM chA at T
          have HGL := Lib.hid hgl
          clear hL hc5 hrc hx hy e0 e1 e2 hbg hgl h5
          obtain ⟨wv, hwv⟩ : ∃ wv, wv = wr := ⟨_, rfl⟩
          rw [← hwv] at HO HB HC5 HGL m0 m1 m2 m3 m4 m5 b0 b1 b2 b3 b4 b5 b6 b7 b8 ⊢
          clear hwv
          have HB1V : Hid (w1.heap.size ≤ wv.heap.size) := Lib.hid HB.out.size
          go_upto_region 7 with fail
          go_cut [8, 9] from 24 to 53 (fun s8 s9 wx => ∃ (R : Nat) (er a0 a1 a2 a3 a4 : Int) (l' : List Od) (v5 : Value), s8 = .pointer (some ⟨R, 0, none⟩) ∧ s9 = .int .i64 er ∧ wx.heap[R]? = some (.cells #[.int .i64 a0, .int .i64 a1, .int .i64 a2, .int .i64 a3, .int .i64 a4, v5] 26 (0, 0)) ∧ kO.R 40 wx wv.heap.size (fun k => wv.heap.size ≤ k) v5 l' ∧ Goes (L : Int) k m p d er a0 a1 a2 a3 a4 l' ∧ Below wv.heap.size wv wx)
          case first =>
            refine start_ (n := 17) (S := fun w' => Below wv.heap.size wv w') (ds := [15]) #[false, false, false, false, false, false, false, false, false, false, false, false, false, false, false, false, false] (by kernel_rfl) rfl rfl (below_drew (Below.refl _ _)) (fun hHeld => ?_)
            have HBd := Lib.hid (below_drew (Below.refl wv.heap.size wv))
            generalize wv.drew = wd at HBd hHeld ⊢
            refine pure_ (i := 0) (N := some 35) (v := ?_) (a' := ?_) #[true, false, false, false, false, false, false, false, false, false, false, false, false, false, false, false, false] rfl rfl (by kernel_rfl) (fun _ _ _ h => h) (Or.inl ⟨by rfl, ?_⟩) ?_ ?_
            rotate_left
            · intro w'
              go_simp
              with_reducible rfl
            rotate_left
            · simp only [Act.put, List.setIfInBounds_toArray, List.set_cons_zero, List.set_cons_succ, i64_w, i32_w]
              rfl
            refine pure_ (i := 1) (N := some 36) (v := ?_) (a' := ?_) #[true, true, false, false, false, false, false, false, false, false, false, false, false, false, false, false, false] rfl rfl (by kernel_rfl) (fun _ _ _ h => h) (Or.inl ⟨by rfl, ?_⟩) ?_ ?_
            rotate_left
            · intro w'
              go_simp
              with_reducible rfl
            rotate_left
            · simp only [Act.put, List.setIfInBounds_toArray, List.set_cons_zero, List.set_cons_succ, i64_w, i32_w]
              rfl
            refine pure_ (i := 2) (N := some 37) (v := ?_) (a' := ?_) #[true, true, true, false, false, false, false, false, false, false, false, false, false, false, false, false, false] rfl rfl (by kernel_rfl) (fun _ _ _ h => h) (Or.inl ⟨by rfl, ?_⟩) ?_ ?_
            rotate_left
            · intro w'
              go_simp
              with_reducible rfl
            rotate_left
            · simp only [Act.put, List.setIfInBounds_toArray, List.set_cons_zero, List.set_cons_succ, i64_w, i32_w]
              rfl
            refine pure_ (i := 3) (N := some 38) (v := ?_) (a' := ?_) #[true, true, true, true, false, false, false, false, false, false, false, false, false, false, false, false, false] rfl rfl (by kernel_rfl) (fun _ _ _ h => h) (Or.inl ⟨by rfl, ?_⟩) ?_ ?_
            rotate_left
            · intro w'
              go_simp
              with_reducible rfl
            rotate_left
            · simp only [Act.put, List.setIfInBounds_toArray, List.set_cons_zero, List.set_cons_succ, i64_w, i32_w]
              rfl
            refine pure_ (i := 4) (N := some 39) (v := ?_) (a' := ?_) #[true, true, true, true, true, false, false, false, false, false, false, false, false, false, false, false, false] rfl rfl (by kernel_rfl) (fun _ _ _ h => h) (Or.inl ⟨by rfl, ?_⟩) ?_ ?_
            rotate_left
            · intro w'
              go_simp
              with_reducible rfl
            rotate_left
            · simp only [Act.put, List.setIfInBounds_toArray, List.set_cons_zero, List.set_cons_succ, i64_w, i32_w]
              rfl
            refine take_ (i := 5) (N := some 40) (v := ?_) (a' := ?_) #[true, true, true, true, true, true, false, false, false, false, false, false, false, false, false, false, false] rfl rfl (by kernel_rfl) (fun _ _ _ h => h) (Or.inl ⟨by rfl, ?_⟩) hHeld ?_ ?_
            rotate_left
            · rintro w' hS
              have x0 := pw_cell_below hS m0
              have x1 := pw_cell_below hS m1
              have x2 := pw_cell_below hS m2
              have x3 := pw_cell_below hS m3
              have x4 := pw_cell_below hS m4
              have x5 := pw_cell_below hS m5
              go_simp
              with_reducible rfl
            rotate_left
            · simp only [Act.put, List.setIfInBounds_toArray, List.set_cons_zero, List.set_cons_succ, i64_w, i32_w]
              rfl
            refine pure_ (i := 6) (N := some 41) (v := ?_) (a' := ?_) #[true, true, true, true, true, true, true, false, false, false, false, false, false, false, false, false, false] rfl rfl (by kernel_rfl) (fun _ _ _ h => h) (Or.inl ⟨by rfl, ?_⟩) ?_ ?_
            rotate_left
            · intro w'
              go_simp
              with_reducible rfl
            rotate_left
            · simp only [Act.put, List.setIfInBounds_toArray, List.set_cons_zero, List.set_cons_succ, i64_w, i32_w]
              rfl
            refine pure_ (i := 7) (N := some 42) (v := ?_) (a' := ?_) #[true, true, true, true, true, true, true, true, false, false, false, false, false, false, false, false, false] rfl rfl (by kernel_rfl) (fun _ _ _ h => h) (Or.inl ⟨by rfl, ?_⟩) ?_ ?_
            rotate_left
            · intro w'
              go_simp
              with_reducible rfl
            rotate_left
            · simp only [Act.put, List.setIfInBounds_toArray, List.set_cons_zero, List.set_cons_succ, i64_w, i32_w]
              rfl
            refine pure_ (i := 8) (N := some 43) (v := ?_) (a' := ?_) #[true, true, true, true, true, true, true, true, true, false, false, false, false, false, false, false, false] rfl rfl (by kernel_rfl) (fun _ _ _ h => h) (Or.inl ⟨by rfl, ?_⟩) ?_ ?_
            rotate_left
            · intro w'
              go_simp
              with_reducible rfl
            rotate_left
            · simp only [Act.put, List.setIfInBounds_toArray, List.set_cons_zero, List.set_cons_succ, i64_w, i32_w]
              rfl
            refine take_ (i := 9) (N := some 44) (v := ?_) (a' := ?_) #[true, true, true, true, true, true, true, true, true, true, false, false, false, false, false, false, false] rfl rfl (by kernel_rfl) (fun _ _ _ h => h) (Or.inl ⟨by rfl, ?_⟩) hHeld ?_ ?_
            rotate_left
            · rintro w' hS
              have x0 := pw_cell_below hS b0
              have x1 := pw_cell_below hS b1
              have x2 := pw_cell_below hS b2
              have x3 := pw_cell_below hS b3
              have x4 := pw_cell_below hS b4
              have x5 := pw_cell_below hS b5
              have x6 := pw_cell_below hS b6
              have x7 := pw_cell_below hS b7
              have x8 := pw_cell_below hS b8
              go_simp
              with_reducible rfl
            rotate_left
            · simp only [Act.put, List.setIfInBounds_toArray, List.set_cons_zero, List.set_cons_succ, i64_w, i32_w]
              rfl
            refine join_ (σ := Nat × Int × Int × Int × Int × Int × Int × List Od × Option Addr × Nat × Nat) 2 #[true, true, true, true, true, true, true, true, true, true, true, true, true, true, true, false, false] (fun s => [(8, .pointer (some ⟨s.1, 0, none⟩)), (45, .tuple #[.agg #[.int .i64 s.2.2.1, .int .i64 s.2.2.2.1, .int .i64 s.2.2.2.2.1, .int .i64 s.2.2.2.2.2.1, .int .i64 s.2.2.2.2.2.2.1, .slice s.2.2.2.2.2.2.2.2.1 s.2.2.2.2.2.2.2.2.2.1 s.2.2.2.2.2.2.2.2.2.2], .int .i64 s.2.1]), (34, .tuple #[.agg #[.int .i64 s.2.2.1, .int .i64 s.2.2.2.1, .int .i64 s.2.2.2.2.1, .int .i64 s.2.2.2.2.2.1, .int .i64 s.2.2.2.2.2.2.1, .slice s.2.2.2.2.2.2.2.2.1 s.2.2.2.2.2.2.2.2.2.1 s.2.2.2.2.2.2.2.2.2.2], .int .i64 s.2.1]), (46, .agg #[.int .i64 s.2.2.1, .int .i64 s.2.2.2.1, .int .i64 s.2.2.2.2.1, .int .i64 s.2.2.2.2.2.1, .int .i64 s.2.2.2.2.2.2.1, .slice s.2.2.2.2.2.2.2.2.1 s.2.2.2.2.2.2.2.2.2.1 s.2.2.2.2.2.2.2.2.2.2]), (47, .int .i64 s.2.1)]) (fun s w' => Hid (w'.heap[s.1]? = some (.cells zM 26 (0, 0))) ∧ Hid (kO.R 40 w' wv.heap.size (fun k => wv.heap.size ≤ k ∧ k ≠ s.1) (.slice s.2.2.2.2.2.2.2.2.1 s.2.2.2.2.2.2.2.2.2.1 s.2.2.2.2.2.2.2.2.2.2) s.2.2.2.2.2.2.2.1) ∧ Hid (Goes (L : Int) k m p d s.2.1 s.2.2.1 s.2.2.2.1 s.2.2.2.2.1 s.2.2.2.2.2.1 s.2.2.2.2.2.2.1 s.2.2.2.2.2.2.2.1) ∧ Hid (Below wv.heap.size wv w') ∧ Hid (wv.heap.size ≤ s.1)) ?_ (fun hfin => ?_)
            · rintro ⟨R, er, a0, a1, a2, a3, a4, l', A6, L6, c6⟩ w9 ⟨HZ, HR, HGO, HB9, HRG⟩
              dsimp only at HZ HR HGO HRG
              refine norm_ (a' := ?_) ?_ ?_
              rotate_left
              · show putAll _ _ = _
                simp only [putAll, Act.put, List.setIfInBounds_toArray, List.set_cons_zero, List.set_cons_succ]
                rfl
              clear m0 m1 m2 m3 m4 m5 b0 b1 b2 b3 b4 b5 b6 b7 b8 hls hl1 hlI hlr hw hl0 i0 i1 hlt hltI hlt40 T
              refine last_ (i := 15) (N := none) #[true, true, true, true, true, true, true, true, true, true, true, true, true, true, true, true, false] rfl rfl (by kernel_rfl) (by decide) (fun K hK => ?_)
              refine Stb.store_step (by rfl) rfl 26 (.tmp 8) (.tmp 46) (by rfl) (cur' := #[.int .i64 a0, .int .i64 a1, .int .i64 a2, .int .i64 a3, .int .i64 a4, .slice A6 L6 c6]) [.int .i64 a0, .int .i64 a1, .int .i64 a2, .int .i64 a3, .int .i64 a4, .slice A6 L6 c6] HZ.out (by rfl) (by rfl) (by rfl) (by kernel_rfl) (Nat.le_refl 6) (by rfl) (by rfl) ?_
              intro w10 hz10 hg10 hs10
              have HZ2 := Lib.hid hz10
              have HR2 := Lib.hid (Kd.R_mono (Kd.R_grown HR.out hg10 (fun k hk e => hk.2 (Option.some.inj e))) (fun k hk => hk.1))
              have HB2 := Lib.hid (Stb.below_grown1 HB9.out hg10 HRG.out HB9.out.size)
              clear hz10 hg10 hs10
              refine hK.out _ _ ?_
              clear hK K
              refine norm_ (a' := ?_) ?_ ?_
              rotate_left
              · show Act.put _ (none) _ = _
                simp only [Act.put, List.setIfInBounds_toArray, List.set_cons_zero, List.set_cons_succ, i64_w, i32_w]
                rfl
              refine pure_ (i := 16) (N := some 9) (v := ?_) (a' := ?_) #[true, true, true, true, true, true, true, true, true, true, true, true, true, true, true, true, true] rfl rfl (by kernel_rfl) (fun _ _ _ h => h) (Or.inl ⟨by rfl, ?_⟩) ?_ ?_
              rotate_left
              · intro w'
                go_simp
                with_reducible rfl
              rotate_left
              · simp only [Act.put, List.setIfInBounds_toArray, List.set_cons_zero, List.set_cons_succ, i64_w, i32_w]
                rfl
              refine done_ (by kernel_rfl) ?_
              go_wp2_with fail
              go_meet
              exact ⟨R, er, a0, a1, a2, a3, a4, l', .slice A6 L6 c6, rfl, rfl, HZ2.out, HR2.out, HGO.out, HB2.out⟩
            refine two_ (i := 10) (j := 14) (Ni := some 45) (Nj := some 8) #[true, true, true, true, true, true, true, true, true, true, true, false, false, false, false, false, false] #[true, true, true, true, true, true, true, true, true, true, false, false, false, false, true, false, false] rfl rfl rfl rfl (by kernel_rfl) (by decide) (by decide) (fun K hK => ?_) (fun K hK => ?_)
            · refine goes_ Try.func49 (by kernel_rfl) rfl #[.agg #[.int .i64 (L : Int), .int .i64 k, .int .i64 m, .int .i64 p, .int .i64 d, .slice A5 x.f2.length c5], .agg #[.int .i64 y.kd, .int .i64 y.o.f0, .bool y.o.f1, .bool y.o.f2, .int .i64 y.o.f3, .int .i64 y.o.f4, .int .i64 y.o.f5, .int .i64 y.o.f6, .int .i64 y.o.f7]] (by rfl) rfl rfl (by (try simp only [List.map_toArray, List.map_cons, List.map_nil]); first | done | rfl | (go_simp; done) | (go_simp; rfl)) ?_
              refine (T.out _ (Kd.C_below HC5.out HBd.out)).mono ?_
              rintro e w5 ⟨er, a0, a1, a2, a3, a4, l', v5, rfl, hr, hgo, hb⟩
              obtain ⟨A6, c6, hv5⟩ := Kd.R_slice hr
              obtain ⟨L6, hL6⟩ : ∃ L6, L6 = l'.length := ⟨_, rfl⟩
              rw [← hL6] at hv5
              clear hL6
              subst hv5
              refine ⟨_, rfl, ?_⟩
              refine hK.out _ _ (below_then HBd.out HBd.out.size hb) (fun hHeld => ?_)
              clear hK K
              refine norm_ (a' := ?_) ?_ ?_
              rotate_left
              · show Act.put _ (some 45) _ = _
                simp only [Act.put, List.setIfInBounds_toArray, List.set_cons_zero, List.set_cons_succ, i64_w, i32_w]
                rfl
              refine pure_ (i := 11) (N := some 34) (v := ?_) (a' := ?_) #[true, true, true, true, true, true, true, true, true, true, true, true, false, false, false, false, false] rfl rfl (by kernel_rfl) (fun _ _ _ h => h) (Or.inl ⟨by rfl, ?_⟩) ?_ ?_
              rotate_left
              · intro w'
                go_simp
                with_reducible rfl
              rotate_left
              · simp only [Act.put, List.setIfInBounds_toArray, List.set_cons_zero, List.set_cons_succ, i64_w, i32_w]
                rfl
              refine pure_ (i := 12) (N := some 46) (v := ?_) (a' := ?_) #[true, true, true, true, true, true, true, true, true, true, true, true, true, false, false, false, false] rfl rfl (by kernel_rfl) (fun _ _ _ h => h) (Or.inl ⟨by rfl, ?_⟩) ?_ ?_
              rotate_left
              · intro w'
                go_simp
                with_reducible rfl
              rotate_left
              · simp only [Act.put, List.setIfInBounds_toArray, List.set_cons_zero, List.set_cons_succ, i64_w, i32_w]
                rfl
              refine pure_ (i := 13) (N := some 47) (v := ?_) (a' := ?_) #[true, true, true, true, true, true, true, true, true, true, true, true, true, true, false, false, false] rfl rfl (by kernel_rfl) (fun _ _ _ h => h) (Or.inl ⟨by rfl, ?_⟩) ?_ ?_
              rotate_left
              · intro w'
                go_simp
                with_reducible rfl
              rotate_left
              · simp only [Act.put, List.setIfInBounds_toArray, List.set_cons_zero, List.set_cons_succ, i64_w, i32_w]
                rfl
              refine one_ (i := 14) (N := some 8) #[true, true, true, true, true, true, true, true, true, true, true, true, true, true, true, false, false] rfl rfl (by kernel_rfl) (by decide) (fun K hK => ?_)
              refine value_ (w1 := ?_) (v := ?_) (by rfl) rfl ?_ ?_
              rotate_left 2
              · go_simp
                constructor
                · rfl
                · rfl
              refine hK.out _ _ (below_alloc hHeld _) (fun hHeld => ?_)
              clear hK K
              refine norm_ (a' := ?_) ?_ ?_
              rotate_left
              · show Act.put _ (some 8) _ = _
                simp only [Act.put, List.setIfInBounds_toArray, List.set_cons_zero, List.set_cons_succ, i64_w, i32_w]
                rfl
              have h9 := hfin (w5.heap.size, er, a0, a1, a2, a3, a4, l', A6, L6, c6) _ ⟨Lib.hid (blk_new w5 _), Lib.hid (Kd.R_below (Kd.R_lower (Kd.R_mono (Kd.R_bound hr) (fun k hk => by have h1 := HBd.out.size; exact ⟨by omega, by omega⟩)) HBd.out.size) (below_alloc (Below.refl _ _) _)), Lib.hid hgo, Lib.hid hHeld, Lib.hid (Nat.le_trans HBd.out.size hb.size)⟩
              refine norm_ ?_ h9
              show _ = putAll _ _
              simp only [putAll, Act.put, List.setIfInBounds_toArray, List.set_cons_zero, List.set_cons_succ]
            · refine value_ (w1 := ?_) (v := ?_) (by rfl) rfl ?_ ?_
              rotate_left 2
              · go_simp
                constructor
                · rfl
                · rfl
              refine hK.out _ _ (below_alloc HBd.out _) (fun hHeld => ?_)
              clear hK K
              refine norm_ (a' := ?_) ?_ ?_
              rotate_left
              · show Act.put _ (some 8) _ = _
                simp only [Act.put, List.setIfInBounds_toArray, List.set_cons_zero, List.set_cons_succ, i64_w, i32_w]
                rfl
              refine one_ (i := 10) (N := some 45) #[true, true, true, true, true, true, true, true, true, true, true, false, false, false, true, false, false] rfl rfl (by kernel_rfl) (by decide) (fun K hK => ?_)
              refine goes_ Try.func49 (by kernel_rfl) rfl #[.agg #[.int .i64 (L : Int), .int .i64 k, .int .i64 m, .int .i64 p, .int .i64 d, .slice A5 x.f2.length c5], .agg #[.int .i64 y.kd, .int .i64 y.o.f0, .bool y.o.f1, .bool y.o.f2, .int .i64 y.o.f3, .int .i64 y.o.f4, .int .i64 y.o.f5, .int .i64 y.o.f6, .int .i64 y.o.f7]] (by rfl) rfl rfl (by (try simp only [List.map_toArray, List.map_cons, List.map_nil]); first | done | rfl | (go_simp; done) | (go_simp; rfl)) ?_
              refine (T.out _ (Kd.C_below HC5.out (below_alloc HBd.out _))).mono ?_
              rintro e w5 ⟨er, a0, a1, a2, a3, a4, l', v5, rfl, hr, hgo, hb⟩
              obtain ⟨A6, c6, hv5⟩ := Kd.R_slice hr
              obtain ⟨L6, hL6⟩ : ∃ L6, L6 = l'.length := ⟨_, rfl⟩
              rw [← hL6] at hv5
              clear hL6
              subst hv5
              refine ⟨_, rfl, ?_⟩
              refine hK.out _ _ (below_then (below_alloc HBd.out _) (below_alloc HBd.out _).size hb) (fun hHeld => ?_)
              clear hK K
              refine norm_ (a' := ?_) ?_ ?_
              rotate_left
              · show Act.put _ (some 45) _ = _
                simp only [Act.put, List.setIfInBounds_toArray, List.set_cons_zero, List.set_cons_succ, i64_w, i32_w]
                rfl
              refine pure_ (i := 11) (N := some 34) (v := ?_) (a' := ?_) #[true, true, true, true, true, true, true, true, true, true, true, true, false, false, true, false, false] rfl rfl (by kernel_rfl) (fun _ _ _ h => h) (Or.inl ⟨by rfl, ?_⟩) ?_ ?_
              rotate_left
              · intro w'
                go_simp
                with_reducible rfl
              rotate_left
              · simp only [Act.put, List.setIfInBounds_toArray, List.set_cons_zero, List.set_cons_succ, i64_w, i32_w]
                rfl
              refine pure_ (i := 12) (N := some 46) (v := ?_) (a' := ?_) #[true, true, true, true, true, true, true, true, true, true, true, true, true, false, true, false, false] rfl rfl (by kernel_rfl) (fun _ _ _ h => h) (Or.inl ⟨by rfl, ?_⟩) ?_ ?_
              rotate_left
              · intro w'
                go_simp
                with_reducible rfl
              rotate_left
              · simp only [Act.put, List.setIfInBounds_toArray, List.set_cons_zero, List.set_cons_succ, i64_w, i32_w]
                rfl
              refine pure_ (i := 13) (N := some 47) (v := ?_) (a' := ?_) #[true, true, true, true, true, true, true, true, true, true, true, true, true, true, true, false, false] rfl rfl (by kernel_rfl) (fun _ _ _ h => h) (Or.inl ⟨by rfl, ?_⟩) ?_ ?_
              rotate_left
              · intro w'
                go_simp
                with_reducible rfl
              rotate_left
              · simp only [Act.put, List.setIfInBounds_toArray, List.set_cons_zero, List.set_cons_succ, i64_w, i32_w]
                rfl
              have h9 := hfin (wd.heap.size, er, a0, a1, a2, a3, a4, l', A6, L6, c6) _ ⟨Lib.hid (blk_below (blk_new wd _) hb), Lib.hid (Kd.R_lower (Kd.R_mono hr (fun k hk => by have h1 := HBd.out.size; simp only [World.alloc, Array.size_push] at hk; exact ⟨by omega, by omega⟩)) (below_alloc HBd.out _).size), Lib.hid hgo, Lib.hid hHeld, Lib.hid HBd.out.size⟩
              refine norm_ ?_ h9
              show _ = putAll _ _
              simp only [putAll, Act.put, List.setIfInBounds_toArray, List.set_cons_zero, List.set_cons_succ]
          case rest =>
            obtain ⟨R, er, a0, a1, a2, a3, a4, l', v5, rfl, rfl, hz, hr, hgo, hb⟩ := hcut
            obtain ⟨A6, c6, rfl⟩ := Kd.R_slice hr
            have HZ := Lib.hid hz
            have HR := Lib.hid hr
            have HGO := Lib.hid hgo
            have HBV := Lib.hid hb
            have HOc := Lib.hid (Kd.R_below HO.out hb)
            have HBc := Lib.hid (below_then HB.out HB.out.size hb)
            have HGL2 : Hid (g < wc.heap.size) := Lib.hid (Nat.lt_of_lt_of_le HGL.out hb.size)
            clear hz hr hgo hb HO HB m0 m1 m2 m3 m4 m5 b0 b1 b2 b3 b4 b5 b6 b7 b8 hls hl1 hlI hlr hw hl0 T HC5
            by_cases he : er = 0
            · have HE := Lib.hid he
              have q1 : (er == 0) = true := by rw [he]; rfl
              have q2 : decide (er = 0) = true := decide_eq_true he
              clear he
              have i3 : n < 40 := HN4I.out
              have y0 := blk_cell HZ.out 0
              have y1 := blk_cell HZ.out 1
              have y2 := blk_cell HZ.out 2
              have y3 := blk_cell HZ.out 3
              have y4 := blk_cell HZ.out 4
              have y5 := blk_cell HZ.out 5
              go_wp2_with (first | (at_builtin; go_must (refine Kd.R_append kM (w0 := w1) w1.heap.size rfl _ _ 48 26 (.agg #[.int .i64 0, .int .i64 0, .int .i64 0, .int .i64 0, .int .i64 0, .slice none 0 0]) 64 rfl Try.underlying48 infoM rfl (by decide) (by decide) _ _ (⟨a0, ⟨a1, a2, a3, a4⟩, l'⟩ : Mp) [.int .i64 a0, .int .i64 a1, .int .i64 a2, .int .i64 a3, .int .i64 a4, .slice A6 l'.length c6] (fun _ => True) (fun k => wv.heap.size ≤ k) rfl rfl ?hp ?ho (fun _ _ => trivial) (by exact HOc.out) (by exact HBc.out) (by exact HBc.out.size) ?hl ?_; (case hp => exact k26_mkM _ _ _ (⟨a0, ⟨a1, a2, a3, a4⟩, l'⟩ : Mp) (Kd.R_lower HR.out HB1V.out)); (case ho => intro k hk; exact ⟨trivial, fun e => by have h1 := HGL.out; injection e with e; have e2 : k = g := e; omega⟩); (case hl => have h1 := HML.out; have h2 := HN4I.out; have h3 := HLM.out; omega); intro v7 w7 ho hb hg hat; have HO7 := Lib.hid ho; have HB7 := Lib.hid hb; clear ho hb hg hat)))
              go_roundw
              case rel => exact ⟨n + 1, ms ++ [⟨a0, ⟨a1, a2, a3, a4⟩, l'⟩], by go_num, Lib.hid (by have := HNI.out; omega), Lib.hid (by have := HN4I.out; omega), Lib.hid (by rw [List.length_append, List.length_singleton]; have := HML.out; omega), Lib.hid (HCH.out.more (by rw [HL.out]; have e4 : ((L + 1 : Nat) : Int) - 1 = L := (by omega); rw [e4]; exact HGO.out) HE.out), HO7, HB7⟩
              case measure => have := HNI.out; simp only [intOf]; omega
            · have q1 : (er == 0) = false := by simpa using he
              have q2 : decide (er = 0) = false := decide_eq_false he
              clear he
              have i3 : n < 40 := HN4I.out
              go_wp2_with fail
              go_roundw
              case rel => exact ⟨n + 1, ms, by go_num, Lib.hid (by have := HNI.out; omega), Lib.hid (by have := HN4I.out; omega), Lib.hid (by have := HML.out; omega), HCH, HOc, HBc⟩
              case measure => have := HNI.out; simp only [intOf]; omega
        · obtain rfl : n = 40 := by omega
          have hlt40 : decide (((40 : Nat) : Int) < 40) = false := by decide
          clear h hn hn40 h40
          go_wp2_with fail
          obtain ⟨g, cap, rfl, _⟩ := Kd.R_form HO.out HCH.out.pos
          go_ret2
          exact ⟨below_then HB2.out HB2.out.size HB.out, .inr ⟨HOK.out, _, ms, rfl, Kd.R_lower HO.out HB2.out.size, HCH.out, HML.out⟩⟩
      · obtain rfl : n = xs.length := by omega
        have hlt : decide (xs.length < xs.length) = false := decide_eq_false (Nat.lt_irrefl _)
        have hltI : decide ((xs.length : Int) < (xs.length : Int)) = false := decide_eq_false (Int.lt_irrefl _)
        clear h hn hn40
        go_wp2_with fail
        obtain ⟨g, cap, rfl, _⟩ := Kd.R_form HO.out HCH.out.pos
        go_ret2
        exact ⟨below_then HB2.out HB2.out.size HB.out, .inr ⟨HOK.out, _, ms, rfl, Kd.R_lower HO.out HB2.out.size, HCH.out, by have := HML.out; have := HN40.out; omega⟩⟩
end Go.Proofs.Ytnpphmgibgfjoaa.MpW
/- Which maps come one behind the other: interval.check. -/
set_option linter.unusedSimpArgs false
namespace Go.Proofs.Ytnpphmgibgfjoaa.IvC
open Go Go.RowKit Go.Proofs.YtnpphmgibgfjoaaW.PrintWords Go.Proofs.YtnpphmgibgfjoaaW.PrintLast Go.Proofs.YtnpphmgibgfjoaaW.PrintMore Mem PAll KW MixP MixW StrP AtA Srt Grp Sl Dsc AtB Roo Cho MayP Awk ApP Fnd McW ApY ApW MpC MpW
open CrP hiding Od
theorem add_zero_ (a : Addr) : a.add 0 = a := by unfold Addr.add; split <;> simp_all
theorem wf_i64 {n : Int} (h : 0 ≤ n ∧ n ≤ 2147483647) : (Lit.int .i64 n).wf = true := by
  simp only [Lit.wf, Bool.and_eq_true, decide_eq_true_eq]
  exact ⟨by show (-9223372036854775808 : Int) ≤ n; omega, by show n ≤ (9223372036854775807 : Int); omega⟩
theorem wf_may {ep k m p d : Int} {l : List Od} (h : mayB ep k m p d l = true) : WfL l := by
  intro o ho
  have h1 := osd_ranges (may_osd h o ho)
  exact ⟨wf_i64 (by omega), wf_i64 (by omega), wf_i64 (by omega)⟩
theorem eqA_P (dp : Nat) (w : World) (x0 y0 x1 y1 x2 y2 x3 y3 : Int) :
    (Op.equalIn (dp + 2) 23 (.agg #[.int .i64 x0, .int .i64 x1, .int .i64 x2, .int .i64 x3]) (.agg #[.int .i64 y0, .int .i64 y1, .int .i64 y2, .int .i64 y3])).run Try.prog w = .ok (x0 == y0 && (x1 == y1 && (x2 == y2 && (x3 == y3)))) w := by
  refine eqA_of Try.underlying23 (by kernel_rfl) ?_
  refine eqf_cons (by rfl) (by go_simp; rfl) (by go_simp; rfl) (by go_simp) ?_
  refine eqf_cons (by rfl) (by go_simp; rfl) (by go_simp; rfl) (by go_simp) ?_
  refine eqf_cons (by rfl) (by go_simp; rfl) (by go_simp; rfl) (by go_simp) ?_
  exact eqf_last (by rfl) (by go_simp; rfl) (by go_simp; rfl) (by go_simp)
theorem neq_P (k m p d : Int) (W : World) : (binOp .neq 23 (.agg #[.int .i64 k, .int .i64 m, .int .i64 p, .int .i64 d]) (.agg #[.int .i64 k, .int .i64 m, .int .i64 p, .int .i64 d])).run Try.prog W = .ok (.bool false) W := by
  have h := fun dp => eqA_P dp W k k m m p p d d
  simp only [beq_self_eq_true, Bool.and_self] at h
  go_simp
set_option maxHeartbeats 8000000 in
set_option maxRecDepth 100000 in
theorem icheck_ok (k m p d : Int) (A : Option Addr) (c : Nat) (ms : List Mp) (pg : Int) (w : World) (hx : kM.C w A ms.length ms) (hch : Chain k m p d ms) (hl : ms.length ≤ 41) (hn : (decide (0 ≤ pg) && decide (pg < p)) = true) :
    Calls Try.prog 52 #[.slice A ms.length c, .int .i64 pg] w fun e w' => e = .returned (.int .i64 0) ∧ Below w.heap.size w w' := by
  obtain ⟨ad, x, A5, c5, hx0, hA, m0, m1, m2, m3, m4, m5, h5, hc5⟩ := at_M hx 0 hch.pos
  subst hA
  rw [Nat.zero_mul] at m1 m2 m3 m4
  obtain ⟨e0, e1, e2⟩ := hch.each 0 x hx0
  rw [e1] at m1 m2 m3 m4
  simp only [add_zero_] at m1 m2 m3 m4
  have hp0 := hch.pos
  have hz : decide (ms.length = 0) = false := decide_eq_false (by omega)
  have hz2 : ((ms.length : Int) == 0) = false := by simp; exact List.length_pos_iff.1 hp0
  have hz3 : decide ((4096 : Int) < ms.length) = false := decide_eq_false (by omega)
  have hz4 : decide (4096 < ms.length) = false := decide_eq_false (by omega)
  have hz5 : (0 : Int) < ms.length := by omega
  simp only [Bool.and_eq_true, decide_eq_true_eq] at hn
  have h1 : decide (pg < 0) = false := decide_eq_false (by omega)
  have h3 : decide (p ≤ pg) = false := decide_eq_false (by omega)
  have HB0 := Lib.hid (Below.refl w.heap.size w)
  have HC0 := Lib.hid hx
  have HCH := Lib.hid hch
  have M1 := Lib.hid m1
  have M2 := Lib.hid m2
  have M3 := Lib.hid m3
  have M4 := Lib.hid m4
  clear m0 m5 e0 e1 e2 hx0 h5 hc5 hx hch hn m1 m2 m4
  go_enter Try.func52, Try.ntmps52
  go_wp2_with fail
  clear m3 h1 h3 hz hz2 hz3 hz4
  go_loopw [30] (fun i' wr => ∃ n : Nat, i' = .int .i64 n ∧ Hid (n ≤ ms.length) ∧ Hid (Below w.heap.size w wr)) (fun i' _ => (ms.length - intOf i').toNat)
  case atStart => exact ⟨0, rfl, Lib.hid (Nat.zero_le _), HB0⟩
  case round =>
    obtain ⟨n, rfl, HN, HB⟩ := hrel
    clear HB0
    have hn := HN.out
    by_cases h : n < ms.length
    · have hlt : decide (n < ms.length) = true := decide_eq_true h
      have hltI : decide ((n : Int) < (ms.length : Int)) = true := decide_eq_true (by omega)
      have i0 : (0 : Int) ≤ n := by omega
      have i1 : (n : Int) < ms.length := by omega
      have i2 : n < 41 := by omega
      have i3 : (n : Int) < 41 := by omega
      have HNI := Lib.hid h
      obtain ⟨ad1, x, A5, c5, hx, hA, m0, m1, m2, m3, m4, m5, h5, hc5⟩ := at_M (Kd.C_below HC0.out HB.out) n h
      obtain rfl := Option.some.inj hA
      obtain ⟨e0, e1, e2⟩ := HCH.out.each n x hx
      rw [e0] at m0
      rw [e1] at m1 m2 m3 m4
      simp only [add_plain] at m0 m1 m2 m3 m4 m5
      have HB4 := Lib.hid (below_alloc HB.out (.cells #[.int .i64 (n : Int), .int .i64 k, .int .i64 m, .int .i64 p, .int .i64 d, .slice A5 x.f2.length c5] 26))
      have HC4 := Lib.hid (Kd.C_below HC0.out HB4.out)
      have T1 := check_calls n k m p d A5 c5 x.f2
      rw [e2] at T1
      have T : Hid (∀ dd os, Calls Try.prog 40 #[.agg #[.int .i64 (n : Int), .int .i64 k, .int .i64 m, .int .i64 p, .int .i64 d, .slice A5 x.f2.length c5]] (Sort.grow (redrawn (wr.alloc (.cells #[.int .i64 (n : Int), .int .i64 k, .int .i64 m, .int .i64 p, .int .i64 d, .slice A5 x.f2.length c5] 26)) dd) os) fun e w' => e = .returned (.int .i64 0) ∧ Below (Sort.grow (redrawn (wr.alloc (.cells #[.int .i64 (n : Int), .int .i64 k, .int .i64 m, .int .i64 p, .int .i64 d, .slice A5 x.f2.length c5] 26)) dd) os).heap.size (Sort.grow (redrawn (wr.alloc (.cells #[.int .i64 (n : Int), .int .i64 k, .int .i64 m, .int .i64 p, .int .i64 d, .slice A5 x.f2.length c5] 26)) dd) os) w') := Lib.hid (fun dd os => T1 _ (Kd.C_below (Kd.C_alloc hc5 _) (below_regrown _ dd os)) (wf_may e2))
      have HO4 : Hid ((wr.alloc (.cells #[.int .i64 (n : Int), .int .i64 k, .int .i64 m, .int .i64 p, .int .i64 d, .slice A5 x.f2.length c5] 26)).heap[wr.heap.size]? = some (.cells #[.int .i64 (n : Int), .int .i64 k, .int .i64 m, .int .i64 p, .int .i64 d, .slice A5 x.f2.length c5] 26 (0, 0))) := Lib.hid (blk_new wr _)
      have L1 := Lib.hid (pw_cell_below HB4.out M1.out)
      have L2 := Lib.hid (pw_cell_below HB4.out M2.out)
      have L3 := Lib.hid (pw_cell_below HB4.out M3.out)
      have L4 := Lib.hid (pw_cell_below HB4.out M4.out)
      have hneq := neq_P k m p d
      clear T1 e0 e1 e2 hx h5 hc5 hn h HB
      go_upto_region 6 with fail
      obtain ⟨w4, hw4⟩ : ∃ w4, w4 = wr.alloc (.cells #[.int .i64 (n : Int), .int .i64 k, .int .i64 m, .int .i64 p, .int .i64 d, .slice A5 x.f2.length c5] 26) := ⟨_, rfl⟩
      obtain ⟨gb, hgb⟩ : ∃ gb, gb = wr.heap.size := ⟨_, rfl⟩
      rw [← hw4] at HB4 HO4 T HC4 L1 L2 L3 L4 ⊢
      rw [← hgb] at HO4 ⊢
      clear hw4 hgb m0 m1 m2 m3 m4 m5
      have z0 := cell_regrown (blk_cell HO4.out 0)
      have z1 := cell_regrown (blk_cell HO4.out 1)
      have z2 := cell_regrown (blk_cell HO4.out 2)
      have z3 := cell_regrown (blk_cell HO4.out 3)
      have z4 := cell_regrown (blk_cell HO4.out 4)
      have z5 := cell_regrown (blk_cell HO4.out 5)
      have l1 := cell_regrown L1.out
      have l2 := cell_regrown L2.out
      have l3 := cell_regrown L3.out
      have l4 := cell_regrown L4.out
      rcases Nat.eq_zero_or_pos n with hn0 | hn0
      · clear HC4
        have hz0 : decide (0 < n) = false := decide_eq_false (by omega)
        have hz1 : decide ((0 : Int) < (n : Int)) = false := decide_eq_false (by omega)
        clear hn0
        go_wp2_with fail
        refine wp_region_quiet_below (by kernel_rfl) (by kernel_rfl) ?_
        repeat (go_big_quiet_step ((go_at_call 40; exact Calls.regrown_of (T.out _ _))))
        refine wpQuiet_nil ?_
        intro _ hw'
        obtain ⟨⟨dq, osq⟩, hw''⟩ := hw'
        subst hw''
        have HB5 := Lib.hid (below_then HB4.out HB4.out.size (below_regrown w4 dq osq))
        obtain ⟨w5, hw5⟩ : ∃ w5, w5 = Sort.grow (redrawn w4 dq) osq := ⟨_, rfl⟩
        rw [← hw5] at HB5 ⊢
        clear hw5 HB4
        go_wp2_with fail
        go_roundw
        case rel => exact ⟨n + 1, by go_num, Lib.hid (by omega), HB5⟩
        case measure => have := HNI.out; simp only [intOf]; omega
      · have hz0 : decide (0 < n) = true := decide_eq_true (by omega)
        have hz1 : decide ((0 : Int) < (n : Int)) = true := decide_eq_true (by omega)
        obtain ⟨adq, q, Aq, cq, hq, hAq, q0, _⟩ := at_M HC4.out (n - 1) (by omega)
        obtain rfl := Option.some.inj hAq
        obtain ⟨g0, g1, g2⟩ := HCH.out.each (n - 1) q hq
        rw [g0] at q0
        obtain ⟨j, hj⟩ : ∃ j, j = n - 1 := ⟨_, rfl⟩
        rw [← hj] at q0
        have hjn : (n : Int) - 1 = j := by omega
        have hj1 : (j : Int) + 1 = n := by omega
        have hj2 : IntKind.i64.wrap (j : Int) = j := by rw [Go.IntKind.wrap_i64]; omega
        have hj3 : IntKind.i64.wrap (n : Int) = n := by rw [Go.IntKind.wrap_i64]; omega
        have hj4 : (0 : Int) ≤ j := by omega
        have hj5 : (j : Int) < ms.length := by omega
        have hj6 : decide (j < ms.length) = true := decide_eq_true (by omega)
        have hj7 : ((n : Int) == n) = true := by simp
        have zq := cell_regrown q0
        clear hq g0 g1 g2 hj q0
        go_wp2_with fail
        refine wp_region_quiet_below (by kernel_rfl) (by kernel_rfl) ?_
        repeat (go_big_quiet_step ((go_at_call 40; exact Calls.regrown_of (T.out _ _))))
        refine wpQuiet_nil ?_
        intro _ hw'
        obtain ⟨⟨dq, osq⟩, hw''⟩ := hw'
        subst hw''
        have HB5 := Lib.hid (below_then HB4.out HB4.out.size (below_regrown w4 dq osq))
        obtain ⟨w5, hw5⟩ : ∃ w5, w5 = Sort.grow (redrawn w4 dq) osq := ⟨_, rfl⟩
        rw [← hw5] at HB5 ⊢
        clear hw5 HB4
        go_wp2_with fail
        go_roundw
        case rel => exact ⟨n + 1, by go_num, Lib.hid (by omega), HB5⟩
        case measure => have := HNI.out; simp only [intOf]; omega
    · obtain rfl : n = ms.length := by omega
      have hlt : decide (ms.length < ms.length) = false := decide_eq_false (Nat.lt_irrefl _)
      have hltI : decide ((ms.length : Int) < (ms.length : Int)) = false := decide_eq_false (Int.lt_irrefl _)
      clear h hn
      go_wp2_with fail
      go_ret
      exact ⟨rfl, HB.out⟩
end Go.Proofs.Ytnpphmgibgfjoaa.IvC
/- The program's Find. -/
namespace Go.Proofs.Ytnpphmgibgfjoaa.PlF
open Go Go.RowKit Go.Proofs.YtnpphmgibgfjoaaW.PrintWords Go.Proofs.YtnpphmgibgfjoaaW.PrintMore Mem PAll KW MixP MixW StrP AtA Srt Grp Sl Dsc ApP
open CrP hiding Od
abbrev fv (q : Nat) : Value := .func (.func 92) #[] #[.pointer (some ⟨q, 0, none⟩)]
theorem tell_calls (q : Nat) (id : Int) (o : Od) (W : World) (hq : W.cell? ⟨q, 0, none⟩ = some (.int .i64 id)) :
    Calls Try.prog 92 #[.agg (aggO o), .pointer (some ⟨q, 0, none⟩)] W fun e w' => e = .returned (.bool (o.f0 == id)) ∧ Below W.heap.size W w' := by
  have HB := Lib.hid (below_alloc (Below.refl W.heap.size W) (.cells (aggO o) 40))
  have hq2 := cell_alloc hq (.cells (aggO o) 40)
  clear hq
  go_enter Try.func92, Try.ntmps92
  go_wp2_with fail
  go_ret
  exact ⟨rfl, HB.out⟩
set_option maxHeartbeats 1600000 in
theorem findI_calls (q : Nat) (id : Int) (A : Option Addr) (c : Nat) (l : List Od) (w : World) (hx : kO.C w A l.length l) (hq : w.cell? ⟨q, 0, none⟩ = some (.int .i64 id)) :
    Calls Try.prog 91 #[.slice A l.length c, fv q] w fun e w' => ∃ n : Int, e = .returned (.int .i64 n) ∧ FirstOf (fun o => o.f0 == id) l n ∧ Below w.heap.size w w' := by
  have HC := Lib.hid hx
  have HQ0 := Lib.hid hq
  have hm : l.length ≤ 9223372036854775807 := hx.2.1
  have HB0 := Lib.hid (Below.refl w.heap.size w)
  clear hx hq
  go_enter Try.func91, Try.ntmps91
  go_wp2_with fail
  go_loopw [8] (fun i' wr => ∃ (n : Nat), i' = .int .i64 n ∧ Hid (n ≤ l.length ∧ ∀ o ∈ l.take n, (o.f0 == id) = false) ∧ Hid (Below w.heap.size w wr)) (fun i' _ => (l.length - intOf i').toNat)
  case atStart => exact ⟨0, rfl, Lib.hid ⟨Nat.zero_le _, fun o ho => by rw [List.take_zero] at ho; exact absurd ho List.not_mem_nil⟩, HB0⟩
  case round =>
    obtain ⟨n, rfl, HN, HB⟩ := hrel
    have hn := HN.out.1
    by_cases h : n < l.length
    · have hlt : decide (n < l.length) = true := decide_eq_true h
      have i0 : (0 : Int) ≤ n := by omega
      obtain ⟨ad, o, ho, hA, a0, a1, a2, a3, a4, a5, a6, a7⟩ := at_O (Kd.C_below HC.out HB.out) n h
      subst hA
      have HQ := Lib.hid ho
      obtain ⟨lk, hlk⟩ : ∃ lk, lk = (o.f0 == id) := ⟨_, rfl⟩
      have T := Lib.hid (tell_calls q id o wr ((HB.out.cell (World.block_lt_of_cell? _ _ HQ0.out)).trans HQ0.out))
      rw [← hlk] at T
      have HLK := Lib.hid hlk
      clear ho hlk
      go_wp2_with fail
      refine T.out.mono ?_
      rintro e w1 ⟨rfl, hb⟩
      have HB1 := Lib.hid (below_then HB.out HB.out.size hb)
      clear hb T HB
      cases lk
      · go_wp2_with fail
        go_roundw
        case rel =>
          refine ⟨n + 1, by go_num, Lib.hid ⟨by omega, fun z hz => ?_⟩, HB1⟩
          rw [List.take_succ_eq_append_getElem h, (List.getElem?_eq_some_iff.1 HQ.out).2] at hz
          rcases List.mem_append.1 hz with hz | hz
          · exact HN.out.2 z hz
          · rw [List.mem_singleton.1 hz]; exact HLK.out.symm
        case measure => simp only [intOf]; omega
      · go_wp2_with fail
        go_ret
        exact ⟨n, rfl, .inr ⟨n, rfl, h, HN.out.2, o, HQ.out, HLK.out.symm⟩, HB1.out⟩
    · obtain rfl : n = l.length := by omega
      have hlt : decide (l.length < l.length) = false := decide_eq_false (by omega)
      go_wp2_with fail
      go_ret
      exact ⟨-1, rfl, .inl ⟨rfl, by have := HN.out.2; rwa [List.take_length] at this⟩, HB.out⟩
theorem first_find {l : List Od} {id n : Int} (h : FirstOf (fun o => o.f0 == id) l n) : (n = -1 ∧ findO l id = none) ∨ ∃ (i : Nat) (o : Od), n = i ∧ l[i]? = some o ∧ findO l id = some o := by
  rcases h with ⟨rfl, h⟩ | ⟨i, rfl, hi, hb, o, ho, hd⟩
  · exact .inl ⟨rfl, List.find?_eq_none.2 (fun o ho => by have := h o ho; simpa using this)⟩
  · refine .inr ⟨i, o, rfl, ho, ?_⟩
    have e : l = l.take i ++ (o :: l.drop (i + 1)) := by
      rw [← (List.getElem?_eq_some_iff.1 ho).2, ← List.drop_eq_getElem_cons hi, List.take_append_drop]
    unfold findO
    rw [e, List.find?_append, List.find?_eq_none.2 (fun z hz => by have := hb z hz; simpa using this), Option.none_or, List.find?_cons, show (o.f0 == id) = true from hd]
set_option maxHeartbeats 4000000 in
set_option maxRecDepth 100000 in
theorem aFind_calls (ep k m p d : Int) (A : Option Addr) (c : Nat) (l : List Od) (id : Int) (w : World) (hx : kO.C w A l.length l) :
    Calls Try.prog 66 #[.agg (boxM ep k m p d A c l), .int .i64 id] w fun e w' => e = .returned (descV (findO l id)) ∧ Below w.heap.size w w' := by
  have hs1 : (w.alloc (.cells (boxM ep k m p d A c l) 26)).heap.size = w.heap.size + 1 := by simp only [World.alloc, Array.size_push]
  have hs2 : ((w.alloc (.cells (boxM ep k m p d A c l) 26)).alloc (.cells #[.int .i64 id] 3)).heap.size = w.heap.size + 2 := by simp only [World.alloc, Array.size_push]
  have HM1 : Hid ((((w.alloc (.cells (boxM ep k m p d A c l) 26)).alloc (.cells #[.int .i64 id] 3)).alloc (.cells zeroA 40)).heap[w.heap.size]? = some (.cells (boxM ep k m p d A c l) 26 (0, 0))) := Lib.hid (blk_below (blk_new _ _) (below_alloc (below_alloc (Below.refl _ _) _) _))
  have HI1 : Hid ((((w.alloc (.cells (boxM ep k m p d A c l) 26)).alloc (.cells #[.int .i64 id] 3)).alloc (.cells zeroA 40)).heap[w.heap.size + 1]? = some (.cells #[.int .i64 id] 3 (0, 0))) := Lib.hid (by
    have h := blk_new (w.alloc (.cells (boxM ep k m p d A c l) 26)) (.cells #[.int .i64 id] 3)
    rw [hs1] at h
    exact blk_below h (below_alloc (Below.refl _ _) _))
  have HR1 : Hid ((((w.alloc (.cells (boxM ep k m p d A c l) 26)).alloc (.cells #[.int .i64 id] 3)).alloc (.cells zeroA 40)).heap[w.heap.size + 2]? = some (.cells zeroA 40 (0, 0))) := Lib.hid (by
    have h := blk_new ((w.alloc (.cells (boxM ep k m p d A c l) 26)).alloc (.cells #[.int .i64 id] 3)) (.cells zeroA 40)
    rw [hs2] at h
    exact h)
  have HB1 := Lib.hid (below_alloc (below_alloc (below_alloc (Below.refl w.heap.size w) (.cells (boxM ep k m p d A c l) 26)) (.cells #[.int .i64 id] 3)) (.cells zeroA 40))
  have HC1 := Lib.hid (Kd.C_below hx HB1.out)
  obtain ⟨w1, hw1⟩ : ∃ w1, w1 = ((w.alloc (.cells (boxM ep k m p d A c l) 26)).alloc (.cells #[.int .i64 id] 3)).alloc (.cells zeroA 40) := ⟨_, rfl⟩
  have HWN := Lib.hid hw1
  rw [← hw1] at HM1 HI1 HR1 HB1 HC1
  clear hx hw1 hs1 hs2
  unfold boxM at *
  unfold zeroA at HWN
  go_enter Try.func66, Try.ntmps66
  go_wp2_with fail
  rw [← HWN.out]
  refine (findI_calls (w.heap.size + 1) id A c l w1 HC1.out (blk_cell HI1.out 0)).mono ?_
  rintro e w2 ⟨n, rfl, hf, hb⟩
  have HB2 := Lib.hid (below_then HB1.out HB1.out.size hb)
  have HM2 := Lib.hid (blk_below HM1.out hb)
  have HR2 := Lib.hid (blk_below HR1.out hb)
  have HC2 := Lib.hid (Kd.C_below HC1.out hb)
  clear hb HB1 HM1 HI1 HR1 HC1 HWN
  have m5 := blk_cell HM2.out 5
  obtain ⟨y0, y1, y2, y3, y4, y5, y6, y7⟩ := blkO (o := ⟨0, false, false, 0, 0, 0, 0, 0⟩) HR2.out
  have f0 := blk_frozen HR2.out 0
  have f1 := blk_frozen HR2.out 1
  have f2 := blk_frozen HR2.out 2
  have f3 := blk_frozen HR2.out 3
  have f4 := blk_frozen HR2.out 4
  have f5 := blk_frozen HR2.out 5
  have f6 := blk_frozen HR2.out 6
  have f7 := blk_frozen HR2.out 7
  rcases first_find hf with ⟨rfl, hn⟩ | ⟨i, o, rfl, ho, hfo⟩
  · have HFO := Lib.hid hn
    clear hf hn
    have HF := Lib.hid (put8_blk (q := ⟨0, false, false, 0, 0, 0, 0, 0⟩) HR2.out ⟨0, false, false, 0, 0, 0, 0, 0⟩)
    have HBF := Lib.hid (put8_below HB2.out (show w.heap.size ≤ w.heap.size + 2 by omega) ⟨0, false, false, 0, 0, 0, 0, 0⟩)
    obtain ⟨wf, hwf⟩ : ∃ wf, wf = put8 w2 (w.heap.size + 2) ⟨0, false, false, 0, 0, 0, 0, 0⟩ := ⟨_, rfl⟩
    rw [← hwf] at HF HBF
    simp only [put8] at hwf
    go_wp2_with fail
    rw [← hwf]
    clear hwf
    clear y0 y1 y2 y3 y4 y5 y6 y7 f0 f1 f2 f3 f4 f5 f6 f7
    refine bodyPost_ret (results_ct rfl _ _ (w.heap.size + 2) 40 (aggO ⟨0, false, false, 0, 0, 0, 0, 0⟩) (0, 0) _ rfl HF.out Try.underlying40 rfl (by kernel_rfl)) rfl ?_
    refine ⟨?_, HBF.out⟩
    rw [HFO.out]
    rfl
  · have HFO := Lib.hid hfo
    have hi := (List.getElem?_eq_some_iff.1 ho).1
    have hd : decide ((i : Int) < 0) = false := decide_eq_false (by omega)
    have hlt : decide (i < l.length) = true := decide_eq_true hi
    have i0 : (0 : Int) ≤ i := by omega
    have i1 : (i : Int) < l.length := by omega
    obtain ⟨ad, o', ho', rfl, a0, a1, a2, a3, a4, a5, a6, a7⟩ := at_O HC2.out i hi
    obtain rfl : o = o' := Option.some.inj (ho.symm.trans ho')
    clear hf hfo ho ho' hi
    have HF := Lib.hid (put8_blk (q := ⟨0, false, false, 0, 0, 0, 0, 0⟩) HR2.out o)
    have HBF := Lib.hid (put8_below HB2.out (show w.heap.size ≤ w.heap.size + 2 by omega) o)
    obtain ⟨wf, hwf⟩ : ∃ wf, wf = put8 w2 (w.heap.size + 2) o := ⟨_, rfl⟩
    rw [← hwf] at HF HBF
    simp only [put8] at hwf
    go_wp2_with fail
    rw [← hwf]
    clear hwf
    clear y0 y1 y2 y3 y4 y5 y6 y7 f0 f1 f2 f3 f4 f5 f6 f7
    refine bodyPost_ret (results_ct rfl _ _ (w.heap.size + 2) 40 (aggO o) (0, 0) _ rfl HF.out Try.underlying40 rfl (by kernel_rfl)) rfl ?_
    refine ⟨?_, HBF.out⟩
    rw [HFO.out]
    rfl
end Go.Proofs.Ytnpphmgibgfjoaa.PlF
/- Who is to keep a placement group. -/
set_option linter.unusedSimpArgs false
namespace Go.Proofs.Ytnpphmgibgfjoaa.PlU
open Go Go.RowKit Go.Proofs.YtnpphmgibgfjoaaW.PrintWords Go.Proofs.YtnpphmgibgfjoaaW.PrintMore Go.Proofs.YtnpphmgibgfjoaaW.PrintLast Mem PAll KW MixP MixW StrP StrW AtA Srt Grp Sl Dsc AtB Roo Cho MayP Awk ApP PlF
open CrP hiding Od
def upB (mb : Bool) (pg p : Int) : Bool := mb && (decide (0 ≤ pg) && decide (pg < p))
theorem pool_ranges {ep k m p d : Int} {l : List Od} (h : mayB ep k m p d l = true) : 1 ≤ k ∧ 1 ≤ m ∧ k + m ≤ 32 ∧ 1 ≤ p ∧ p ≤ 32 ∧ domB d = true := by
  unfold mayB poolB at h
  simp only [Bool.and_eq_true, decide_eq_true_eq] at h
  obtain ⟨_, ⟨h1, h2, h3, h4, h5, h6, h7⟩, _⟩ := h
  refine ⟨h1, h2, by omega, h5, h6, ?_⟩
  unfold winB at h7
  simp only [Bool.and_eq_true, decide_eq_true_eq] at h7
  unfold domB
  have : d = 0 ∨ d = 1 ∨ d = 2 := by omega
  rcases this with rfl | rfl | rfl <;> rfl
/-- What x a placement group has. -/
def pgX (pg : Int) : Int := h2I pg 1886351212
set_option maxHeartbeats 4000000 in
set_option maxRecDepth 100000 in
theorem Up_ok (ep k m p d : Int) (A : Option Addr) (c : Nat) (l : List Od) (pg : Int) (n : Nat) (w : World) (hx : kO.C w A l.length l) (hwf : WfL l) (hn : upB (mayB ep k m p d l) pg p = true) (hkm : k + m = n) :
    Calls Try.prog 34 #[.agg (boxM ep k m p d A c l), .int .i64 pg] w fun e w' => ∃ g, e = .returned (.tuple #[.slice (some ⟨g, 0, none⟩) n n, .int .i64 0]) ∧ w.heap.size ≤ g ∧ w'.heap[g]? = some (.cells (outA n (places l (pgX pg) n (domL d) n 0 [])) 3 (0, 0)) ∧ Below w.heap.size w w' := by
  have HB1 := Lib.hid (below_alloc (Below.refl w.heap.size w) (.cells (boxM ep k m p d A c l) 26))
  have HM1 : Hid ((w.alloc (.cells (boxM ep k m p d A c l) 26)).heap[w.heap.size]? = some (.cells (boxM ep k m p d A c l) 26 (0, 0))) := Lib.hid (blk_new _ _)
  have HC1 := Lib.hid (Kd.C_alloc hx (.cells (boxM ep k m p d A c l) 26))
  have T := Lib.hid (check_calls ep k m p d A c l _ HC1.out hwf)
  unfold upB at hn
  simp only [Bool.and_eq_true, decide_eq_true_eq] at hn
  obtain ⟨hm, h0, h1⟩ := hn
  have hr := pool_ranges hm
  have TC := Lib.hid (fun W h => Choose_ok ep k m p d A c l d (pgX pg) n W h hwf hm hr.2.2.2.2.2 (by omega) (by omega))
  rw [hm] at T
  have b0 : decide (pg < 0) = false := decide_eq_false (by omega)
  have b1 : decide (p ≤ pg) = false := decide_eq_false (by omega)
  have kw : IntKind.i64.wrap (k + m) = (n : Int) := by rw [hkm]; exact IntWalk.i64_in _ (by omega)
  have ku : IntKind.u32.wrap pg = pg := by rw [IntKind.wrap_u32]; omega
  clear hx hwf hm hr hkm h0 h1
  unfold boxM at *
  go_enter Try.func34, Try.ntmps34
  go_wp2_with fail
  refine T.out.mono ?_
  rintro e w1 ⟨rfl, hb⟩
  have HB2 := Lib.hid (below_then HB1.out HB1.out.size hb)
  have HM2 := Lib.hid (blk_below HM1.out hb)
  have HC2 := Lib.hid (Kd.C_below HC1.out hb)
  have m0 := blk_cell HM2.out 0
  have m1 := blk_cell HM2.out 1
  have m2 := blk_cell HM2.out 2
  have m3 := blk_cell HM2.out 3
  have m4 := blk_cell HM2.out 4
  have m5 := blk_cell HM2.out 5
  clear hb T HB1 HM1 HC1
  go_wp2_with fail
  have hB0 := Lib.hid (below_drew (Below.refl w1.heap.size w1))
  refine start_ (n := 20) (S := fun w' => Below w1.heap.size w1 w') (ds := [15]) #[false, false, false, false, false, false, false, false, false, false, false, false, false, false, false, false, false, false, false, false] (by kernel_rfl) rfl rfl hB0.out (fun hHeld => ?_)
  generalize w1.drew = wd at hB0 hHeld ⊢
  refine pure_ (i := 1) (N := some 21) (v := ?_) (a' := ?_) #[false, true, false, false, false, false, false, false, false, false, false, false, false, false, false, false, false, false, false, false] rfl rfl (by kernel_rfl) (fun _ _ _ h => h) (Or.inl ⟨by rfl, ?_⟩) ?_ ?_
  rotate_left
  · intro w'
    go_simp
    with_reducible rfl
  rotate_left
  · simp only [Act.put, List.setIfInBounds_toArray, List.set_cons_zero, List.set_cons_succ, i64_w, i32_w]
    rfl
  refine pure_ (i := 2) (N := some 22) (v := ?_) (a' := ?_) #[false, true, true, false, false, false, false, false, false, false, false, false, false, false, false, false, false, false, false, false] rfl rfl (by kernel_rfl) (fun _ _ _ h => h) (Or.inl ⟨by rfl, ?_⟩) ?_ ?_
  rotate_left
  · intro w'
    go_simp
    with_reducible rfl
  rotate_left
  · simp only [Act.put, List.setIfInBounds_toArray, List.set_cons_zero, List.set_cons_succ, i64_w, i32_w]
    rfl
  refine pure_ (i := 4) (N := some 24) (v := ?_) (a' := ?_) #[false, true, true, false, true, false, false, false, false, false, false, false, false, false, false, false, false, false, false, false] rfl rfl (by kernel_rfl) (fun _ _ _ h => h) (Or.inl ⟨by rfl, ?_⟩) ?_ ?_
  rotate_left
  · intro w'
    go_simp
    with_reducible rfl
  rotate_left
  · simp only [Act.put, List.setIfInBounds_toArray, List.set_cons_zero, List.set_cons_succ, i64_w, i32_w]
    rfl
  refine pure_ (i := 5) (N := some 25) (v := ?_) (a' := ?_) #[false, true, true, false, true, true, false, false, false, false, false, false, false, false, false, false, false, false, false, false] rfl rfl (by kernel_rfl) (fun _ _ _ h => h) (Or.inl ⟨by rfl, ?_⟩) ?_ ?_
  rotate_left
  · intro w'
    go_simp
    with_reducible rfl
  rotate_left
  · simp only [Act.put, List.setIfInBounds_toArray, List.set_cons_zero, List.set_cons_succ, i64_w, i32_w]
    rfl
  refine pure_ (i := 7) (N := some 27) (v := ?_) (a' := ?_) #[false, true, true, false, true, true, false, true, false, false, false, false, false, false, false, false, false, false, false, false] rfl rfl (by kernel_rfl) (fun _ _ _ h => h) (Or.inl ⟨by rfl, ?_⟩) ?_ ?_
  rotate_left
  · intro w'
    go_simp
    with_reducible rfl
  rotate_left
  · simp only [Act.put, List.setIfInBounds_toArray, List.set_cons_zero, List.set_cons_succ, i64_w, i32_w]
    rfl
  refine pure_ (i := 8) (N := some 28) (v := ?_) (a' := ?_) #[false, true, true, false, true, true, false, true, true, false, false, false, false, false, false, false, false, false, false, false] rfl rfl (by kernel_rfl) (fun _ _ _ h => h) (Or.inl ⟨by rfl, ?_⟩) ?_ ?_
  rotate_left
  · intro w'
    go_simp
    with_reducible rfl
  rotate_left
  · simp only [Act.put, List.setIfInBounds_toArray, List.set_cons_zero, List.set_cons_succ, i64_w, i32_w]
    rfl
  refine pure_ (i := 12) (N := some 32) (v := ?_) (a' := ?_) #[false, true, true, false, true, true, false, true, true, false, false, false, true, false, false, false, false, false, false, false] rfl rfl (by kernel_rfl) (fun _ _ _ h => h) (Or.inl ⟨by rfl, ?_⟩) ?_ ?_
  rotate_left
  · intro w'
    go_simp
    with_reducible rfl
  rotate_left
  · simp only [Act.put, List.setIfInBounds_toArray, List.set_cons_zero, List.set_cons_succ, i64_w, i32_w]
    rfl
  refine pure_ (i := 13) (N := some 33) (v := ?_) (a' := ?_) #[false, true, true, false, true, true, false, true, true, false, false, false, true, true, false, false, false, false, false, false] rfl rfl (by kernel_rfl) (fun _ _ _ h => h) (Or.inl ⟨by rfl, ?_⟩) ?_ ?_
  rotate_left
  · intro w'
    go_simp
    with_reducible rfl
  rotate_left
  · simp only [Act.put, List.setIfInBounds_toArray, List.set_cons_zero, List.set_cons_succ, i64_w, i32_w]
    rfl
  refine take_ (i := 0) (N := some 20) (v := ?_) (a' := ?_) #[true, true, true, false, true, true, false, true, true, false, false, false, true, true, false, false, false, false, false, false] rfl rfl (by kernel_rfl) (fun _ _ _ h => h) (Or.inl ⟨by rfl, ?_⟩) hHeld ?_ ?_
  rotate_left
  · rintro w' hS
    have y0 := (hS.cell (World.block_lt_of_cell? _ _ m0)).trans m0
    have y1 := (hS.cell (World.block_lt_of_cell? _ _ m1)).trans m1
    have y2 := (hS.cell (World.block_lt_of_cell? _ _ m2)).trans m2
    have y3 := (hS.cell (World.block_lt_of_cell? _ _ m3)).trans m3
    have y4 := (hS.cell (World.block_lt_of_cell? _ _ m4)).trans m4
    have y5 := (hS.cell (World.block_lt_of_cell? _ _ m5)).trans m5
    go_simp
    with_reducible rfl
  rotate_left
  · simp only [Act.put, List.setIfInBounds_toArray, List.set_cons_zero, List.set_cons_succ, i64_w, i32_w]
    rfl
  refine take_ (i := 3) (N := some 23) (v := ?_) (a' := ?_) #[true, true, true, true, true, true, false, true, true, false, false, false, true, true, false, false, false, false, false, false] rfl rfl (by kernel_rfl) (fun _ _ _ h => h) (Or.inl ⟨by rfl, ?_⟩) hHeld ?_ ?_
  rotate_left
  · rintro w' hS
    have y4 := (hS.cell (World.block_lt_of_cell? _ _ m4)).trans m4
    go_simp
    with_reducible rfl
  rotate_left
  · simp only [Act.put, List.setIfInBounds_toArray, List.set_cons_zero, List.set_cons_succ, i64_w, i32_w]
    rfl
  refine take_ (i := 6) (N := some 26) (v := ?_) (a' := ?_) #[true, true, true, true, true, true, true, true, true, false, false, false, true, true, false, false, false, false, false, false] rfl rfl (by kernel_rfl) (fun _ _ _ h => h) (Or.inl ⟨by rfl, ?_⟩) hHeld ?_ ?_
  rotate_left
  · rintro w' hS
    have y1 := (hS.cell (World.block_lt_of_cell? _ _ m1)).trans m1
    go_simp
    with_reducible rfl
  rotate_left
  · simp only [Act.put, List.setIfInBounds_toArray, List.set_cons_zero, List.set_cons_succ, i64_w, i32_w]
    rfl
  refine take_ (i := 9) (N := some 29) (v := ?_) (a' := ?_) #[true, true, true, true, true, true, true, true, true, true, false, false, true, true, false, false, false, false, false, false] rfl rfl (by kernel_rfl) (fun _ _ _ h => h) (Or.inl ⟨by rfl, ?_⟩) hHeld ?_ ?_
  rotate_left
  · rintro w' hS
    have y2 := (hS.cell (World.block_lt_of_cell? _ _ m2)).trans m2
    go_simp
    with_reducible rfl
  rotate_left
  · simp only [Act.put, List.setIfInBounds_toArray, List.set_cons_zero, List.set_cons_succ, i64_w, i32_w]
    rfl
  refine pure_ (i := 10) (N := some 30) (v := ?_) (a' := ?_) #[true, true, true, true, true, true, true, true, true, true, true, false, true, true, false, false, false, false, false, false] rfl rfl (by kernel_rfl) (fun _ _ _ h => h) (Or.inl ⟨by rfl, ?_⟩) ?_ ?_
  rotate_left
  · intro w'
    go_simp
    with_reducible rfl
  rotate_left
  · simp only [Act.put, List.setIfInBounds_toArray, List.set_cons_zero, List.set_cons_succ, i64_w, i32_w]
    rfl
  refine pure_ (i := 11) (N := some 31) (v := ?_) (a' := ?_) #[true, true, true, true, true, true, true, true, true, true, true, true, true, true, false, false, false, false, false, false] rfl rfl (by kernel_rfl) (fun _ _ _ h => h) (Or.inl ⟨by rfl, ?_⟩) ?_ ?_
  rotate_left
  · intro w'
    go_simp
    with_reducible rfl
  rotate_left
  · simp only [Act.put, List.setIfInBounds_toArray, List.set_cons_zero, List.set_cons_succ, i64_w, i32_w]
    rfl
  refine one_ (i := 14) (N := some 34) #[true, true, true, true, true, true, true, true, true, true, true, true, true, true, true, false, false, false, false, false] rfl rfl (by kernel_rfl) (by decide) (fun K hK => ?_)
  refine goes_ Try.func65 (by kernel_rfl) rfl #[.int .u32 pg, .int .u32 1886351212] (by rfl) rfl rfl (by (try simp only [List.map_toArray, List.map_cons, List.map_nil]); first | done | rfl | (go_simp; done) | (go_simp; rfl)) ?_
  refine (hash2_calls _ _ _).mono ?_
  rintro e w34 ⟨rfl, rfl⟩
  refine ⟨_, rfl, ?_⟩
  refine hK.out _ _ hB0.out (fun hHeld => ?_)
  clear hK K
  refine norm_ (a' := ?_) ?_ ?_
  rotate_left
  · show Act.put _ (some 34) _ = _
    simp only [Act.put, List.setIfInBounds_toArray, List.set_cons_zero, List.set_cons_succ, i64_w, i32_w]
    rfl
  refine last_ (i := 15) (N := some 35) #[true, true, true, true, true, true, true, true, true, true, true, true, true, true, true, true, false, false, false, false] rfl rfl (by kernel_rfl) (by decide) (fun K hK => ?_)
  refine goes_ Try.func15 (by kernel_rfl) rfl #[.agg #[.int .i64 ep, .int .i64 k, .int .i64 m, .int .i64 p, .int .i64 d, .slice A l.length c], .agg #[.int .i64 d, .int .i64 n], .int .u32 (pgX pg)] (by rfl) rfl rfl (by (try simp only [List.map_toArray, List.map_cons, List.map_nil]); first | done | rfl | (go_simp; done) | (go_simp; rfl)) ?_
  refine (TC.out _ (Kd.C_below HC2.out hB0.out)).mono ?_
  rintro e w35 ⟨g, rfl, hg, hh, hb⟩
  refine ⟨_, rfl, ?_⟩
  have HB3 := Lib.hid (below_then HB2.out HB2.out.size (below_then hB0.out hB0.out.size hb))
  have HH := Lib.hid hh
  have HG := Lib.hid (Nat.le_trans HB2.out.size (Nat.le_trans hB0.out.size hg))
  clear hb hh hg hB0
  refine hK.out _ _ ?_
  clear hK K
  refine norm_ (a' := ?_) ?_ ?_
  rotate_left
  · show Act.put _ (some 35) _ = _
    simp only [Act.put, List.setIfInBounds_toArray, List.set_cons_zero, List.set_cons_succ, i64_w, i32_w]
    rfl
  refine pure_ (i := 16) (N := some 36) (v := ?_) (a' := ?_) #[true, true, true, true, true, true, true, true, true, true, true, true, true, true, true, true, true, false, false, false] rfl rfl (by kernel_rfl) (fun _ _ _ h => h) (Or.inl ⟨by rfl, ?_⟩) ?_ ?_
  rotate_left
  · intro w'
    go_simp
    with_reducible rfl
  rotate_left
  · simp only [Act.put, List.setIfInBounds_toArray, List.set_cons_zero, List.set_cons_succ, i64_w, i32_w]
    rfl
  refine pure_ (i := 17) (N := some 37) (v := ?_) (a' := ?_) #[true, true, true, true, true, true, true, true, true, true, true, true, true, true, true, true, true, true, false, false] rfl rfl (by kernel_rfl) (fun _ _ _ h => h) (Or.inl ⟨by rfl, ?_⟩) ?_ ?_
  rotate_left
  · intro w'
    go_simp
    with_reducible rfl
  rotate_left
  · simp only [Act.put, List.setIfInBounds_toArray, List.set_cons_zero, List.set_cons_succ, i64_w, i32_w]
    rfl
  refine pure_ (i := 18) (N := some 4) (v := ?_) (a' := ?_) #[true, true, true, true, true, true, true, true, true, true, true, true, true, true, true, true, true, true, true, false] rfl rfl (by kernel_rfl) (fun _ _ _ h => h) (Or.inl ⟨by rfl, ?_⟩) ?_ ?_
  rotate_left
  · intro w'
    go_simp
    with_reducible rfl
  rotate_left
  · simp only [Act.put, List.setIfInBounds_toArray, List.set_cons_zero, List.set_cons_succ, i64_w, i32_w]
    rfl
  refine pure_ (i := 19) (N := some 5) (v := ?_) (a' := ?_) #[true, true, true, true, true, true, true, true, true, true, true, true, true, true, true, true, true, true, true, true] rfl rfl (by kernel_rfl) (fun _ _ _ h => h) (Or.inl ⟨by rfl, ?_⟩) ?_ ?_
  rotate_left
  · intro w'
    go_simp
    with_reducible rfl
  rotate_left
  · simp only [Act.put, List.setIfInBounds_toArray, List.set_cons_zero, List.set_cons_succ, i64_w, i32_w]
    rfl
  refine done_ (by kernel_rfl) ?_
  go_wp2_with fail
  go_ret2
  exact ⟨g, rfl, HG.out, HH.out, HB3.out⟩
end Go.Proofs.Ytnpphmgibgfjoaa.PlU
/- The document's descent: the walk, given what weighed answers. -/
namespace Go.Proofs.Ytnpphmgibgfjoaa.Rds
open Go Go.RowKit Go.Proofs.YtnpphmgibgfjoaaW.PrintWords Go.Proofs.YtnpphmgibgfjoaaW.PrintMore Mem PAll KW MixP MixW StrP StrW AtA Srt Grp Sl Dsc AtB Roo Rep Cho MayP Awk
open CrP hiding Od
end Go.Proofs.Ytnpphmgibgfjoaa.Rds
/- One number after another, as the document finds it: plain lists. -/
namespace Go.Proofs.Ytnpphmgibgfjoaa.WghP
open Go.RowKit Go.Proofs.YtnpphmgibgfjoaaW.PrintWords KW MixP MixW StrP PAll CrP
/-- The row in which the number has its place: it was there, or it is put there with no weight. -/
structure Put (g g1 : List Wd) (k : Int) (a : Nat) (wt : Int) : Prop where
  at_ : g1[a]? = some ⟨k, wt⟩
  ins_ : ∀ w, ins k w g = g1.set a ⟨k, wt + w⟩
theorem Put.same {g g1 : List Wd} {k : Int} {a : Nat} {wt : Int} (h : Put g g1 k a wt) : ins k 0 g = g1 := by
  rw [h.ins_, Int.add_zero]
  apply List.ext_getElem?
  intro j
  rw [List.getElem?_set]
  by_cases e : a = j
  · subst e
    rw [if_pos rfl, h.at_, if_pos (List.getElem?_eq_some_iff.1 h.at_).1]
  · rw [if_neg e]
end Go.Proofs.Ytnpphmgibgfjoaa.WghP
/- What weighed answers: the walk. -/
namespace Go.Proofs.Ytnpphmgibgfjoaa.Wgh
open Go Go.RowKit Go.Proofs.YtnpphmgibgfjoaaW.PrintWords Go.Proofs.YtnpphmgibgfjoaaW.PrintMore Go.Proofs.YtnpphmgibgfjoaaW.PrintLast Mem PAll KW MixP MixW StrP StrW AtA Srt Grp Sl Dsc AtB Roo Rep Cho MayP Awk Rds WghP
open CrP hiding Od
set_option linter.unusedSimpArgs false
end Go.Proofs.Ytnpphmgibgfjoaa.Wgh
/- The document's Choose: who is chosen, place by place. -/
namespace Go.Proofs.Ytnpphmgibgfjoaa.Chr
open Go Go.RowKit Go.Proofs.YtnpphmgibgfjoaaW.PrintWords Go.Proofs.YtnpphmgibgfjoaaW.PrintMore Go.Proofs.YtnpphmgibgfjoaaW.PrintLast Mem PAll KW MixP MixW StrP StrW AtA Srt Grp Sl Dsc AtB Roo Rep Cho MayP Awk Rds WghP Wgh
open CrP hiding Od
abbrev kI : Kd Int := Kd.int .i64
theorem infoI : (Try.prog.info? 3).map (fun i => (i.zero, i.size, i.bytes)) = some (some (.int .i64 0), kI.sz, 8) := by kernel_rfl
/-- Two rows of the call's own, apart. -/
def I2 (w : World) (base : Nat) (u : Value) (xs : List Int) (v : Value) (ys : List Int) : Prop :=
  kI.R 3 w base (fun k => True ∧ some k ≠ v.ownBlock) u xs ∧ kI.R 3 w base (fun k => True ∧ some k ≠ u.ownBlock) v ys
theorem I2.below {w w1 : World} {base : Nat} {u v : Value} {xs ys : List Int} (h : I2 w base u xs v ys) (hb : Below w.heap.size w w1) : I2 w1 base u xs v ys := ⟨Kd.R_below h.1 hb, Kd.R_below h.2 hb⟩
theorem I2.more2 {W w1 : World} {base : Nat} {u v v1 : Value} {xs ys : List Int} (h : I2 W base u xs v ys) {zs : List Int} (hg : W.grownBy w1 v.ownBlock) (hat : v1.ownBlock = v.ownBlock ∨ ∃ b, v1.ownBlock = some b ∧ W.heap.size ≤ b) (hv : kI.R 3 w1 base (fun k => True ∧ some k ≠ u.ownBlock) v1 zs) : I2 w1 base u xs v1 zs :=
  ⟨Kd.R_after h.1 hg hat, hv⟩
theorem I2.more1 {W w1 : World} {base : Nat} {u v u1 : Value} {xs ys : List Int} (h : I2 W base u xs v ys) {zs : List Int} (hg : W.grownBy w1 u.ownBlock) (hat : u1.ownBlock = u.ownBlock ∨ ∃ b, u1.ownBlock = some b ∧ W.heap.size ≤ b) (hu : kI.R 3 w1 base (fun k => True ∧ some k ≠ v.ownBlock) u1 zs) : I2 w1 base u1 zs v ys :=
  ⟨hu, Kd.R_after h.2 hg hat⟩
theorem own_fresh {w : World} {base : Nat} {ok : Nat → Prop} {v : Value} {ys : List Int} (h : kI.R 3 w base ok v ys) : ∀ k, w.heap.size ≤ k → True ∧ some k ≠ v.ownBlock := fun k hk => ⟨trivial, fun e => by have := Kd.R_lt h k e.symm; omega⟩
theorem I2.start (w : World) (base : Nat) (hb : base ≤ w.heap.size) : I2 ((w.alloc (.cells #[] 3)).alloc (.cells #[] 3)) base (.slice (some ⟨w.heap.size, 0, none⟩) 0 0) [] (.slice (some ⟨w.heap.size + 1, 0, none⟩) 0 0) [] := by
  have e : (w.alloc (.cells #[] 3)).heap.size = w.heap.size + 1 := by simp only [World.alloc, Array.size_push]
  have h1 : OwnRow (fun x cs => kI.M w base (fun k => True ∧ some k ≠ (none : Option Nat)) x cs) 3 kI.sz (w.alloc (.cells #[] 3)) base (.slice (some ⟨w.heap.size, 0, none⟩) 0 0) [] := OwnRow.lit w base (ps := []) (inner := []) (Reps.none _ _) hb (Nat.zero_le _)
  have h2 : OwnRow (fun x cs => kI.M w base (fun k => True ∧ some k ≠ (none : Option Nat)) x cs) 3 kI.sz ((w.alloc (.cells #[] 3)).alloc (.cells #[] 3)) base (.slice (some ⟨(w.alloc (.cells #[] 3)).heap.size, 0, none⟩) 0 0) [] := OwnRow.lit _ base (ps := []) (inner := []) (Reps.none _ _) (by rw [e]; omega) (Nat.zero_le _)
  rw [e] at h2
  refine ⟨⟨fun k hk => ⟨trivial, ?_⟩, (h1.below (below_alloc (Below.refl _ _) _)).imp_ (fun _ _ h => h)⟩, ⟨fun k hk => ⟨trivial, ?_⟩, h2.imp_ (fun _ _ h => h)⟩⟩
  · have hk' : w.heap.size = k := by simpa [Value.ownBlock] using hk
    subst hk'
    simp [Value.ownBlock]
  · have hk' : w.heap.size + 1 = k := by simpa [Value.ownBlock] using hk
    subst hk'
    simp [Value.ownBlock]
set_option linter.unusedSimpArgs false
end Go.Proofs.Ytnpphmgibgfjoaa.Chr
/- Ints of any two rows. -/
namespace Go.Proofs.Ytnpphmgibgfjoaa.IntG
open Go Go.RowKit Go.Proofs.YtnpphmgibgfjoaaW.PrintWords Go.Proofs.YtnpphmgibgfjoaaW.PrintLast Go.Proofs.YtnpphmgibgfjoaaW.PrintMore PAll Chr UpsP MayP Cho
theorem rd_get {l : List Int} {i : Nat} (h : i < l.length) : rd l (i : Int) = l[i] := by
  unfold rd
  simp [List.getD_eq_getElem?_getD, List.getElem?_eq_getElem h]
theorem ints_l0g (xs ys : List Int) (he : xs.length = ys.length) (hl : xs.length ≤ 9223372036854775807) : ∀ r i : Nat, i + r = xs.length → ∃ K, mooringref17_Ints.l0 K xs ys (i : Int) = some (decide (xs.drop i = ys.drop i))
  | 0, i, hi => ⟨1, by rw [mooringref17_Ints.l0, if_neg (by omega), List.drop_eq_nil_of_le (by omega), List.drop_eq_nil_of_le (by omega)]; rfl⟩
  | r + 1, i, hi => by
    obtain ⟨K, hK⟩ := ints_l0g xs ys he hl r (i + 1) (by omega)
    refine ⟨K + 1, ?_⟩
    have h1 : i < xs.length := by omega
    have h2 : i < ys.length := by omega
    rw [mooringref17_Ints.l0, if_pos (by omega), if_pos (by omega), if_pos (by omega), rd_get h1, rd_get h2, List.drop_eq_getElem_cons h1, List.drop_eq_getElem_cons h2]
    by_cases e : xs[i] = ys[i]
    · rw [if_pos e, w64 (by omega) (by omega), show ((i : Int) + 1) = ((i + 1 : Nat) : Int) by omega, hK]
      rw [e]
      exact congrArg some (decide_eq_decide.2 ⟨fun h => by rw [h], fun h => (List.cons.inj h).2⟩)
    · rw [if_neg e]
      refine congrArg some (decide_eq_false (fun h => e ?_)).symm
      injection h
theorem ints_gen (xs ys : List Int) (hl : xs.length ≤ 9223372036854775807) : ∃ K, mooringref17_Ints.f K xs ys = some (decide (xs = ys)) := by
  by_cases he : xs.length = ys.length
  · obtain ⟨K, hK⟩ := ints_l0g xs ys he hl xs.length 0 (by omega)
    exact ⟨K, by unfold mooringref17_Ints.f; rw [if_pos (by omega)]; exact hK⟩
  · refine ⟨1, ?_⟩
    unfold mooringref17_Ints.f
    rw [if_neg (by omega)]
    exact congrArg some (decide_eq_false (fun h => he (by rw [h]))).symm
/-- Are rows alike? -/
theorem ints_any (A B : Option Addr) (c c' : Nat) (xs ys : List Int) (w : World) (h : kI.C w A xs.length xs) (hc : xs.length ≤ c) (h' : kI.C w B ys.length ys) (hc' : ys.length ≤ c') :
    Calls Try.prog 17 #[.slice A xs.length c, .slice B ys.length c'] w fun e w' => e = .returned (.bool (decide (xs = ys))) ∧ Below w.heap.size w w' := by
  obtain ⟨K, hK⟩ := ints_gen xs ys h.2.1
  refine (mooringref17_Ints.calls K A c xs B c' ys _ w h hc h' hc' hK).mono ?_
  rintro e w1 ⟨rfl, hd⟩
  exact ⟨rfl, hd.below⟩
end Go.Proofs.Ytnpphmgibgfjoaa.IntG
/- CrushDescends: the walk, given what weighed answers. -/
namespace Go.Proofs.Ytnpphmgibgfjoaa.LDe
open Go Go.RowKit Go.Proofs.YtnpphmgibgfjoaaW.PrintWords Go.Proofs.YtnpphmgibgfjoaaW.PrintMore Mem PAll KW MixP MixW StrP StrW AtA Srt Grp Sl Dsc AtB Roo Rep Cho MayP Awk Rds
open CrP hiding Od
end Go.Proofs.Ytnpphmgibgfjoaa.LDe
/- CrushDescends: the walk, by its arguments' readings. -/
namespace Go.Proofs.Ytnpphmgibgfjoaa.DeO
open Go Go.RowKit Go.Proofs.YtnpphmgibgfjoaaW.PrintWords Opns PAll AtA AtB Rds Wgh UpsO
end Go.Proofs.Ytnpphmgibgfjoaa.DeO
/- CrushApart: no two places are in one failure domain, and who is chosen is in, with a weight: the walk. -/
namespace Go.Proofs.Ytnpphmgibgfjoaa.LAp
open Go Go.RowKit Go.Proofs.YtnpphmgibgfjoaaW.PrintWords Go.Proofs.YtnpphmgibgfjoaaW.PrintMore Mem PAll KW MixP MixW StrP StrW AtA Srt Grp Sl Dsc AtB Roo Rep Cho MayP Awk Ups UpsP Rds Wgh Chr IntG UpsO DeO ApP Fnd
open CrP hiding Od
theorem outA_at {n : Nat} {ps : List Int} {i : Nat} {v : Int} (h : ps[i]? = some v) : (outA n ps)[i]? = some (.int .i64 v) := by
  have hi := (List.getElem?_eq_some_iff.1 h).1
  rw [List.getElem?_toArray, List.getElem?_append_left (by rw [List.length_map]; exact hi), List.getElem?_map, h]
  rfl
end Go.Proofs.Ytnpphmgibgfjoaa.LAp
