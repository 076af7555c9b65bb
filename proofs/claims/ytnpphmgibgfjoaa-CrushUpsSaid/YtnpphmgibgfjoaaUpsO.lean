import Derived.Test.YtnpphmgibgfjoaaUps
import Derived.Test.YtnpphmgibgfjoaaOpen
/- CrushUps: what the row asks for. -/
namespace Go.Proofs.Ytnpphmgibgfjoaa.UpsO
open Go Go.RowKit Go.Proofs.YtnpphmgibgfjoaaW.PrintWords Opns PAll KW AtA Grp AtB Ups
abbrev wfI (n : Int) : Prop := (Lit.int .i64 n).wf = true
theorem op_i : Opens 3 (Kd.int .i64) (fun n => wfI n) (fun _ => 1) := opens_int Try.underlying3
theorem op_b : Opens 4 Kd.bool (fun _ => True) (fun _ => 1) := opens_bool Try.underlying4
instance : Inhabited S40 := ⟨⟨0, false, false, 0, 0, 0, 0, 0⟩⟩
def goodO (x : S40) : Prop := wfI x.f0 ∧ True ∧ True ∧ wfI x.f3 ∧ wfI x.f4 ∧ wfI x.f5 ∧ wfI x.f6 ∧ wfI x.f7
theorem opens_O : Opens 40 k40 goodO (fun _ => 1) :=
  (opens_struct (g := fun x : S40 => (x.f0, x.f1, x.f2, x.f3, x.f4, x.f5, x.f6, x.f7)) (gi := fun p => ⟨p.1, p.2.1, p.2.2.1, p.2.2.2.1, p.2.2.2.2.1, p.2.2.2.2.2.1, p.2.2.2.2.2.2.1, p.2.2.2.2.2.2.2⟩) (fun _ => rfl) Try.underlying40 (by kernel_rfl)
    (opensF_cons (off := 1) (by kernel_rfl) rfl op_i (opensF_cons (off := 2) (by kernel_rfl) rfl op_b (opensF_cons (off := 3) (by kernel_rfl) rfl op_b (opensF_cons (off := 4) (by kernel_rfl) rfl op_i (opensF_cons (off := 5) (by kernel_rfl) rfl op_i (opensF_cons (off := 6) (by kernel_rfl) rfl op_i (opensF_cons (off := 7) (by kernel_rfl) rfl op_i (opensF_one (by kernel_rfl) op_i))))))))).imp (fun _ h => h) (fun _ => by omega)
theorem opens_Os : Opens 24 (Kd.slice 40 k40) (fun xs => (∀ x ∈ xs, goodO x) ∧ xs.length * 56 ≤ reachBytes) (fun xs => lbulk (fun _ => 1) xs + 1) := opens_slice Try.underlying24 (by kernel_rfl) (by kernel_rfl) opens_O
def goodP (x : S23) : Prop := wfI x.f0 ∧ wfI x.f1 ∧ wfI x.f2 ∧ wfI x.f3
theorem opens_P : Opens 23 k23 goodP (fun _ => 1) :=
  (opens_struct (g := fun x : S23 => (x.f0, x.f1, x.f2, x.f3)) (gi := fun p => ⟨p.1, p.2.1, p.2.2.1, p.2.2.2⟩) (fun _ => rfl) Try.underlying23 (by kernel_rfl)
    (opensF_cons (off := 1) (by kernel_rfl) rfl op_i (opensF_cons (off := 2) (by kernel_rfl) rfl op_i (opensF_cons (off := 3) (by kernel_rfl) rfl op_i (opensF_one (by kernel_rfl) op_i))))).imp (fun _ h => h) (fun _ => by omega)
def goodM (x : S26) : Prop := wfI x.f0 ∧ goodP x.f1 ∧ ((∀ o ∈ x.f2, goodO o) ∧ x.f2.length * 56 ≤ reachBytes)
theorem opens_M : Opens 26 k26 goodM (fun _ => 1) :=
  (opens_struct (g := fun x : S26 => (x.f0, x.f1, x.f2)) (gi := fun p => ⟨p.1, p.2.1, p.2.2⟩) (fun _ => rfl) Try.underlying26 (by kernel_rfl)
    (opensF_cons (off := 1) (by kernel_rfl) rfl op_i (opensF_cons (off := 5) (by kernel_rfl) rfl opens_P (opensF_one (by kernel_rfl) opens_Os)))).imp (fun _ h => h) (fun _ => by simp only [lbulk]; omega)
structure Ru where
  f0 : Int
  f1 : Int
  deriving Inhabited
def kRu : Kd Ru := Kd.iso (Kd.pair (Kd.int .i64) (Kd.int .i64)) (fun x : Ru => (x.f0, x.f1))
def goodR (x : Ru) : Prop := wfI x.f0 ∧ wfI x.f1
theorem opens_R : Opens 28 kRu goodR (fun _ => 1) :=
  (opens_struct (g := fun x : Ru => (x.f0, x.f1)) (gi := fun p => ⟨p.1, p.2⟩) (fun _ => rfl) Try.underlying28 (by kernel_rfl)
    (opensF_cons (off := 1) (by kernel_rfl) rfl op_i (opensF_one (by kernel_rfl) op_i))).imp (fun _ h => h) (fun _ => by omega)
theorem kRu_open {w : World} {x : Ru} {cs : List Value} (h : kRu.K w x cs) : cs = [.int .i64 x.f0, .int .i64 x.f1] := by
  obtain ⟨_, _, rfl, rfl, rfl⟩ := h
  exact rfl
theorem map_open {w : World} {x : S26} {cs : Array Value} (h : k26.K w x cs.toList) (g : goodM x) : ∃ A c, cs = boxM x.f0 x.f1.f0 x.f1.f1 x.f1.f2 x.f1.f3 A c x.f2 ∧ x.f2.length ≤ c ∧ kO.C w A x.f2.length x.f2 ∧ WfL x.f2 := by
  obtain ⟨A, c, e, hl, hc⟩ := k26_open h
  refine ⟨A, c, ?_, hl, hc, fun o ho => ?_⟩
  · rw [← Array.toArray_toList (xs := cs), e]
    rfl
  · have h1 := g.2.2.1 o ho
    exact ⟨h1.1, h1.2.2.2.2.2.2.1, h1.2.2.2.2.2.2.2⟩
theorem rule_open {w : World} {x : Ru} {cs : Array Value} (h : kRu.K w x cs.toList) : cs = #[.int .i64 x.f0, .int .i64 x.f1] := by
  rw [← Array.toArray_toList (xs := cs), kRu_open h]
theorem walkUps (cs0 : Array Value) (x0 : S26) (cs1 : Array Value) (x1 : Ru) (a2 : Int) (w : World) (c0 : k26.K w x0 cs0.toList) (g0 : goodM x0) (c1 : kRu.K w x1 cs1.toList) (_ : goodR x1) (_ : (Lit.int .u32 a2).wf = true) :
    Calls Try.prog 5 #[.agg cs0, .agg cs1, .int .u32 a2] w fun e w' => e = .returned (.bool true) ∧ Below w.heap.size w w' := by
  obtain ⟨A, c, rfl, hl, hc, hw⟩ := map_open c0 g0
  rw [rule_open c1]
  exact ups_calls _ _ _ _ _ A c x0.f2 _ _ a2 w hc hl hw
end Go.Proofs.Ytnpphmgibgfjoaa.UpsO
