import Derived.Test.YtnpphmgibgfjoaaOpen
/- The kind of api.Weighed. -/
namespace Go.Proofs.Ytnpphmgibgfjoaa.KW
open Go.RowKit Go.Proofs.YtnpphmgibgfjoaaW.PrintWords Opns

structure Wd where
  id : Int
  wt : Int
  deriving DecidableEq, Inhabited
def kW : Kd Wd := Kd.iso (Kd.pair (Kd.int .i64) (Kd.int .i64)) (fun x => (x.id, x.wt))
theorem kW_open {w : World} {x : Wd} {cs : List Value} (h : kW.K w x cs) : cs = [.int .i64 x.id, .int .i64 x.wt] := by
  obtain ⟨_, _, rfl, rfl, rfl⟩ := h
  exact rfl
theorem kW_openM {w : World} {base : Nat} {ok : Nat → Prop} {x : Wd} {cs : List Value} (h : kW.M w base ok x cs) : cs = [.int .i64 x.id, .int .i64 x.wt] := by
  obtain ⟨_, _, rfl, rfl, rfl⟩ := h
  exact rfl
theorem kW_mkM (w : World) (base : Nat) (ok : Nat → Prop) (x : Wd) : kW.M w base ok x [.int .i64 x.id, .int .i64 x.wt] := ⟨[.int .i64 x.id], [.int .i64 x.wt], rfl, rfl, rfl⟩
/-- The cells of an element that is read. -/
theorem at_W {w : World} {A : Option Addr} {n : Nat} {xs : List Wd} (h : kW.C w A n xs) (i : Nat) (h1 : i < n) :
    ∃ ad x, xs[i]? = some x ∧ A = some ad ∧ w.cell? (ad.add (i * 2)) = some (.int .i64 x.id) ∧ w.cell? ⟨(ad.add (i * 2)).block, (ad.add (i * 2)).off + 1, none⟩ = some (.int .i64 x.wt) := by
  obtain ⟨ad, e, hc⟩ := h.2.2 (by omega)
  have hl : i < xs.length := by have := h.1; omega
  obtain ⟨c, _, hK, hcell⟩ := hc i _ (List.getElem?_eq_getElem hl)
  obtain rfl := kW_open hK
  exact ⟨ad, _, List.getElem?_eq_getElem hl, e, hcell 0 _ rfl, by rw [← add_field _ _ 1 (by omega)]; exact hcell 1 _ rfl⟩
theorem opens_W : Opens 83 kW (fun x => (Lit.int .i64 x.id).wf = true ∧ (Lit.int .i64 x.wt).wf = true) (fun _ => 1 + 1 + 1) :=
  (opens_struct (g := fun x : Wd => (x.id, x.wt)) (gi := fun p => ⟨p.1, p.2⟩) (fun _ => rfl) Try.underlying83 (by kernel_rfl)
    (opensF_cons (off := 1) (by kernel_rfl) rfl (opens_int Try.underlying3) (opensF_one (by kernel_rfl) (opens_int Try.underlying3)))).imp (fun _ h => h) (fun _ => Nat.le_refl _)
theorem opens_Ws : Opens 80 (Kd.slice 83 kW) (fun xs => (∀ x ∈ xs, (Lit.int .i64 x.id).wf = true ∧ (Lit.int .i64 x.wt).wf = true) ∧ xs.length * 16 ≤ reachBytes) (fun xs => lbulk (fun _ => 1 + 1 + 1) xs + 1) :=
  opens_slice Try.underlying80 (by kernel_rfl) (by kernel_rfl) opens_W
end Go.Proofs.Ytnpphmgibgfjoaa.KW
