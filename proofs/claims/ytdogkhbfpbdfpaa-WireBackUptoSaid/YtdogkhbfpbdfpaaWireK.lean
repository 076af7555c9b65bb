import Derived.Test.YtdogkhbfpbdfpaaOpen
import Derived.Test.YtdogkhbfpbdfpaaMem
/- The kind of law 05's Item. -/
namespace Go.Proofs.Ytdogkhbfpbdfpaa.WireK
open Go.RowKit Go.Proofs.YtdogkhbfpbdfpaaW.PrintWords Opns
structure It where
  act : Int
  n : Int
  b : List Int
  most : Int
  deriving DecidableEq, Inhabited
def kI : Kd It := Kd.iso (Kd.pair (Kd.int .i64) (Kd.pair (Kd.int .u64) (Kd.pair (Kd.slice 5 (Kd.int .u8)) (Kd.int .i64)))) (fun x => (x.act, x.n, x.b, x.most))
theorem kI_open {w : World} {x : It} {cs : List Value} (h : kI.K w x cs) : ∃ A c, cs = [.int .i64 x.act, .int .u64 x.n, .slice A x.b.length c, .int .i64 x.most] ∧ x.b.length ≤ c ∧ (Kd.int .u8).C w A x.b.length x.b := by
  obtain ⟨_, _, rfl, rfl, _, _, rfl, rfl, _, _, rfl, ⟨A, c, rfl, hc, hC⟩, rfl⟩ := h
  exact ⟨A, c, rfl, hc, hC⟩
/-- The cells of an element that is read. -/
theorem at_I {w : World} {A : Option Addr} {n : Nat} {xs : List It} (h : kI.C w A n xs) (i : Nat) (h1 : i < n) :
    ∃ ad x B c, xs[i]? = some x ∧ A = some ad ∧ w.cell? (ad.add (i * 4)) = some (.int .i64 x.act) ∧ w.cell? ⟨(ad.add (i * 4)).block, (ad.add (i * 4)).off + 1, none⟩ = some (.int .u64 x.n) ∧
      w.cell? ⟨(ad.add (i * 4)).block, (ad.add (i * 4)).off + 2, none⟩ = some (.slice B x.b.length c) ∧ w.cell? ⟨(ad.add (i * 4)).block, (ad.add (i * 4)).off + 3, none⟩ = some (.int .i64 x.most) ∧ x.b.length ≤ c ∧ (Kd.int .u8).C w B x.b.length x.b := by
  obtain ⟨ad, e, hc⟩ := h.2.2 (by omega)
  have hl : i < xs.length := by have := h.1; omega
  obtain ⟨c, _, hK, hcell⟩ := hc i _ (List.getElem?_eq_getElem hl)
  obtain ⟨B, cp, rfl, hle, hC⟩ := kI_open hK
  refine ⟨ad, _, B, cp, List.getElem?_eq_getElem hl, e, hcell 0 _ rfl, ?_, ?_, ?_, hle, hC⟩
  · rw [← add_field _ _ 1 (by omega)]; exact hcell 1 _ rfl
  · rw [← add_field _ _ 2 (by omega)]; exact hcell 2 _ rfl
  · rw [← add_field _ _ 3 (by omega)]; exact hcell 3 _ rfl
def goodI (x : It) : Prop := (Lit.int .i64 x.act).wf = true ∧ (Lit.int .u64 x.n).wf = true ∧ ((∀ y ∈ x.b, (Lit.int .u8 y).wf = true) ∧ x.b.length * 1 ≤ reachBytes) ∧ (Lit.int .i64 x.most).wf = true
theorem opens_I : Opens 28 kI goodI (fun x => 1 + (1 + ((lbulk (fun _ => 1) x.b + 1) + 1)) + 1) :=
  (opens_struct (g := fun x : It => (x.act, x.n, x.b, x.most)) (gi := fun p => ⟨p.1, p.2.1, p.2.2.1, p.2.2.2⟩) (fun _ => rfl) Try.underlying28 (by kernel_rfl)
    (opensF_cons (off := 1) (by kernel_rfl) rfl (opens_int Try.underlying3) (opensF_cons (off := 2) (by kernel_rfl) rfl (opens_int Try.underlying26)
      (opensF_cons (off := 3) (by kernel_rfl) rfl (opens_slice Try.underlying22 (by kernel_rfl) (by kernel_rfl) (opens_int Try.underlying5)) (opensF_one (by kernel_rfl) (opens_int Try.underlying3)))))).imp (fun _ h => h) (fun _ => Nat.le_refl _)
theorem opens_bytes : Opens 22 (Kd.slice 5 (Kd.int .u8)) (fun xs => (∀ x ∈ xs, (Lit.int .u8 x).wf = true) ∧ xs.length * 1 ≤ reachBytes) (fun xs => lbulk (fun _ => 1) xs + 1) :=
  opens_slice Try.underlying22 (by kernel_rfl) (by kernel_rfl) (opens_int Try.underlying5)
theorem opens_Is : Opens 23 (Kd.slice 28 kI) (fun xs => (∀ x ∈ xs, goodI x) ∧ xs.length * 48 ≤ reachBytes) (fun xs => lbulk (fun x => 1 + (1 + ((lbulk (fun _ => 1) x.b + 1) + 1)) + 1) xs + 1) :=
  opens_slice Try.underlying23 (by kernel_rfl) (by kernel_rfl) opens_I
end Go.Proofs.Ytdogkhbfpbdfpaa.WireK
