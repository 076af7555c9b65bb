import Derived.Test.YtkppgljndnljhaaStrM
namespace Go.Proofs.Ytkppgljndnljhaa.StrM
open Go.RowKit Go.Proofs.YtkppgljndnljhaaW.PrintWords KW MixP MixW StrP StrW
theorem grows_none (A : Option Addr) (c : Nat) (a b x : Int) (w : World) :
    Calls Try.prog 6 #[.slice A 0 c, .agg #[.int .i64 a, .int .i64 b], .int .u32 x] w fun e w' => e = .returned (.bool true) ∧ Below w.heap.size w w' := by
  have HB := Lib.hid (below_alloc (Below.refl w.heap.size w) (.cells #[.int .i64 a, .int .i64 b] 33))
  go_enter Try.func6, Try.ntmps6
  go_wp2_with fail
  refine (awake_calls _).mono ?_
  rintro e w5 ⟨rfl, hb⟩
  have HB5 := Lib.hid (below_then HB.out HB.out.size hb)
  clear hb
  go_wp2_with fail
  go_ret
  exact ⟨rfl, HB5.out⟩
theorem lawGrows (A : Option Addr) (c : Nat) (l : List Wd) (a b x : Int) (w : World) (hc : kW.C w A l.length l) (hs : l.length * 16 ≤ 140737488351232) :
    Calls Try.prog 6 #[.slice A l.length c, .agg #[.int .i64 a, .int .i64 b], .int .u32 x] w fun e w' => e = .returned (.bool true) ∧ Below w.heap.size w w' := by
  by_cases h : l = []
  · subst h
    exact grows_none A c a b x w
  · obtain ⟨i, u, hu, he⟩ := which h a
    exact grows_at A c l a b x i u w hc hs hu he
theorem walkMoves (A : Option Addr) (c : Nat) (l : List Wd) (cs : Array Value) (y : Int × Int) (x : Int) (w : World) (_ : l.length ≤ c) (hc : kW.C w A l.length l) (hg : (∀ x ∈ l, (Lit.int .i64 x.id).wf = true ∧ (Lit.int .i64 x.wt).wf = true) ∧ l.length * 16 ≤ reachBytes)
    (hk : (Kd.pair (Kd.int .i64) (Kd.int .i64)).K w y cs.toList) (_ : (Lit.int .i64 y.1).wf = true ∧ (Lit.int .i64 y.2).wf = true) (_ : (Lit.int .u32 x).wf = true) :
    Calls Try.prog 5 #[.slice A l.length c, .agg cs, .int .u32 x] w fun e w' => e = .returned (.bool true) ∧ Below w.heap.size w w' := by
  have e : cs = #[.int .i64 y.1, .int .i64 y.2] := by
    obtain ⟨c1, c2, e, h1, h2⟩ := hk
    have h1 : c1 = [.int .i64 y.1] := h1
    have h2 : c2 = [.int .i64 y.2] := h2
    rw [← Array.toList_inj, e, h1, h2]
    rfl
  subst e
  exact lawMoves _ _ _ _ _ _ _ hc hg.2
theorem walkGrows (A : Option Addr) (c : Nat) (l : List Wd) (cs : Array Value) (y : Int × Int) (x : Int) (w : World) (_ : l.length ≤ c) (hc : kW.C w A l.length l) (hg : (∀ x ∈ l, (Lit.int .i64 x.id).wf = true ∧ (Lit.int .i64 x.wt).wf = true) ∧ l.length * 16 ≤ reachBytes)
    (hk : (Kd.pair (Kd.int .i64) (Kd.int .i64)).K w y cs.toList) (_ : (Lit.int .i64 y.1).wf = true ∧ (Lit.int .i64 y.2).wf = true) (_ : (Lit.int .u32 x).wf = true) :
    Calls Try.prog 6 #[.slice A l.length c, .agg cs, .int .u32 x] w fun e w' => e = .returned (.bool true) ∧ Below w.heap.size w w' := by
  have e : cs = #[.int .i64 y.1, .int .i64 y.2] := by
    obtain ⟨c1, c2, e, h1, h2⟩ := hk
    have h1 : c1 = [.int .i64 y.1] := h1
    have h2 : c2 = [.int .i64 y.2] := h2
    rw [← Array.toList_inj, e, h1, h2]
    rfl
  subst e
  exact lawGrows _ _ _ _ _ _ _ hc hg.2
end Go.Proofs.Ytkppgljndnljhaa.StrM
