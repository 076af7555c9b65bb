import Derived.Test.YtnpphmgibgfjoaaShelfF
import Derived.Test.YtnpphmgibgfjoaaShelf
import Derived.Test.YtnpphmgibgfjoaaCrP
import Derived.WalkKit
import Derived.WalkSpells
import Derived.WalkLawsBesides
import Derived.Lib.Hide
import Derived.Deep.DeepMust
import Derived.Great.Walk
/- Weighed ones sorted by their numbers: slices.SortFunc, at the call's own row. -/
namespace Go.Proofs.Ytnpphmgibgfjoaa.Srt
open Go Go.Sort Go.Shelf Go.RowKit Go.Proofs.YtnpphmgibgfjoaaW.PrintWords KW MixP MixW StrP CrP
def encW (x : Wd) : List Value := [.int .i64 x.id, .int .i64 x.wt]
def cmpW (x y : Wd) : Int := Lib.compareInt x.id y.id
theorem ltW (x y : Wd) : ltOf cmpW x y = decide (x.id < y.id) := by
  unfold ltOf cmpW Lib.compareInt
  by_cases h1 : x.id < y.id
  · simp [h1]
  · by_cases h2 : y.id < x.id <;> simp [h1, h2]
theorem swoW : SWO (ltOf cmpW) where
  irrefl x := by rw [ltW]; simp
  trans x y z h1 h2 := by rw [ltW] at *; simp at *; omega
  ntrans x y z h1 h2 := by rw [ltW] at *; simp at *; omega
theorem cmp_calls (x y : Wd) (W : World) : Calls Try.prog 82 #[.agg #[.int .i64 x.id, .int .i64 x.wt], .agg #[.int .i64 y.id, .int .i64 y.wt]] W fun e w' => e = .returned (.int .i64 (cmpW x y)) ∧ ∃ q os', w' = grow (W.drewN q) os' := by
  have hcon := fun W' => Try.cmp_Compare_int x.id y.id W'
  unfold cmpW
  generalize Lib.compareInt x.id y.id = r at hcon ⊢
  go_enter Try.func82, Try.ntmps82
  go_wp2_with (go_at_call 83; refine (hcon _).mono ?_; rintro e w' ⟨rfl, rfl⟩)
  go_ret
  exact ⟨rfl, 0, _, by rw [alloc_eq_grow, alloc_eq_grow, grow_grow]; rfl⟩
theorem flat_at (ys : List Wd) (j : Nat) (y : Wd) (h : ys[j]? = some y) (i : Nat) (hi : i < 2) : (flatK encW 2 ys.toArray)[j * 2 + i]? = some ((encW y)[i]!) := by
  have hj := (List.getElem?_eq_some_iff.1 h).1
  have hy : ys[j] = y := (List.getElem?_eq_some_iff.1 h).2
  have ht : j * 2 + i < ys.toArray.size * 2 := by simp; omega
  have hs : j * 2 + i < (flatK encW 2 ys.toArray).size := by rw [size_flatK]; exact ht
  have := get_flatK encW 2 ys.toArray (j * 2 + i) ht
  rw [getElem!_pos (flatK encW 2 ys.toArray) _ hs] at this
  rw [Array.getElem?_eq_getElem hs, this, show (j * 2 + i) / 2 = j by omega, show (j * 2 + i) % 2 = i by omega]
  rw [getElem!_pos ys.toArray j (by simpa using hj)]
  simp [hy]
theorem reps_flat (w : World) (base : Nat) (ok : Nat → Prop) (ys : List Wd) : Reps (kW.M w base ok) 2 ys (flatK encW 2 ys.toArray).toList := by
  refine ⟨by simp, fun j y hj => ?_⟩
  have e : ((flatK encW 2 ys.toArray).toList.drop (j * 2)).take 2 = [.int .i64 y.id, .int .i64 y.wt] := by
    apply List.ext_getElem?
    intro i
    rcases Nat.lt_or_ge i 2 with hi | hi
    · rw [List.getElem?_take_of_lt hi, List.getElem?_drop, Array.getElem?_toList, flat_at ys j y hj i hi]
      match i, hi with
      | 0, _ => rfl
      | 1, _ => rfl
    · rw [List.getElem?_take_eq_none hi, List.getElem?_eq_none (by simpa using hi)]
  rw [e]
  exact kW_mkM _ _ _ y
theorem sort_calls {w : World} {base : Nat} {v : Value} {xs : List Wd} (h : kW.R 83 w base (fun _ => True) v xs) (hp : 0 < xs.length) (hs : xs.length ≤ 140737488355328) :
    Calls Try.prog 81 #[v, .func (.func 82) #[] #[]] w fun e w' => e = .returned (.tuple #[]) ∧ ∃ ys : List Wd, ys.Perm xs ∧ (∀ i j : Nat, i < j → ∀ a b : Wd, ys[i]? = some a → ys[j]? = some b → a.id ≤ b.id) ∧ kW.R 83 w' base (fun _ => True) v ys ∧ w.grownBy w' v.ownBlock := by
  obtain ⟨g, cap, rfl, hb, hlt, _⟩ := Kd.R_form h hp
  have hC := (Kd.R_reads' h).2.2
  obtain ⟨inner, ho⟩ := Kd.R_own h
  rcases ho.2 with ⟨h0, _⟩ | ⟨g', cap', cur, hv, hg, hh, hn, hcap, hsz, ht⟩
  · cases h0
  cases hv
  have hH : HoldsK encW 2 w g 0 xs.toArray := by
    intro t ht
    have ht' : t < xs.length * 2 := by simpa using ht
    have hi : t / 2 < xs.length := by omega
    obtain ⟨ad, x, hx, hA, c0, c1⟩ := at_W hC (t / 2) hi
    injection hA with hA
    subst hA
    rw [add_plain] at c0 c1
    refine ⟨?_, blk_frozen hh _⟩
    have hf := flat_at xs (t / 2) x hx (t % 2) (Nat.mod_lt _ (by decide))
    rw [show t / 2 * 2 + t % 2 = t by omega] at hf
    have hs2 : t < (flatK encW 2 xs.toArray).size := ht
    rw [getElem!_pos (flatK encW 2 xs.toArray) _ hs2]
    rw [Array.getElem?_eq_getElem hs2] at hf
    rw [Option.some.inj hf, Nat.zero_add]
    rcases Nat.mod_two_eq_zero_or_one t with e | e
    · rw [e, show t = t / 2 * 2 by omega]; exact c0
    · rw [e, show t = t / 2 * 2 + 1 by omega]; exact c1
  have eg : ∀ args w, (callFunc 82 args).run Try.prog w = .ok (.enter 82 args) w := enters_of Try.func82 (by kernel_rfl) rfl
  have hlays : CmpLays Try.prog 82 #[] encW 2 cmpW g 0 xs.toArray.size w := fun _ _ _ _ x y => cmp_calls x y _
  have hcon := AnyQ.slices_SortFunc Try.sortWd 2 Try.isAgg83 Try.sizeOf83 encW (fun _ => rfl) (fun x v hv => by simp [encW] at hv; rcases hv with rfl | rfl <;> rfl) cmpW swoW 82 #[] g 0 cap xs.toArray w eg hlays hH hlt (by simp; omega)
  change Calls Try.prog 81 _ _ _ at hcon
  rw [List.size_toArray] at hcon
  refine hcon.mono ?_
  rintro e w' ⟨rfl, d', n, os, hp1, hs1, rfl⟩
  obtain ⟨ys, rfl⟩ : ∃ ys : List Wd, d' = ys.toArray := ⟨d'.toList, rfl⟩
  have hl : ys.length = xs.length := by have := hp1.1; simpa using this
  have hgb : w.grownBy (sortWorldK encW 2 w g 0 n ys.toArray os) (some g) := by
    refine ⟨rfl, rfl, rfl, by simp [sortWorldK, putRowK, Sort.ahead], fun k hk hne => ?_⟩
    unfold sortWorldK putRowK
    rw [heap_grow_old _ _ (by simpa using hk)]
    have : g ≠ k := fun e => hne (by rw [e])
    simp [putRow, mapBlock, Sort.ahead, Array.getElem?_modify, this]
  have hblk : (sortWorldK encW 2 w g 0 n ys.toArray os).heap[g]? = some (.cells (putCells id 0 (flatK encW 2 ys.toArray) cur) 83 (0, 0)) := by
    unfold sortWorldK putRowK
    rw [heap_grow_old _ _ (by simpa using hlt)]
    simp [putRow, mapBlock, Sort.ahead, Array.getElem?_modify, hh, onCells]
  have hcur : xs.length * 2 ≤ cur.size := by
    have : kW.sz = 2 := rfl
    rw [this] at hsz
    omega
  refine ⟨rfl, ys, ?_, ?_, ⟨fun _ _ => trivial, (flatK encW 2 ys.toArray).toList, ⟨by simp [kW]; rfl, .inr ⟨g, cap, _, by rw [hl], hg, hblk, by rw [hl]; exact hn, hcap, by simpa [putCells] using hsz, ?_⟩⟩, reps_flat _ _ _ _⟩, hgb⟩
  · have h3 := hp1.2.2
    have e1 : (ys.toArray.extract 0 xs.length).toList = ys := by rw [← hl]; simp
    have e2 : (xs.toArray.extract 0 xs.length).toList = xs := by simp
    rwa [e1, e2] at h3
  · intro i j hij a b ha hb2
    have hj := (List.getElem?_eq_some_iff.1 hb2).1
    have hi := (List.getElem?_eq_some_iff.1 ha).1
    have h4 := hs1 i j (Nat.zero_le _) hij (by first | omega | (simp; omega))
    rw [ltW, getElem!_pos ys.toArray j (by simpa using hj), getElem!_pos ys.toArray i (by simpa using hi)] at h4
    have h5 := of_decide_eq_false h4
    simp only [List.getElem_toArray] at h5
    rw [(List.getElem?_eq_some_iff.1 hb2).2, (List.getElem?_eq_some_iff.1 ha).2] at h5
    omega
  · apply List.ext_getElem?
    intro t
    have e2 : kW.sz = 2 := rfl
    rw [e2]
    rcases Nat.lt_or_ge t (ys.length * 2) with htl | htl
    · have htc : t < cur.size := by omega
      rw [List.getElem?_take_of_lt htl, Array.getElem?_toList, Array.getElem?_toList]
      have hs3 : t < (flatK encW 2 ys.toArray).size := by simpa using htl
      simp [putCells, htc]
      rw [if_pos (by simpa using htl), Array.getElem?_eq_getElem hs3, getElem!_pos (flatK encW 2 ys.toArray) _ hs3]
    · rw [List.getElem?_take_eq_none htl, List.getElem?_eq_none (by simpa using htl)]
/-! ### nothing to sort -/
theorem ins0_calls (A : Option Addr) (c : Nat) (f : Value) (w : World) : Calls Try.prog 109 #[.slice A 0 c, .int .i64 0, .int .i64 0, f] w fun e w' => e = .returned (.tuple #[]) ∧ w = w' := by
  go_enter Try.func109, Try.ntmps109
  go_wp2_with fail
  refine wp_loop_rounds 1 ?_
  rw [rounds_succ]
  go_wp2_with fail
  refine Go.Great.bodyPost_end0 (by kernel_rfl) rfl ?_
  exact ⟨rfl, rfl⟩
theorem pdq0_calls (A : Option Addr) (c : Nat) (k : Int) (f : Value) (w : World) : Calls Try.prog 98 #[.slice A 0 c, .int .i64 0, .int .i64 0, .int .i64 k, f] w fun e w' => e = .returned (.tuple #[]) ∧ w = w' := by
  go_enter Try.func98, Try.ntmps98
  go_wp2_with fail
  refine wp_loop_rounds 1 ?_
  rw [rounds_succ]
  go_wp2_with (go_at_call 109; refine (ins0_calls _ _ _ _).mono ?_; rintro e w' ⟨rfl, rfl⟩)
  exact bodyPost_ret (v := .tuple #[]) (by simp [results, Try.results98, go_sem]) rfl ⟨rfl, rfl⟩
theorem sort0_calls (A : Option Addr) (c : Nat) (f : Value) (w : World) : Calls Try.prog 81 #[.slice A 0 c, f] w fun e w' => e = .returned (.tuple #[]) ∧ w = w' := by
  have hl := fun w => Try.bits_Len 0 w (by decide) (by decide)
  go_enter Try.func81, Try.ntmps81
  go_wp2_with (first | (go_at_call 99; refine (hl _).mono ?_; rintro e w' ⟨rfl, rfl⟩) | (go_at_call 98; refine (pdq0_calls _ _ _ _ _).mono ?_; rintro e w' ⟨rfl, rfl⟩))
  first
    | (refine Go.Great.bodyPost_end0 (by kernel_rfl) rfl ?_; exact ⟨rfl, rfl⟩)
    | (go_end0; exact ⟨rfl, rfl⟩)
end Go.Proofs.Ytnpphmgibgfjoaa.Srt
