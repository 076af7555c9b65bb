import Derived.Test.YtnpphmgibgfjoaaCho
import Derived.Test.YtnpphmgibgfjoaaPAllx2
import Derived.Test.YtnpphmgibgfjoaaPAllx3
import Derived.Test.YtnpphmgibgfjoaaPAllx4
import Derived.Test.YtnpphmgibgfjoaaPAllx10
/- mooringref13.May says what atlas.Check says. -/
namespace Go.Proofs.Ytnpphmgibgfjoaa.MayP
open Go Go.RowKit Go.Proofs.YtnpphmgibgfjoaaW.PrintWords Go.Proofs.YtnpphmgibgfjoaaW.PrintMore Mem PAll KW MixP MixW StrP StrW AtA Srt Grp Sl Dsc AtB Roo Rep Cho
open CrP hiding Od
theorem w64 {x : Int} (h : -9223372036854775808 ≤ x) (h2 : x ≤ 9223372036854775807) : wrap64 x = x := IntWalk.wrap64_in _ ⟨h, h2⟩
theorem within_eq (a b : Int) : mooringref13_within.f a 0 b = some (winB a b) := by
  unfold mooringref13_within.f winB
  by_cases h : a ≥ 0
  · rw [if_pos h]
    congr 1
    by_cases h2 : a ≤ b
    · rw [decide_eq_true h2, decide_eq_true ⟨h, h2⟩]
    · rw [decide_eq_false h2, decide_eq_false (fun h3 => h2 h3.2)]
  · rw [if_neg h, decide_eq_false (fun h3 => h h3.1)]
theorem within1 (a b : Int) : mooringref13_within.f a 1 b = some (decide (1 ≤ a ∧ a ≤ b)) := by
  unfold mooringref13_within.f
  by_cases h : a ≥ 1
  · rw [if_pos h]
    congr 1
    by_cases h2 : a ≤ b
    · rw [decide_eq_true h2, decide_eq_true ⟨h, h2⟩]
    · rw [decide_eq_false h2, decide_eq_false (fun h3 => h2 h3.2)]
  · rw [if_neg h, decide_eq_false (fun h3 => h h3.1)]
theorem pool_eq (k m p d : Int) : mooringref13_Pool.f k m p d = some (poolB k m p d) := by
  unfold mooringref13_Pool.f poolB
  rw [within1, within1, within1, within_eq]
  simp only [Option.bind_some]
  by_cases h1 : 1 ≤ k ∧ k ≤ 32
  · rw [if_pos (decide_eq_true h1), decide_eq_true h1.1, decide_eq_true h1.2]
    by_cases h2 : 1 ≤ m ∧ m ≤ 32
    · have hw : wrap64 (k + m) = k + m := w64 (by omega) (by omega)
      rw [if_pos (decide_eq_true h2), hw, decide_eq_true h2.1]
      by_cases h3 : k + m ≤ 32
      · rw [if_pos h3, decide_eq_true (show m ≤ 32 - k by omega)]
        by_cases h4 : 1 ≤ p ∧ p ≤ 32
        · rw [if_pos (decide_eq_true h4), decide_eq_true h4.1, decide_eq_true h4.2]; rfl
        · rw [if_neg (by rw [decide_eq_false h4]; decide)]
          by_cases h5 : 1 ≤ p
          · rw [decide_eq_true h5, decide_eq_false (show ¬ p ≤ 32 from fun h => h4 ⟨h5, h⟩)]; rfl
          · rw [decide_eq_false h5]; rfl
      · rw [if_neg h3, decide_eq_false (show ¬ m ≤ 32 - k by omega)]; rfl
    · rw [if_neg (by rw [decide_eq_false h2]; decide)]
      by_cases h5 : 1 ≤ m
      · rw [decide_eq_true h5, decide_eq_false (show ¬ m ≤ 32 - k by omega)]; rfl
      · rw [decide_eq_false h5]; rfl
  · rw [if_neg (by rw [decide_eq_false h1]; decide)]
    by_cases h5 : 1 ≤ k
    · rw [decide_eq_true h5, decide_eq_false (show ¬ k ≤ 32 by omega)]
      cases decide (1 ≤ m) <;> rfl
    · rw [decide_eq_false h5]; rfl
theorem osd_eq (o : Od) : mooringref13_Osd.f o.f0 o.f1 o.f2 o.f3 o.f4 o.f5 o.f6 o.f7 = some (osdB o) := by
  unfold mooringref13_Osd.f osdB
  simp only [within_eq, Option.bind_some]
  generalize winB o.f0 999 = bf0
  cases bf0
  · rfl
  generalize winB o.f6 999 = bf6
  cases bf6
  · rfl
  generalize winB o.f7 999 = bf7
  cases bf7
  · rfl
  generalize winB o.f3 16777216 = bf3
  cases bf3
  · rfl
  generalize winB o.f4 2147483647 = bf4
  cases bf4
  · rfl
  generalize winB o.f5 2147483647 = bf5
  cases bf5
  · rfl
  simp only [if_true, Bool.true_and]
  cases o.f1
  · rfl
  · simp only [if_true, Bool.not_true, Bool.false_or]
    by_cases h : o.f4 > 0
    · rw [if_pos h, decide_eq_true (show 1 ≤ o.f4 by omega)]
      by_cases h2 : o.f5 > 0
      · rw [decide_eq_true h2, decide_eq_true (show 1 ≤ o.f5 by omega)]; rfl
      · rw [decide_eq_false h2, decide_eq_false (show ¬ 1 ≤ o.f5 by omega)]; rfl
    · rw [if_neg h, decide_eq_false (show ¬ 1 ≤ o.f4 by omega)]; rfl
theorem rd_at {l : List Od} {i : Nat} {o : Od} (h : l[i]? = some o) : rd_T40 l (i : Int) = o := by
  unfold rd_T40
  rw [show ((i : Nat) : Int).toNat = i from rfl, List.getD_eq_getElem?_getD, h]
  rfl
section
variable (ep k m p d : Int) {l : List Od}
theorem l1_all (hl : l.length ≤ 64) {i : Nat} {o : Od} (ho : l[i]? = some o) (h1 : osdB o = true) (hg : AtA.Good l i)
    (next : AtA.Good l (i + 1) → ∃ K, mooringref13_May.l0 K ((i : Int) + 1) ep k m p d l = some (goodB l)) :
    ∀ r j : Nat, j + r = i → (∀ j' q, j' < j → l[j']? = some q → q.f0 < o.f0 ∧ (q.f6 = o.f6 → q.f7 = o.f7)) → ∃ K, mooringref13_May.l1 K (i : Int) (j : Int) ep k m p d l = some (goodB l)
  | 0, j, hj, hp => by
    obtain rfl : j = i := by omega
    have hi := (List.getElem?_eq_some_iff.1 ho).1
    obtain ⟨K, hK⟩ := next (fun i' o' hi' ho' => by
      rcases Nat.lt_or_ge i' j with h | h
      · exact hg i' o' h ho'
      · obtain rfl : i' = j := by omega
        obtain rfl : o = o' := Option.some.inj (ho.symm.trans ho')
        exact ⟨h1, hp⟩)
    refine ⟨K + 1, ?_⟩
    unfold mooringref13_May.l1
    rw [if_neg (by omega), w64 (by omega) (by omega)]
    exact hK
  | r + 1, j, hj, hp => by
    have hi := (List.getElem?_eq_some_iff.1 ho).1
    have hq : l[j]? = some (l[j]'(by omega)) := List.getElem?_eq_getElem _
    have bad : (o.f0 ≤ (l[j]'(by omega)).f0 ∨ ((l[j]'(by omega)).f6 = o.f6 ∧ (l[j]'(by omega)).f7 ≠ o.f7)) → goodB l = false := fun hb => goodB_no (not_good hi ho (.inr ⟨j, _, by omega, hq, hb⟩))
    obtain ⟨q, hqe⟩ : ∃ q, q = l[j]'(by omega) := ⟨_, rfl⟩
    rw [← hqe] at hq bad
    clear hqe
    have recu := fun (hok : q.f0 < o.f0 ∧ (q.f6 = o.f6 → q.f7 = o.f7)) => l1_all hl ho h1 hg next r (j + 1) (by omega) (fun j' q' hj' hq' => by
      rcases Nat.lt_or_ge j' j with h | h
      · exact hp j' q' h hq'
      · obtain rfl : j' = j := by omega
        obtain rfl : q = q' := Option.some.inj (hq.symm.trans hq')
        exact hok)
    have go : ∀ K, mooringref13_May.l1 (K + 1) (i : Int) (j : Int) ep k m p d l = if q.f0 ≥ o.f0 then some false else if q.f6 = o.f6 then (if q.f7 = o.f7 then mooringref13_May.l1 K (i : Int) ((j + 1 : Nat) : Int) ep k m p d l else some false) else mooringref13_May.l1 K (i : Int) ((j + 1 : Nat) : Int) ep k m p d l := by
      intro K
      rw [mooringref13_May.l1]
      rw [if_pos (by omega), if_pos (by omega), if_pos (by omega), if_pos (by omega), if_pos (by omega), w64 (by omega) (by omega), rd_at hq, rd_at ho, show ((j : Int) + 1) = ((j + 1 : Nat) : Int) by omega]
    by_cases c1 : q.f0 ≥ o.f0
    · exact ⟨1, by rw [go 0, if_pos c1, bad (.inl c1)]⟩
    · by_cases c2 : q.f6 = o.f6
      · by_cases c3 : q.f7 = o.f7
        · obtain ⟨K, hK⟩ := recu ⟨by omega, fun _ => c3⟩
          exact ⟨K + 1, by rw [go K, if_neg c1, if_pos c2, if_pos c3, hK]⟩
        · exact ⟨1, by rw [go 0, if_neg c1, if_pos c2, if_neg c3, bad (.inr ⟨c2, c3⟩)]⟩
      · obtain ⟨K, hK⟩ := recu ⟨by omega, fun h => absurd h c2⟩
        exact ⟨K + 1, by rw [go K, if_neg c1, if_neg c2, hK]⟩
theorem l0_all (hl : l.length ≤ 64) : ∀ r i : Nat, i + r = l.length → AtA.Good l i → ∃ K, mooringref13_May.l0 K (i : Int) ep k m p d l = some (goodB l)
  | 0, i, hi, hg => by
    obtain rfl : i = l.length := by omega
    refine ⟨1, ?_⟩
    rw [mooringref13_May.l0, if_neg (by omega), goodB_yes hg]
  | r + 1, i, hi, hg => by
    have hlt : i < l.length := by omega
    have ho : l[i]? = some l[i] := List.getElem?_eq_getElem hlt
    obtain ⟨o, hoe⟩ : ∃ o, o = l[i] := ⟨_, rfl⟩
    rw [← hoe] at ho
    clear hoe
    have go : ∀ K, mooringref13_May.l0 (K + 1) (i : Int) ep k m p d l = if osdB o = true then mooringref13_May.l1 K (i : Int) 0 ep k m p d l else some false := by
      intro K
      rw [mooringref13_May.l0, if_pos (by omega), if_pos (by omega), rd_at ho, osd_eq]
      rfl
    cases h1 : osdB o with
    | false => exact ⟨1, by rw [go 0, h1, goodB_no (not_good hlt ho (.inl h1))]; rfl⟩
    | true =>
      obtain ⟨K, hK⟩ := l1_all ep k m p d hl ho h1 hg (fun hg1 => l0_all hl r (i + 1) (by omega) hg1) i 0 (by omega) (fun j' _ h => absurd h (Nat.not_lt_zero _))
      exact ⟨K + 1, by rw [go K, h1, if_pos rfl]; exact hK⟩
theorem may_eq : ∃ K, mooringref13_May.f K ep k m p d l = some (mayB ep k m p d l) := by
  unfold mooringref13_May.f mayB
  rw [within_eq, pool_eq]
  simp only [Option.bind_some]
  cases winB ep 1048576 with
  | false => exact ⟨1, rfl⟩
  | true =>
    cases poolB k m p d with
    | false => exact ⟨1, rfl⟩
    | true =>
      by_cases h : l.length ≤ 64
      · obtain ⟨K, hK⟩ := l0_all ep k m p d h l.length 0 (by omega) (fun i _ h => absurd h (Nat.not_lt_zero _))
        refine ⟨K + 1, ?_⟩
        rw [if_pos rfl, if_pos rfl, mooringref13_May.j0, decide_eq_false (show ¬ ((l.length : Int) > 64) by omega), decide_eq_true h, if_neg Bool.false_ne_true]
        exact hK
      · refine ⟨1, ?_⟩
        rw [if_pos rfl, if_pos rfl, mooringref13_May.j0, decide_eq_true (show ((l.length : Int) > 64) by omega), decide_eq_false h]
        rfl
end
theorem may_calls (ep k m p d : Int) (A : Option Addr) (c : Nat) (l : List Od) (w : World) (hx : kO.C w A l.length l) (hc : l.length ≤ c) :
    Calls Try.prog 12 #[.agg (boxM ep k m p d A c l)] w fun e w' => e = .returned (.bool (mayB ep k m p d l)) ∧ Below w.heap.size w w' := by
  obtain ⟨K, hK⟩ := may_eq ep k m p d (l := l)
  refine (mooringref13_May.calls K ep k m p d A c l _ w hx hc hK).mono ?_
  rintro e w1 ⟨rfl, hb⟩
  exact ⟨rfl, hb⟩
end Go.Proofs.Ytnpphmgibgfjoaa.MayP
