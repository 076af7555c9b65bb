import Derived.Test.YtffmhbblcihogaaPeerP
/- What a new primary takes as the state: the laws, on plain lists. -/
namespace Go.Proofs.Ytffmhbblcihogaa.PeerP
open Go.RowKit Go.Proofs.YtffmhbblcihogaaW.PrintWords PAll
/-- An info as it lies in a slice: A, c are where its list lies. -/
structure Ie where
  x : In
  A : Option Addr
  c : Nat
def told (x : Iv) : List Int → List Ie → List Ie
  | _, [] => []
  | met, i :: r => if cnt x i.x = true ∧ i.x.osd ∉ met then i :: told x (i.x.osd :: met) r else told x met r
def heads (x : Iv) (t : List Ie) : List Int := t.filterMap fun i => hasO x i.x
def sorted (l : List Int) : List Int := l.mergeSort fun a b => decide (a ≤ b)
def reach (x : Iv) (H : Int) (i : Ie) : Bool := match hasO x i.x with | some h => decide (h ≥ H) | none => false
structure Ch where
  kind : Int
  since : Int
  head : Int
  n : Nat
def headOf (x : Iv) (t : List Ie) (k : Nat) : Int := (sorted (heads x t)).getD ((heads x t).length - k) 0
def stateOf (x : Iv) (t : List Ie) (k : Nat) : Ch := ⟨3, x.fr, headOf x t k, (t.filter (reach x (headOf x t k))).length⟩
def anyLacks (x : Iv) (t : List Ie) : Bool := t.any fun i => lacks x i.x
def choose (infos : List Ie) (k : Nat) : List Iv → Ch
  | [] => ⟨2, 0, 0, 0⟩
  | x :: r => if (k : Int) ≤ many x.act then
      (if k ≤ (heads x (told x [] infos)).length then stateOf x (told x [] infos) k
       else if anyLacks x (told x [] infos) = true then choose infos k r else ⟨1, 0, 0, 0⟩)
    else choose infos k r
def falls : List Iv → Bool
  | x :: y :: r => decide (y.fr < x.fr) && falls (y :: r)
  | _ => true
theorem told_mem (x : Iv) : ∀ (l : List Ie) (met : List Int) (i : Ie), i ∈ told x met l → i ∈ l ∧ cnt x i.x = true
  | [], _, _, h => by simp [told] at h
  | j :: r, met, i, h => by
    simp only [told] at h
    split at h
    · rename_i hc
      rcases List.mem_cons.1 h with rfl | h
      · exact ⟨List.mem_cons_self, hc.1⟩
      · obtain ⟨a, b⟩ := told_mem x r _ i h
        exact ⟨List.mem_cons_of_mem _ a, b⟩
    · obtain ⟨a, b⟩ := told_mem x r _ i h
      exact ⟨List.mem_cons_of_mem _ a, b⟩
theorem told_append (x : Iv) : ∀ (l more : List Ie) (met : List Int), ∃ met', told x met (l ++ more) = told x met l ++ told x met' more
  | [], more, met => ⟨met, rfl⟩
  | j :: r, more, met => by
    simp only [List.cons_append, told]
    split
    · obtain ⟨m, h⟩ := told_append x r more (j.x.osd :: met)
      exact ⟨m, by rw [h]; rfl⟩
    · exact told_append x r more met
theorem told_len (x : Iv) : ∀ (l : List Ie) (met : List Int), (told x met l).length ≤ l.length
  | [], _ => Nat.le_refl _
  | j :: r, met => by
    simp only [told]
    split
    · have := told_len x r (j.x.osd :: met); simp only [List.length_cons]; omega
    · have := told_len x r met; simp only [List.length_cons]; omega
theorem sorted_mem (l : List Int) (j : Nat) (h : j < l.length) : (sorted l).getD j 0 ∈ l := by
  have hp := List.mergeSort_perm l (fun a b => decide (a ≤ b))
  have hl : (sorted l).length = l.length := hp.length_eq
  rw [List.getD_eq_getElem?_getD, List.getElem?_eq_getElem (by omega)]
  exact hp.mem_iff.1 (List.getElem_mem _)
theorem sorted_len (l : List Int) : (sorted l).length = l.length := (List.mergeSort_perm l (fun a b => decide (a ≤ b))).length_eq
theorem heads_len (x : Iv) (t : List Ie) : (heads x t).length ≤ t.length := List.length_filterMap_le _ _
theorem headOf_mem (x : Iv) (t : List Ie) (k : Nat) (h1 : 1 ≤ k) (h : k ≤ (heads x t).length) : headOf x t k ∈ heads x t := sorted_mem _ _ (by omega)
theorem reach_some (x : Iv) (t : List Ie) (k : Nat) (h1 : 1 ≤ k) (h : k ≤ (heads x t).length) : 0 < (t.filter (reach x (headOf x t k))).length := by
  obtain ⟨i, hi, e⟩ := List.mem_filterMap.1 (headOf_mem x t k h1 h)
  refine List.length_pos_of_mem (a := i) (List.mem_filter.2 ⟨hi, ?_⟩)
  have e' : hasO x i.x = some (headOf x t k) := e
  simp [reach, e']
theorem falls_tail {x : Iv} {r : List Iv} (h : falls (x :: r) = true) : falls r = true := by
  cases r with
  | nil => rfl
  | cons y r => simp only [falls, Bool.and_eq_true] at h; exact h.2
theorem falls_lt : ∀ {r : List Iv} {x y : Iv}, falls (x :: r) = true → y ∈ r → y.fr < x.fr
  | [], _, _, _, h => by cases h
  | z :: r, x, y, h, hy => by
    have h' := h
    simp only [falls, Bool.and_eq_true, decide_eq_true_eq] at h
    rcases List.mem_cons.1 hy with rfl | hy
    · exact h.1
    · have := falls_lt (falls_tail h') hy
      omega
theorem has_all {x : Iv} {head : Int} {t : List Ie} (h : ∀ i ∈ t, cnt x i.x = true ∧ i.x.now = x.fr ∧ head ≤ i.x.head) : anyLacks x t = false ∧ ∀ a ∈ heads x t, head ≤ a := by
  have hh : ∀ i ∈ t, hasO x i.x = some i.x.head := by
    intro i hi
    obtain ⟨a, b, _⟩ := h i hi
    unfold hasO
    rw [if_pos a, if_pos b]
  constructor
  · unfold anyLacks
    rw [List.any_eq_false]
    intro i hi
    unfold lacks
    rw [hh i hi]
    simp
  · intro a ha
    obtain ⟨i, hi, e⟩ := List.mem_filterMap.1 ha
    have e' : hasO x i.x = some a := e
    rw [hh i hi] at e'
    obtain rfl := Option.some.inj e'
    exact (h i hi).2.2
/-- What was done is not lost. -/
theorem keeps (infos : List Ie) (k : Nat) (hk : 1 ≤ k) (head : Int) : ∀ (l : List Iv) (n : Nat) (x : Iv), falls l = true → l[n]? = some x → (k : Int) ≤ many x.act → (∀ i ∈ infos, cnt x i.x = true → i.x.now = x.fr ∧ head ≤ i.x.head) →
    (choose infos k l).kind = 1 ∨ ((choose infos k l).kind = 3 ∧ (x.fr < (choose infos k l).since ∨ (choose infos k l).since = x.fr ∧ head ≤ (choose infos k l).head))
  | [], n, x, _, h, _, _ => by simp at h
  | y :: r, 0, x, hf, h, hm, hi => by
    obtain rfl : y = x := by simpa using h
    have ht : ∀ i ∈ told y [] infos, cnt y i.x = true ∧ i.x.now = y.fr ∧ head ≤ i.x.head := by
      intro i hh
      obtain ⟨a, b⟩ := told_mem y infos [] i hh
      exact ⟨b, hi i a b⟩
    obtain ⟨h1, h2⟩ := has_all ht
    simp only [choose]
    rw [if_pos hm]
    by_cases h3 : k ≤ (heads y (told y [] infos)).length
    · rw [if_pos h3]
      exact .inr ⟨rfl, .inr ⟨rfl, h2 _ (headOf_mem _ _ _ hk h3)⟩⟩
    · rw [if_neg h3, h1]
      exact .inl rfl
  | y :: r, n + 1, x, hf, h, hm, hi => by
    have h' : r[n]? = some x := by simpa using h
    have hlt := falls_lt hf (List.mem_of_getElem? h')
    have ih := keeps infos k hk head r n x (falls_tail hf) h' hm hi
    simp only [choose]
    split
    · split
      · exact .inr ⟨rfl, .inl hlt⟩
      · split
        · exact ih
        · exact .inl rfl
    · exact ih
theorem choose_since (infos : List Ie) (k : Nat) : ∀ (l : List Iv), (choose infos k l).kind = 3 → ∃ z ∈ l, (choose infos k l).since = z.fr
  | [], h => by simp [choose] at h
  | y :: r, h => by
    have ih := choose_since infos k r
    simp only [choose] at h ⊢
    split at h
    · rename_i h1
      rw [if_pos h1]
      split at h
      · rename_i h2
        rw [if_pos h2]
        exact ⟨y, List.mem_cons_self, rfl⟩
      · rename_i h2
        rw [if_neg h2]
        split at h
        · rename_i h3
          rw [if_pos h3]
          obtain ⟨z, hz, e⟩ := ih h
          exact ⟨z, List.mem_cons_of_mem _ hz, e⟩
        · simp at h
    · rename_i h1
      rw [if_neg h1]
      obtain ⟨z, hz, e⟩ := ih h
      exact ⟨z, List.mem_cons_of_mem _ hz, e⟩
/-- Infos more never lead back. -/
theorem moreInfos (infos more : List Ie) (k : Nat) : ∀ (l : List Iv), falls l = true → (choose infos k l).kind = 3 → (choose (infos ++ more) k l).kind = 3 ∧ (choose infos k l).since ≤ (choose (infos ++ more) k l).since
  | [], _, h => by simp [choose] at h
  | y :: r, hf, h => by
    have ih := moreInfos infos more k r (falls_tail hf)
    obtain ⟨m, hm⟩ := told_append y infos more []
    have hs := choose_since infos k r
    have e1 : heads y (told y [] (infos ++ more)) = heads y (told y [] infos) ++ heads y (told y m more) := by
      rw [hm]; exact List.filterMap_append
    have e2 : anyLacks y (told y [] (infos ++ more)) = (anyLacks y (told y [] infos) || anyLacks y (told y m more)) := by
      rw [hm]; exact List.any_append
    have step : ∀ c : Ch, (choose infos k r).kind = 3 → (if k ≤ (heads y (told y [] (infos ++ more))).length then stateOf y (told y [] (infos ++ more)) k else choose (infos ++ more) k r) = c → c.kind = 3 ∧ (choose infos k r).since ≤ c.since := by
      intro c h5 hc
      split at hc
      · subst hc
        obtain ⟨z, hz, e⟩ := hs h5
        have := falls_lt hf hz
        exact ⟨rfl, by rw [e]; show z.fr ≤ y.fr; omega⟩
      · subst hc
        exact ih h5
    simp only [choose] at h ⊢
    by_cases h1 : (k : Int) ≤ many y.act
    · rw [if_pos h1] at h
      rw [if_pos h1, if_pos h1]
      by_cases h2 : k ≤ (heads y (told y [] infos)).length
      · rw [if_pos h2, if_pos (by rw [e1, List.length_append]; omega)]
        exact ⟨rfl, Int.le_refl _⟩
      · rw [if_neg h2] at h
        rw [if_neg h2]
        by_cases h3 : anyLacks y (told y [] infos) = true
        · rw [if_pos h3] at h
          rw [if_pos h3, e2, h3, if_pos (Bool.true_or _)]
          exact step _ h rfl
        · rw [if_neg h3] at h; simp at h
    · rw [if_neg h1] at h
      rw [if_neg h1, if_neg h1]
      exact ih h
/-- Is nothing taken for the state? -/
def emptyB (infos : List Ie) (k : Nat) (x : Iv) : Bool := !(decide ((k : Int) ≤ many x.act)) || (anyLacks x (told x [] infos) && decide ((heads x (told x [] infos)).length < k))
theorem empties (infos : List Ie) (k : Nat) : ∀ (l : List Iv), ((choose infos k l).kind == 2) = l.all (emptyB infos k)
  | [] => rfl
  | y :: r => by
    have ih := empties infos k r
    simp only [choose, List.all_cons, emptyB]
    by_cases h1 : (k : Int) ≤ many y.act
    · rw [if_pos h1]
      by_cases h2 : k ≤ (heads y (told y [] infos)).length
      · rw [if_pos h2]
        have h4 : decide ((heads y (told y [] infos)).length < k) = false := decide_eq_false (by omega)
        rw [h4]
        simp [stateOf, h1]
      · rw [if_neg h2]
        by_cases h3 : anyLacks y (told y [] infos) = true
        · rw [if_pos h3, ih]
          simp [h1, h3, Nat.lt_of_not_le h2]
        · rw [if_neg h3]
          simp only [Bool.not_eq_true] at h3
          simp [h1, h3]
    · rw [if_neg h1, ih]
      simp [h1]
end Go.Proofs.Ytffmhbblcihogaa.PeerP
