import Derived.Test.YtnpphmgibgfjoaaKW
import Derived.Test.YtnpphmgibgfjoaaMixW
/- Straws, without Go. -/
namespace Go.Proofs.Ytnpphmgibgfjoaa.StrP
open Go.RowKit KW MixP MixW

def lot (x id r : Int) : Nat := (h3I x (id % 4294967296) r % 65536).toNat + 1
theorem lot_pos (x id r : Int) : lot x id r ≠ 0 := by unfold lot; omega
theorem lot_le (x id r : Int) : lot x id r ≤ 65536 := by
  unfold lot
  have : h3I x (id % 4294967296) r % 65536 < 65536 := Int.emod_lt_of_pos _ (by decide)
  omega
theorem log64 : logn 65536 = 268435456 := by decide +kernel
theorem logn_le {u : Nat} (h0 : u ≠ 0) (h : u ≤ 65536) : logn u ≤ 268435456 := by
  rw [← log64]; exact logn_mono h0 h (Nat.le_refl _)
def numer (x id r : Int) : Int := (268435456 - (logn (lot x id r) : Nat)) * 65536
theorem numer_ge (x id r : Int) : 0 ≤ numer x id r := by
  have := logn_le (lot_pos x id r) (lot_le x id r)
  unfold numer; omega
def drB (w : Wd) : Bool := decide (1 ≤ w.wt) && decide (w.wt ≤ 1073741824)
theorem drB_iff (w : Wd) : drB w = true ↔ 1 ≤ w.wt ∧ w.wt ≤ 1073741824 := by unfold drB; simp
def drV (x r : Int) (w : Wd) : Int := if drB w = true then numer x w.id r / w.wt else 0
def sstep (x r : Int) (i : Int) (w : Wd) (st : Int × Int) : Int × Int := if (drB w && (decide (st.1 < 0) || decide (drV x r w < st.2))) = true then (i, drV x r w) else st
def chs (x r : Int) : List Wd → Int → Int × Int → Int × Int
  | [], _, st => st
  | w :: l, i, st => chs x r l (i + 1) (sstep x r i w st)
def pick (x r : Int) (l : List Wd) : Int := (chs x r l 0 (-1, 0)).1
def total : List Wd → Int → Int
  | [], n => n
  | w :: l, n => total l (if drB w = true then wrap64 (n + w.wt) else n)

/-- What is known behind some: who is chosen of them. -/
def Inv (x r : Int) (p : List Wd) (st : Int × Int) : Prop :=
  (st.1 = -1 ∧ ∀ (m : Nat) (u : Wd), p[m]? = some u → drB u = false) ∨
  ∃ (n : Nat) (w : Wd), st.1 = n ∧ p[n]? = some w ∧ drB w = true ∧ st.2 = drV x r w ∧ ∀ (m : Nat) (u : Wd), p[m]? = some u → drB u = true → drV x r w ≤ drV x r u ∧ (m < n → drV x r w < drV x r u)
theorem snoc_get {α : Type} {p : List α} {w u : α} {m : Nat} (h : (p ++ [w])[m]? = some u) : p[m]? = some u ∨ (m = p.length ∧ u = w) := by
  rcases Nat.lt_trichotomy m p.length with hc | hc | hc
  · rw [List.getElem?_append_left hc] at h; exact .inl h
  · subst hc
    rw [List.getElem?_append_right (Nat.le_refl _)] at h
    simp at h
    exact .inr ⟨rfl, h.symm⟩
  · rw [List.getElem?_eq_none (by simp; omega)] at h; cases h
theorem snoc_left {α : Type} {p : List α} {w u : α} {m : Nat} (h : p[m]? = some u) : (p ++ [w])[m]? = some u := by
  rw [List.getElem?_append_left (List.getElem?_eq_some_iff.1 h).1]; exact h
theorem inv_step {x r : Int} {p : List Wd} {st : Int × Int} (h : Inv x r p st) (w : Wd) : Inv x r (p ++ [w]) (sstep x r p.length w st) := by
  unfold sstep
  cases hw : drB w with
  | false =>
    simp only [Bool.false_and, Bool.false_eq_true, if_false]
    rcases h with ⟨h1, h2⟩ | ⟨n, v, h1, h2, h3, h4, h5⟩
    · exact .inl ⟨h1, fun m u hm => by
        rcases snoc_get hm with hm | ⟨_, rfl⟩
        · exact h2 m u hm
        · exact hw⟩
    · refine .inr ⟨n, v, h1, snoc_left h2, h3, h4, fun m u hm hu => ?_⟩
      rcases snoc_get hm with hm | ⟨_, rfl⟩
      · exact h5 m u hm hu
      · rw [hw] at hu; cases hu
  | true =>
    simp only [Bool.true_and]
    rcases h with ⟨h1, h2⟩ | ⟨n, v, h1, h2, h3, h4, h5⟩
    · rw [if_pos (by rw [h1]; simp)]
      refine .inr ⟨p.length, w, rfl, by simp, hw, rfl, fun m u hm hu => ?_⟩
      rcases snoc_get hm with hm | ⟨rfl, rfl⟩
      · rw [h2 m u hm] at hu; cases hu
      · exact ⟨Int.le_refl _, fun hlt => absurd hlt (Nat.lt_irrefl _)⟩
    · have hn : ¬ st.1 < 0 := by rw [h1]; omega
      by_cases hd : drV x r w < st.2
      · rw [if_pos (by simp [hd])]
        refine .inr ⟨p.length, w, rfl, by simp, hw, rfl, fun m u hm hu => ?_⟩
        rcases snoc_get hm with hm | ⟨rfl, rfl⟩
        · have := (h5 m u hm hu).1
          rw [h4] at hd
          exact ⟨by omega, fun _ => by omega⟩
        · exact ⟨Int.le_refl _, fun hlt => absurd hlt (Nat.lt_irrefl _)⟩
      · rw [if_neg (by simp [hd]; omega)]
        refine .inr ⟨n, v, h1, snoc_left h2, h3, h4, fun m u hm hu => ?_⟩
        rcases snoc_get hm with hm | ⟨rfl, rfl⟩
        · exact h5 m u hm hu
        · rw [h4] at hd
          have hl : n < p.length := (List.getElem?_eq_some_iff.1 h2).1
          exact ⟨by omega, fun hlt => by omega⟩
theorem inv_chs {x r : Int} : ∀ (s p : List Wd) (st : Int × Int), Inv x r p st → Inv x r (p ++ s) (chs x r s p.length st)
  | [], p, st, h => by rw [List.append_nil]; exact h
  | w :: s, p, st, h => by
    have := inv_chs s (p ++ [w]) _ (inv_step h w)
    rw [List.append_assoc] at this
    have e : ((p ++ [w]).length : Int) = (p.length : Int) + 1 := by simp
    rw [e] at this
    exact this
theorem pick_inv (x r : Int) (l : List Wd) : Inv x r l (chs x r l 0 (-1, 0)) := by
  have := inv_chs (x := x) (r := r) l [] (-1, 0) (.inl ⟨rfl, fun m u h => by simp at h⟩)
  simpa using this
/-- Who is chosen. -/
def Best (x r : Int) (l : List Wd) (a : Int) : Prop :=
  (a = -1 ∧ ∀ (m : Nat) (u : Wd), l[m]? = some u → drB u = false) ∨
  ∃ (n : Nat) (w : Wd), a = n ∧ l[n]? = some w ∧ drB w = true ∧ ∀ (m : Nat) (u : Wd), l[m]? = some u → drB u = true → drV x r w ≤ drV x r u ∧ (m < n → drV x r w < drV x r u)
theorem pick_best (x r : Int) (l : List Wd) : Best x r l (pick x r l) := by
  rcases pick_inv x r l with ⟨h1, h2⟩ | ⟨n, v, h1, h2, h3, _, h5⟩
  · exact .inl ⟨h1, h2⟩
  · exact .inr ⟨n, v, h1, h2, h3, h5⟩
theorem best_range {x r : Int} {l : List Wd} {a : Int} (h : Best x r l a) : -1 ≤ a ∧ a < l.length := by
  rcases h with ⟨h1, _⟩ | ⟨n, v, h1, h2, _⟩
  · omega
  · have := (List.getElem?_eq_some_iff.1 h2).1
    omega
theorem set_get {l : List Wd} {i m : Nat} {w u : Wd} (h : (l.set i w)[m]? = some u) (hne : m ≠ i) : l[m]? = some u := by
  rwa [List.getElem?_set_ne (Ne.symm hne)] at h
theorem get_set {l : List Wd} {i m : Nat} {w u : Wd} (h : l[m]? = some u) (hne : m ≠ i) : (l.set i w)[m]? = some u := by
  rwa [List.getElem?_set_ne (Ne.symm hne)]
/-- Only what must moves. -/
theorem moves {x r : Int} {l : List Wd} {i : Nat} {w : Wd} {a b : Int} (ha : Best x r l a) (hb : Best x r (l.set i w) b) : a = b ∨ a = i ∨ b = i := by
  rcases ha with ⟨h1, h2⟩ | ⟨n, v, h1, h2, h3, h5⟩
  · rcases hb with ⟨k1, k2⟩ | ⟨m, u, k1, k2, k3, k5⟩
    · exact .inl (by omega)
    · by_cases hm : m = i
      · exact .inr (.inr (by omega))
      · rw [h2 m u (set_get k2 hm)] at k3; cases k3
  · by_cases hn : n = i
    · exact .inr (.inl (by omega))
    rcases hb with ⟨k1, k2⟩ | ⟨m, u, k1, k2, k3, k5⟩
    · rw [k2 n v (get_set h2 hn)] at h3; cases h3
    · by_cases hm : m = i
      · exact .inr (.inr (by omega))
      · have c1 := h5 m u (set_get k2 hm) k3
        have c2 := k5 n v (get_set h2 hn) h3
        rcases Nat.lt_trichotomy n m with hc | hc | hc
        · have := c2.2 hc; omega
        · exact .inl (by omega)
        · have := c1.2 hc; omega
def weight (w : Wd) : Int := if drB w = true then w.wt else 0
theorem drV_mono {x r id a b : Int} (h1 : 1 ≤ a) (h2 : a ≤ b) (h3 : b ≤ 1073741824) : drV x r ⟨id, b⟩ ≤ drV x r ⟨id, a⟩ := by
  have e1 : drB ⟨id, a⟩ = true := (drB_iff _).2 ⟨h1, by show a ≤ _; omega⟩
  have e2 : drB ⟨id, b⟩ = true := (drB_iff _).2 ⟨by show 1 ≤ b; omega, h3⟩
  unfold drV
  rw [if_pos e1, if_pos e2]
  show numer x id r / b ≤ numer x id r / a
  have hn := numer_ge x id r
  have := Int.ediv_mul_le (numer x id r) (b := b) (by omega)
  rw [Int.le_ediv_iff_mul_le (by omega)]
  have hq : 0 ≤ numer x id r / b := Int.ediv_nonneg hn (by omega)
  have : numer x id r / b * a ≤ numer x id r / b * b := Int.mul_le_mul_of_nonneg_left h2 hq
  omega
theorem grows {x r : Int} {l : List Wd} {i : Nat} {w : Wd} {nw : Int} {a b : Int} (hi : l[i]? = some w) (ha : Best x r l a) (hb : Best x r (l.set i ⟨w.id, nw⟩) b) :
    (weight w ≤ weight ⟨w.id, nw⟩ → a = i → b = i) ∧ (weight ⟨w.id, nw⟩ ≤ weight w → a ≠ i → b ≠ i) := by
  have hil : i < l.length := (List.getElem?_eq_some_iff.1 hi).1
  have hi' : (l.set i ⟨w.id, nw⟩)[i]? = some ⟨w.id, nw⟩ := by simp [hil]
  constructor
  · intro hw hai
    rcases ha with ⟨h1, _⟩ | ⟨n, v, h1, h2, h3, h5⟩
    · omega
    obtain rfl : n = i := by omega
    rw [hi] at h2
    obtain rfl := Option.some.inj h2
    have hb1 := (drB_iff w).1 h3
    have hb2 : drB ⟨w.id, nw⟩ = true := by
      cases h : drB ⟨w.id, nw⟩ with
      | true => rfl
      | false => simp only [weight, h, h3] at hw; simp at hw; omega
    have hle : w.wt ≤ nw := by simpa [weight, hb2, h3] using hw
    have hm := drV_mono (x := x) (r := r) (id := w.id) hb1.1 hle ((drB_iff _).1 hb2).2
    rcases hb with ⟨k1, k2⟩ | ⟨m, u, k1, k2, k3, k5⟩
    · rw [k2 n _ hi'] at hb2; cases hb2
    · by_cases hne : m = n
      · omega
      · have c1 := h5 m u (set_get k2 hne) k3
        have c2 := k5 n _ hi' hb2
        have e : drV x r ⟨w.id, w.wt⟩ = drV x r w := rfl
        rcases Nat.lt_trichotomy n m with hc | hc | hc
        · have := c2.2 hc; omega
        · omega
        · have := c1.2 hc; omega
  · intro hw hai hbi
    apply hai
    rcases hb with ⟨k1, _⟩ | ⟨m, u, k1, k2, k3, k5⟩
    · omega
    obtain rfl : m = i := by omega
    rw [hi'] at k2
    obtain rfl := Option.some.inj k2
    have hb1 : 1 ≤ nw ∧ nw ≤ 1073741824 := (drB_iff _).1 k3
    have hb2 : drB w = true := by
      cases h : drB w with
      | true => rfl
      | false => simp only [weight, h, k3] at hw; simp at hw; omega
    have hle : nw ≤ w.wt := by simpa [weight, hb2, k3] using hw
    have hm := drV_mono (x := x) (r := r) (id := w.id) hb1.1 hle ((drB_iff _).1 hb2).2
    have e : drV x r ⟨w.id, w.wt⟩ = drV x r w := rfl
    rcases ha with ⟨h1, h2⟩ | ⟨n, v, h1, h2, h3, h5⟩
    · rw [h2 m _ hi] at hb2; cases hb2
    · by_cases hne : n = m
      · omega
      · have c1 := h5 m w hi hb2
        have c2 := k5 n v (get_set h2 hne) h3
        rcases Nat.lt_trichotomy n m with hc | hc | hc
        · have := c2.2 hc; omega
        · omega
        · have := c1.2 hc; omega
/-- The order does not matter, if no two draw alike. -/
theorem orders {x r : Int} {l : List Wd} {a b : Int} (ha : Best x r l a) (hb : Best x r l.reverse b)
    (hd : ∀ (m n : Nat) (u v : Wd), l[m]? = some u → l[n]? = some v → drB u = true → drB v = true → drV x r u = drV x r v → m = n) :
    if a < 0 ∨ b < 0 then a = b else a = l.length - 1 - b := by
  have rev : ∀ m, m < l.length → l.reverse[m]? = l[l.length - 1 - m]? := fun m hm => List.getElem?_reverse hm
  rcases ha with ⟨h1, h2⟩ | ⟨n, v, h1, h2, h3, h5⟩
  · rw [if_pos (by omega)]
    rcases hb with ⟨k1, k2⟩ | ⟨m, u, k1, k2, k3, k5⟩
    · omega
    · have hm : m < l.length := by have := (List.getElem?_eq_some_iff.1 k2).1; simpa using this
      rw [rev m hm] at k2
      rw [h2 _ _ k2] at k3; cases k3
  · have hn : n < l.length := (List.getElem?_eq_some_iff.1 h2).1
    have hrn : l.reverse[l.length - 1 - n]? = some v := by
      rw [rev _ (by omega), show l.length - 1 - (l.length - 1 - n) = n from by omega]; exact h2
    rcases hb with ⟨k1, k2⟩ | ⟨m, u, k1, k2, k3, k5⟩
    · rw [k2 _ _ hrn] at h3; cases h3
    · have hm : m < l.length := by have := (List.getElem?_eq_some_iff.1 k2).1; simpa using this
      rw [if_neg (by omega)]
      rw [rev m hm] at k2
      have c1 := (h5 _ u k2 k3).1
      have c2 := (k5 _ v hrn h3).1
      have := hd _ _ u v k2 h2 k3 h3 (by omega)
      omega
end Go.Proofs.Ytnpphmgibgfjoaa.StrP
