import Derived.Test.YtnpphmgibgfjoaaPAllx0
import Derived.Test.YtnpphmgibgfjoaaStrP
/- Descents through racks, hosts and OSDs, on plain lists. -/
namespace Go.Proofs.Ytnpphmgibgfjoaa.CrP
open Go.RowKit Go.Proofs.YtnpphmgibgfjoaaW.PrintWords KW MixP MixW StrP PAll
abbrev Od := S40
def keyN (lv : Nat) (o : Od) : Int := if lv = 1 then o.f7 else if lv = 2 then o.f6 else o.f0
def wOf (o : Od) : Int := if o.f2 = true then o.f3 else 0
def ins (k w : Int) : List Wd → List Wd
  | [] => [⟨k, w⟩]
  | u :: r => if k < u.id then ⟨k, w⟩ :: u :: r else if u.id = k then ⟨u.id, u.wt + w⟩ :: r else u :: ins k w r
def groupF (lv : Nat) (g : List Wd) (l : List Od) : List Wd := l.foldl (fun g o => ins (keyN lv o) (wOf o) g) g
def group (lv : Nat) (l : List Od) : List Wd := groupF lv [] l
def getW (g : List Wd) (k : Int) : Option Int := (g.find? fun u => u.id == k).map (·.wt)
def Up : List Wd → Prop
  | [] => True
  | u :: r => (∀ v ∈ r, u.id < v.id) ∧ Up r
theorem ins_ids (k w : Int) : ∀ (g : List Wd) (v : Wd), v ∈ ins k w g → v.id = k ∨ ∃ u ∈ g, u.id = v.id
  | [], v, h => by
    rcases List.mem_singleton.1 h with rfl
    exact .inl rfl
  | u :: r, v, h => by
    simp only [ins] at h
    split at h
    · rcases List.mem_cons.1 h with rfl | h
      · exact .inl rfl
      · exact .inr ⟨v, h, rfl⟩
    · split at h
      · rcases List.mem_cons.1 h with rfl | h
        · exact .inr ⟨u, List.mem_cons_self, rfl⟩
        · exact .inr ⟨v, List.mem_cons_of_mem _ h, rfl⟩
      · rcases List.mem_cons.1 h with rfl | h
        · exact .inr ⟨v, List.mem_cons_self, rfl⟩
        · rcases ins_ids k w r v h with h | ⟨z, hz, e⟩
          · exact .inl h
          · exact .inr ⟨z, List.mem_cons_of_mem _ hz, e⟩
theorem ins_up (k w : Int) : ∀ (g : List Wd), Up g → Up (ins k w g)
  | [], _ => ⟨fun v h => absurd h List.not_mem_nil, trivial⟩
  | u :: r, h => by
    simp only [ins]
    split
    · rename_i hk
      refine ⟨fun v hv => ?_, h⟩
      rcases List.mem_cons.1 hv with rfl | hv
      · exact hk
      · have := h.1 v hv; show k < v.id; omega
    · split
      · exact ⟨h.1, h.2⟩
      · rename_i h1 h2
        refine ⟨fun v hv => ?_, ins_up k w r h.2⟩
        rcases ins_ids k w r v hv with e | ⟨z, hz, e⟩
        · omega
        · have := h.1 z hz; omega
theorem getW_none {g : List Wd} {k : Int} (h : ∀ v ∈ g, v.id ≠ k) : getW g k = none := by
  unfold getW
  rw [List.find?_eq_none.2 (fun v hv => by have := h v hv; simp [this])]
  rfl
theorem getW_cons (u : Wd) (r : List Wd) (k : Int) : getW (u :: r) k = if u.id = k then some u.wt else getW r k := by
  unfold getW
  rw [List.find?_cons]
  by_cases h : u.id = k
  · simp [h]
  · rw [beq_eq_false_iff_ne.2 h, if_neg h]
theorem getW_ins (k w : Int) : ∀ (g : List Wd), Up g → ∀ j, getW (ins k w g) j = if j = k then some ((getW g k).getD 0 + w) else getW g j
  | [], _, j => by
    simp only [ins]
    rw [getW_cons]
    by_cases h : j = k
    · subst h; simp [getW]
    · rw [if_neg (fun e => h e.symm), if_neg h]
  | u :: r, hu, j => by
    simp only [ins]
    split
    · rename_i hk
      have hn : getW (u :: r) k = none := getW_none (fun v hv => by
        rcases List.mem_cons.1 hv with rfl | hv
        · omega
        · have := hu.1 v hv; omega)
      rw [getW_cons]
      by_cases h : j = k
      · subst h; rw [if_pos rfl, if_pos rfl, hn]; simp
      · rw [if_neg (fun e => h e.symm), if_neg h]
    · split
      · rename_i h1 h2
        rw [getW_cons, getW_cons, getW_cons]
        by_cases h : j = k
        · subst h; simp [h2]
        · rw [if_neg h, if_neg (by rw [h2]; exact fun e => h e.symm), if_neg (by rw [h2]; exact fun e => h e.symm)]
      · rename_i h1 h2
        rw [getW_cons, getW_cons, getW_cons, getW_ins k w r hu.2 j]
        by_cases h : j = k
        · subst h; rw [if_neg h2, if_pos rfl, if_pos rfl, if_neg h2]
        · rw [if_neg h, if_neg h]
theorem group_up (lv : Nat) : ∀ (l : List Od) (g : List Wd), Up g → Up (groupF lv g l)
  | [], _, h => h
  | _ :: r, g, h => group_up lv r _ (ins_up _ _ g h)
theorem groupF_snoc (lv : Nat) (g : List Wd) (l : List Od) (o : Od) : groupF lv g (l ++ [o]) = ins (keyN lv o) (wOf o) (groupF lv g l) := by
  unfold groupF
  rw [List.foldl_append]
  rfl
theorem getW_mem {g : List Wd} (hu : Up g) (v : Wd) : v ∈ g ↔ getW g v.id = some v.wt := by
  induction g with
  | nil => simp [getW]
  | cons u r ih =>
    rw [getW_cons]
    by_cases h : u.id = v.id
    · rw [if_pos h]
      constructor
      · intro hv
        rcases List.mem_cons.1 hv with rfl | hv
        · rfl
        · have := hu.1 v hv; omega
      · intro e
        have e := Option.some.inj e
        have : u = v := by cases u; cases v; simp at h e; rw [h, e]
        rw [this]; exact List.mem_cons_self
    · rw [if_neg h, ← ih hu.2]
      constructor
      · intro hv
        rcases List.mem_cons.1 hv with rfl | hv
        · exact absurd rfl h
        · exact hv
      · exact List.mem_cons_of_mem _
/-- Two rising lists of the same ones are one. -/
theorem up_unique : ∀ {g h : List Wd}, Up g → Up h → (∀ v, v ∈ g ↔ v ∈ h) → g = h
  | [], [], _, _, _ => rfl
  | [], u :: r, _, _, e => absurd ((e u).2 List.mem_cons_self) List.not_mem_nil
  | u :: r, [], _, _, e => absurd ((e u).1 List.mem_cons_self) List.not_mem_nil
  | u :: r, v :: s, hg, hh, e => by
    have huv : u = v := by
      have h1 := (e u).1 List.mem_cons_self
      have h2 := (e v).2 List.mem_cons_self
      rcases List.mem_cons.1 h1 with h1 | h1
      · exact h1
      · rcases List.mem_cons.1 h2 with h2 | h2
        · exact h2.symm
        · have a := hh.1 u h1
          have b := hg.1 v h2
          omega
    subst huv
    rw [up_unique hg.2 hh.2 (fun z => ⟨fun hz => ?_, fun hz => ?_⟩)]
    · rcases List.mem_cons.1 ((e z).1 (List.mem_cons_of_mem _ hz)) with h1 | h1
      · subst h1; have := hg.1 z hz; omega
      · exact h1
    · rcases List.mem_cons.1 ((e z).2 (List.mem_cons_of_mem _ hz)) with h1 | h1
      · subst h1; have := hh.1 z hz; omega
      · exact h1
/-- The weight of a number. -/
def sumK (lv : Nat) (k : Int) : List Od → Int
  | [] => 0
  | o :: r => (if keyN lv o = k then wOf o else 0) + sumK lv k r
theorem getW_groupF (lv : Nat) : ∀ (l : List Od) (g : List Wd), Up g → ∀ k, getW (groupF lv g l) k = if (getW g k).isSome = true ∨ (∃ o ∈ l, keyN lv o = k) then some ((getW g k).getD 0 + sumK lv k l) else none
  | [], g, _, k => by
    show getW g k = _
    cases h : getW g k with
    | none => rw [if_neg (by simp)]
    | some z => rw [if_pos (by simp)]; simp [sumK]
  | o :: r, g, hu, k => by
    show getW (groupF lv (ins (keyN lv o) (wOf o) g) r) k = _
    rw [getW_groupF lv r _ (ins_up _ _ g hu) k, getW_ins _ _ g hu]
    by_cases h : keyN lv o = k
    · subst h
      rw [if_pos rfl, if_pos (by simp), if_pos (.inr ⟨o, List.mem_cons_self, rfl⟩)]
      simp only [sumK, if_pos, Option.getD_some]
      rw [Int.add_assoc]
    · rw [show (if k = keyN lv o then some ((getW g (keyN lv o)).getD 0 + wOf o) else getW g k) = getW g k from if_neg (fun e => h e.symm)]
      simp only [sumK, if_neg h, Int.zero_add]
      by_cases h2 : (getW g k).isSome = true ∨ ∃ o ∈ r, keyN lv o = k
      · rw [if_pos h2, if_pos]
        rcases h2 with h2 | ⟨z, hz, e⟩
        · exact .inl h2
        · exact .inr ⟨z, List.mem_cons_of_mem _ hz, e⟩
      · rw [if_neg h2, if_neg]
        rintro (h3 | ⟨z, hz, e⟩)
        · exact h2 (.inl h3)
        · rcases List.mem_cons.1 hz with rfl | hz
          · exact h e
          · exact h2 (.inr ⟨z, hz, e⟩)
theorem group_mem (lv : Nat) (l : List Od) (v : Wd) : v ∈ group lv l ↔ (∃ o ∈ l, keyN lv o = v.id) ∧ v.wt = sumK lv v.id l := by
  show v ∈ groupF lv [] l ↔ _
  rw [getW_mem (group_up lv l [] trivial), getW_groupF lv l [] trivial]
  have e0 : getW [] v.id = none := rfl
  rw [e0]
  by_cases h : ∃ o ∈ l, keyN lv o = v.id
  · rw [if_pos (.inr h)]
    simp only [Option.getD_none, Int.zero_add, Option.some.injEq]
    exact ⟨fun e => ⟨h, e.symm⟩, fun e => e.2.symm⟩
  · rw [if_neg (by rintro (h3 | h3); · cases h3
                   · exact h h3)]
    exact ⟨fun e => (by cases e), fun e => absurd e.1 h⟩
/-- One step down. -/
def lvl (x r : Int) (lv : Nat) (l : List Od) : Option (List Od) :=
  if pick (h2I x lv) r (group lv l) < 0 then none else some (l.filter fun o => decide (keyN lv o = ((group lv l).getD (pick (h2I x lv) r (group lv l)).toNat ⟨0, 0⟩).id))
def desc (x r : Int) (l : List Od) : Option Od := (((lvl x r 1 l).bind (lvl x r 2)).bind (lvl x r 3)).bind List.head?
def tries (l : List Od) (x want place : Int) (lv : Nat) (taken : List Int) : Nat → Nat → Option Od
  | 0, _ => none
  | m + 1, t => match desc x (place + t * want) l with
    | some o => if keyN lv o ∈ taken then tries l x want place lv taken m (t + 1) else some o
    | none => tries l x want place lv taken m (t + 1)
def places (l : List Od) (x want : Int) (lv : Nat) : Nat → Nat → List Int → List Int
  | 0, _, _ => []
  | m + 1, p, taken => match tries l x want p lv taken 50 0 with
    | some o => o.f0 :: places l x want lv m (p + 1) (keyN lv o :: taken)
    | none => -1 :: places l x want lv m (p + 1) taken
def room (lv : Nat) (l : List Od) : Nat := ((group lv l).filter fun u => decide (0 < u.wt)).length
/-! ### what a step leaves -/
theorem lvl_some {x r : Int} {lv : Nat} {l l' : List Od} (h : lvl x r lv l = some l') : ∃ v ∈ group lv l, drB v = true ∧ l' = l.filter fun o => decide (keyN lv o = v.id) := by
  unfold lvl at h
  split at h
  · cases h
  · rename_i hp
    have hb := pick_best (h2I x lv) r (group lv l)
    have hr := best_range hb
    obtain ⟨n, hn⟩ := Int.eq_ofNat_of_zero_le (show 0 ≤ pick (h2I x lv) r (group lv l) by omega)
    have hlt : n < (group lv l).length := by omega
    have hd : drB (group lv l)[n] = true := by
      rcases hb with ⟨e, _⟩ | ⟨m, v, e, hv, hd, _⟩
      · omega
      · have : m = n := by omega
        subst this
        rw [List.getElem?_eq_getElem hlt] at hv
        rw [Option.some.inj hv]; exact hd
    refine ⟨(group lv l)[n], List.getElem_mem hlt, hd, ?_⟩
    have e := (Option.some.inj h).symm
    rw [hn] at e
    rw [e, show ((n : Nat) : Int).toNat = n from rfl, List.getD_eq_getElem?_getD, List.getElem?_eq_getElem hlt]
    rfl
end Go.Proofs.Ytnpphmgibgfjoaa.CrP
