import Derived.Test.YtnpphmgibgfjoaaWWords
import Derived.ArgAppend
namespace Go.Proofs.Ytnpphmgibgfjoaa.Mem
open Go.RowKit Go.Proofs.YtnpphmgibgfjoaaW.PrintWords

/-- A row of whole numbers (element type e) of the call's own. -/
def Ow (k : IntKind) (e : Nat) (w : World) (base : Nat) (v : Value) (xs : List Int) : Prop := (Kd.int k).R e w base (fun _ => True) v xs
/-- One to which an append makes a row of the call's own: it is that already, or it has no room. -/
def Ap (k : IntKind) (e : Nat) (w : World) (base : Nat) (v : Value) (xs : List Int) : Prop := Ow k e w base v xs ∨ ∃ A, v = .slice A xs.length xs.length ∧ (Kd.int k).C w A xs.length xs
theorem Ow.below {k : IntKind} {e : Nat} {w w1 : World} {base : Nat} {v : Value} {xs : List Int} (h : Ow k e w base v xs) (hb : Below w.heap.size w w1) : Ow k e w1 base v xs := Kd.R_below h hb
theorem Ow.lower {k : IntKind} {e : Nat} {w : World} {base base' : Nat} {v : Value} {xs : List Int} (h : Ow k e w base v xs) (hb : base' ≤ base) : Ow k e w base' v xs := Kd.R_lower h hb
theorem Ow.reads {k : IntKind} {e : Nat} {w : World} {base : Nat} {v : Value} {xs : List Int} (h : Ow k e w base v xs) : ∃ A c, v = .slice A xs.length c ∧ xs.length ≤ c ∧ (Kd.int k).C w A xs.length xs := Kd.R_reads h
theorem Ow.nil (k : IntKind) (e : Nat) (w : World) (base : Nat) : Ow k e w base (.slice none 0 0) [] := Kd.R_nil _ _ _ _ _
theorem below_trans {w w1 w2 : World} {B : Nat} (h : Below B w w1) (k : Below w1.heap.size w1 w2) (hB : B ≤ w.heap.size) : Below B w w2 := below_then h (Nat.le_trans hB h.size) k
theorem Ap.slice {k : IntKind} {e : Nat} {w : World} {base : Nat} {v : Value} {xs : List Int} (h : Ap k e w base v xs) : ∃ A c, v = .slice A xs.length c ∧ xs.length ≤ c := by
  rcases h with h | ⟨A, rfl, _⟩
  · obtain ⟨A, c, rfl, hc, _⟩ := Ow.reads h; exact ⟨A, c, rfl, hc⟩
  · exact ⟨A, _, rfl, Nat.le_refl _⟩
theorem Ap.below {k : IntKind} {e : Nat} {w w1 : World} {base : Nat} {v : Value} {xs : List Int} (h : Ap k e w base v xs) (hb : Below w.heap.size w w1) : Ap k e w1 base v xs := by
  rcases h with h | ⟨A, rfl, hC⟩
  · exact .inl (h.below hb)
  · exact .inr ⟨A, rfl, Kd.C_below hC hb⟩
theorem Ap.alloc {k : IntKind} {e : Nat} {w : World} {base : Nat} {v : Value} {xs : List Int} (h : Ap k e w base v xs) (o : Obj) : Ap k e (w.alloc o) base v xs := h.below (below_alloc (Below.refl _ _) o)
theorem cells_of_C {k : IntKind} {w : World} {A : Option Addr} {n : Nat} {xs : List Int} (h : (Kd.int k).C w A n xs) (b : Addr) (hb : A = some b) : ∀ j u, (nums k xs)[j]? = some u → w.cell? (b.add j) = some u := by
  intro j u hu
  have hr : ReadsOf (Value.int k) (0 : Int) w A n xs := Kd.reads_of_C h
  have hj : j < xs.length := by
    rcases Nat.lt_or_ge j xs.length with h | h
    · exact h
    · simp [nums, List.getElem?_eq_none h] at hu
  obtain ⟨ad, e, hc⟩ := hr.2.2 (by have := hr.1; omega)
  rw [hb] at e
  injection e with e
  subst e
  have := hc j (by have := hr.1; omega)
  rw [this]
  simp [nums, List.getElem?_eq_getElem hj] at hu
  subst hu
  simp [List.getD_eq_getElem?_getD, List.getElem?_eq_getElem hj]
section
variable {P : Program} {ops : Array Oper} {rest : List Oper} {o : Oper} {a : Act} {Q : Exit → Act → World → Prop}
/-- append(v, ys...): to a row of the call's own, or to a slice without room. -/
theorem ap_append {w0 W : World} (base : Nat) (hgd : o.guard = none) (s x : Operand) (t e : TypeId) (k : IntKind) (bytes : Nat)
    (ho : o.op = .call { callee := .builtin .append, args := #[s, x], argTypes := #[t, t] })
    (ht : P.underlying t = some (.slice e)) (hinfo : (P.info? e).map (fun i => (i.zero, i.size, i.bytes)) = some (some (.int k 0), 1, bytes)) (hb0 : 0 < bytes)
    (v : Value) (xs ys : List Int) (B : Option Addr) (m c : Nat) (hs : a.eval s = v) (hx : a.eval x = .slice B m c) (hm : 0 < m)
    (HO : Ap k e W base v xs) (HR : (Kd.int k).C W B m ys) (HB : Below base w0 W) (hbase : base ≤ W.heap.size) (hl : (xs.length + m) * bytes ≤ 140737488355328)
    (h : ∀ v1 w1, Ow k e w1 base v1 (xs ++ ys) → Below base w0 w1 → W.grownBy w1 v.ownBlock ∨ W.grownBy w1 none → wpList P ops Q rest (a.put o.dst v1) w1) :
    wpList P ops Q (o :: rest) a W := by
  rcases HO with HO | ⟨A, rfl, hC⟩
  · exact Kd.R_append_rows (Kd.int k) (w0 := w0) base hgd s x t e (.int k 0) bytes ho ht hinfo rfl Nat.zero_lt_one hb0 v xs ys B m c (fun _ => True) (fun _ => False) hs hx HO HR
      (fun y cs hk => hk) (fun _ hk => hk.elim) (fun _ _ => trivial) HB hbase hl (fun v1 w1 h1 h2 h3 _ => h v1 w1 h1 h2 (.inl h3))
  · obtain ⟨i0, hi, hzz⟩ := Option.map_eq_some_iff.1 hinfo
    simp only [Prod.mk.injEq] at hzz
    obtain ⟨hz0, hz1, hz2⟩ := hzz
    have hlen : xs.length + m ≤ 140737488355328 := Nat.le_trans (Nat.le_mul_of_pos_right _ hb0) hl
    obtain ⟨ad, rfl, _⟩ := HR.2.2 hm
    have hml : ys.length = m := HR.1
    subst hml
    refine wpList_append_grows W hgd s x t ho e i0 (.int k 0) 1 bytes ht hi hz0 hz1 hz2 rfl (by omega) A xs.length xs.length (nums k xs) hs ?_ (by simp [nums]) (cells_of_C hC)
      ad _ c (nums k ys) hx (by simp [nums]) (cells_of_C HR ad rfl) (by simp [nums, Value.oneCell']) (by omega) (by simp only [maxLen]; omega) hl ?_
    · intro hA
      rcases Nat.eq_zero_or_pos xs.length with h0 | h0
      · omega
      · obtain ⟨ad, he, _⟩ := hC.2.2 h0
        rw [hA] at he; cases he
    · intro v' w' hown hg
      refine h v' w' ?_ ?_ (.inr hg)
      · refine Kd.R_lower (Kd.R_of_own (enc := Value.int k) (h1 := fun _ => rfl) ?_ (fun _ _ => trivial)) (base := W.heap.size) hbase
        simpa [encs, nums] using hown
      · exact HB.grown hg hbase (by intro k hk; cases hk)
end
/-- The cells of an owned row. -/
theorem Ow.cells {k : IntKind} {e : Nat} {w : World} {base : Nat} {v : Value} {xs : List Int} (h : Ow k e w base v xs) (hp : 0 < xs.length) : ∃ g cap, v = .slice (some ⟨g, 0, none⟩) xs.length cap ∧ xs.length ≤ cap ∧ base ≤ g ∧ g < w.heap.size ∧ ∀ i x, xs[i]? = some x → w.cell? ⟨g, i, none⟩ = some (.int k x) := by
  obtain ⟨g, cap, rfl, hb, hl, _⟩ := Kd.R_form h hp
  obtain ⟨_, hc, hC⟩ := Kd.R_reads' h
  refine ⟨g, cap, rfl, hc, hb, hl, fun i x hx => ?_⟩
  have hr : ReadsOf (Value.int k) (0 : Int) w (some ⟨g, 0, none⟩) xs.length xs := Kd.reads_of_C hC
  have hi : i < xs.length := (List.getElem?_eq_some_iff.1 hx).1
  obtain ⟨ad, e, hcell⟩ := hr.2.2 hp
  injection e with e
  subst e
  have := hcell i hi
  rw [List.getD_eq_getElem?_getD, hx] at this
  rw [show (⟨g, 0, none⟩ : Addr).add i = ⟨g, i, none⟩ by unfold Addr.add; split <;> simp_all] at this
  exact this
/-- What a slice literal of whole numbers reads as. -/
theorem C_lit {k : IntKind} {w : World} (ys : List Int) (cs : Array Value) (e : TypeId) (hc : cs.toList = nums k ys) (hy : ys.length ≤ 9223372036854775807) : (Kd.int k).C (w.alloc (.cells cs e)) (some ⟨w.heap.size, 0, none⟩) ys.length ys := by
  refine Kd.C_of_reads (d := (0 : Int)) ⟨rfl, hy, fun h => ⟨_, rfl, fun j hj => ?_⟩⟩
  have hb : (w.alloc (.cells cs e)).heap[w.heap.size]? = some (.cells cs e (0, 0)) := heap_alloc_new w _
  have e : cs.toList[j]? = some (Value.int k (ys.getD j 0)) := by
    rw [hc]
    simp [nums, List.getD_eq_getElem?_getD, List.getElem?_eq_getElem hj]
  exact World.news_of_block hb j _ e
end Go.Proofs.Ytnpphmgibgfjoaa.Mem
