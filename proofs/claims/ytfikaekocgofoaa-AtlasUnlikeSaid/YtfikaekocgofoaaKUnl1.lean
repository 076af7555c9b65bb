import Derived.Test.YtfikaekocgofoaaRows
import Derived.Test.YtfikaekocgofoaaWWords
import Derived.SizedLaws
import Derived.ChangeArms
import Derived.Deep.Slices
import Derived.ArgAppend
import Derived.Test.YtfikaekocgofoaaProg
import Derived.WalkKit
import Derived.WalkSpells
import Derived.Lib.Hide
import Derived.Deep.DeepMust
import Derived.BigQuiet
import Derived.Deep.RegionWith
import Derived.WalkLawsBesides
import Derived.Lib.LazyBuf
import Derived.Test.YtfikaekocgofoaaPAllx0
import Derived.Deep.RegionHeld3
import Derived.Lib.QuietBelow
import Derived.IntWalk
import Derived.Maps.OwnOps
import Derived.Maps.OwnSet
import Derived.Maps.Views
/- Merged texts, one behind the other: Open, Mem, WireP, UvW, Put, AtA. -/
/- How an argument that is read as data is told by a kind of the words: what a row's proof needs of each type. -/
namespace Go.Proofs.Ytfikaekocgofoaa.Opns
open Go.RowKit Go.Proofs.YtfikaekocgofoaaW.PrintWords Go.Deep

theorem one_le {H : Type} (d : DataW H) : 1 ≤ Rows.uptoBulk d := by
  cases d with
  | lit l => cases l <;> simp [Rows.uptoBulk]
  | nil => simp [Rows.uptoBulk]
  | ptr d => simp [Rows.uptoBulk]
  | slice elems spare => simp [Rows.uptoBulk]
  | agg parts => simp [Rows.uptoBulk]
  | iface t d => simp [Rows.uptoBulk]
  | map entries => simp [Rows.uptoBulk]
  | held h => simp [Rows.uptoBulk]
theorem mem_all {H : Type} {P : Program} {e : TypeId} {x : DataW H} {n : Nat} : ∀ {xs : List (DataW H)}, x ∈ xs → n ∈ x.weights P e → n ∈ DataW.weightsAll P e xs
  | [], hx, _ => by cases hx
  | y :: r, hx, hn => by
    simp only [DataW.weightsAll, List.mem_append]
    rcases List.mem_cons.1 hx with rfl | hx
    · exact .inl hn
    · exact .inr (mem_all hx hn)

/-- What is read at type t is of kind d: good, and of no more bulk than its reading. -/
structure Opens {α : Type} (t : TypeId) (d : Kd α) (good : α → Prop) (bulk : α → Nat) : Prop where
  out : ∀ {H : Type} (enc : TypeId × Value → H) (w : World) (fuel : Nat) (cs : List Value) (y : DataW H) (ps : List MemPlace),
    DataW.trod enc Try.prog w 0 (fun _ => true) true fuel t cs = some (y, ps) → (∀ m ∈ y.weights Try.prog t, m ≤ reachBytes) → ∃ x, d.K w x cs ∧ good x ∧ bulk x ≤ Rows.uptoBulk y

theorem Opens.imp {α : Type} {t : TypeId} {d : Kd α} {good good' : α → Prop} {bulk bulk' : α → Nat} (h : Opens t d good bulk) (hg : ∀ x, good x → good' x) (hb : ∀ x, bulk' x ≤ bulk x) : Opens t d good' bulk' := by
  refine ⟨?_⟩
  intro H enc w fuel cs y ps h1 hw
  obtain ⟨x, a, b, c⟩ := h.out enc w fuel cs y ps h1 hw
  exact ⟨x, a, hg x b, Nat.le_trans (hb x) c⟩
theorem opens_int {t : TypeId} {k : IntKind} (ht : Try.prog.underlying t = some (.int k)) : Opens t (Kd.int k) (fun n => (Lit.int k n).wf = true) (fun _ => 1) := by
  refine ⟨?_⟩
  intro H enc w fuel cs y ps h _
  obtain ⟨n, rfl, hx, hw⟩ := DataW.trod_int ht h
  exact ⟨n, rfl, hw, one_le _⟩
theorem opens_bool {t : TypeId} (ht : Try.prog.underlying t = some .bool) : Opens t Kd.bool (fun _ => True) (fun _ => 1) := by
  refine ⟨?_⟩
  intro H enc w fuel cs y ps h _
  obtain ⟨n, rfl, hx⟩ := DataW.trod_bool ht h
  exact ⟨n, rfl, trivial, one_le _⟩
def lbulk {α : Type} (b : α → Nat) (xs : List α) : Nat := (xs.map b).foldr (· + ·) 0
theorem lbulk_cons {α : Type} (b : α → Nat) (x : α) (xs : List α) : lbulk b (x :: xs) = b x + lbulk b xs := rfl
theorem lbulk_le {α : Type} {H : Type} (b : α → Nat) : ∀ (xs : List α) (ys : List (DataW H)), xs.length = ys.length → (∀ (i : Nat) (x : α) (y : DataW H), xs[i]? = some x → ys[i]? = some y → b x ≤ Rows.uptoBulk y) → lbulk b xs ≤ Rows.uptoBulkAll ys
  | [], _, _, _ => by simp [lbulk]
  | x :: xs, [], h, _ => by simp at h
  | x :: xs, y :: ys, h, k => by
    rw [lbulk_cons]
    simp only [Rows.uptoBulkAll]
    have h1 := k 0 x y rfl rfl
    have h2 := lbulk_le b xs ys (by simpa using h) (fun i a c ha hc => k (i + 1) a c (by simpa using ha) (by simpa using hc))
    omega
theorem opens_slice {α : Type} [Inhabited α] {t e : TypeId} {d : Kd α} {good : α → Prop} {bulk : α → Nat} {B : Nat} (ht : Try.prog.underlying t = some (.slice e)) (hc : Try.prog.cellsOf e = d.sz) (hB : Try.prog.bytesOf e = B) (he : Opens e d good bulk) :
    Opens t (Kd.slice e d) (fun xs => (∀ x ∈ xs, good x) ∧ xs.length * B ≤ reachBytes) (fun xs => lbulk bulk xs + 1) := by
  refine ⟨?_⟩
  intro H enc w fuel cs y ps h hw
  rcases open_slice ht h with ⟨rfl, hx⟩ | ⟨a, len, cap, m, n, D, Pl, rfl, _, hl, hm, hmm, hx, hel⟩
  · obtain ⟨rfl, rfl⟩ := Prod.mk.inj hx
    exact ⟨[], ⟨none, 0, rfl, Nat.le_refl _, rfl, Nat.zero_le _, fun h0 => absurd h0 (Nat.lt_irrefl 0)⟩, ⟨fun x hx => (List.not_mem_nil hx).elim, by show ([] : List α).length * B ≤ _; rw [List.length_nil, Nat.zero_mul]; exact Nat.zero_le _⟩, one_le _⟩
  · have e1 : y = _ := congrArg Prod.fst hx
    clear hx
    subst e1
    have hlm : len ≤ m := by rw [hmm]; exact hl
    have hws : ∀ i, i < len → ∀ q ∈ (D i).weights Try.prog e, q ≤ reachBytes := by
      intro i hi q hq
      refine hw q ?_
      simp only [DataW.weights, ht, List.mem_cons, List.mem_append]
      exact .inr (.inl (mem_all (List.mem_map.2 ⟨i, List.mem_range.2 hi, rfl⟩) hq))
    obtain ⟨X, hX⟩ := choose_lt (α := α) (n := len) (p := fun i x => ∃ cs', w.cells? 0 (a.add (i * Try.prog.cellsOf e)) (Try.prog.cellsOf e) = some cs' ∧ d.K w x cs' ∧ good x ∧ bulk x ≤ Rows.uptoBulk (D i)) (fun i hi => by
      obtain ⟨cs', h1, h2⟩ := hel i (by omega)
      obtain ⟨x, h3, h4, h5⟩ := he.out enc w n cs' (D i) (Pl i) h2 (hws i hi)
      exact ⟨x, cs', h1, h3, h4, h5⟩)
    have hlen : ((List.range len).map X).length = len := by simp
    refine ⟨(List.range len).map X, ⟨some a, cap, by rw [hlen], by rw [hlen]; exact hl, hlen.trans hlen.symm, by rw [hlen]; unfold maxLen at hm; omega, fun _ => ⟨a, rfl, fun j p hj => ?_⟩⟩, ⟨fun x hx => ?_, ?_⟩, ?_⟩
    · have hj' : j < len := by
        have := (List.getElem?_eq_some_iff.1 hj).1
        simpa using this
      obtain ⟨cs', h1, h3, _, _⟩ := hX j hj'
      have hp : p = X j := by simp [hj'] at hj; exact hj.symm
      subst hp
      obtain ⟨_, hcl, hcell⟩ := World.cells?_some h1
      rw [hc] at hcl hcell
      refine ⟨cs', hcl, h3, fun i u hu => ?_⟩
      have hi : i < d.sz := by rw [← hcl]; exact (List.getElem?_eq_some_iff.1 hu).1
      have := hcell i hi
      rw [hu, Go.Deep.add_add] at this
      exact this
    · obtain ⟨i, hi, rfl⟩ := List.mem_map.1 hx
      exact (hX i (List.mem_range.1 hi)).choose_spec.2.2.1
    · rw [hlen]
      have := hw ((((List.range len).map D).length + ((List.range (m - len)).map fun j => D (len + j)).length) * Try.prog.bytesOf e) (by simp only [DataW.weights, ht]; exact List.mem_cons_self)
      rw [hB] at this
      refine Nat.le_trans (Nat.mul_le_mul_right _ ?_) this
      simp
    · have := lbulk_le (H := H) bulk ((List.range len).map X) ((List.range len).map D) (by simp) (fun i x y hx hy => by
        have hi : i < len := by
          have := (List.getElem?_eq_some_iff.1 hx).1
          simpa using this
        simp [hi] at hx hy
        rw [← hx, ← hy]
        exact (hX i hi).choose_spec.2.2.2)
      simp only [Rows.uptoBulk]
      omega
/-- Fields in line, from a place on. -/
structure OpensF {α : Type} (fs : List Field) (off : Nat) (d : Kd α) (good : α → Prop) (bulk : α → Nat) : Prop where
  out : ∀ {H : Type} (enc : TypeId × Value → H) (w : World) (n : Nat) (cs : List Value) (xs : List (DataW H × List MemPlace)), cs.length = off + d.sz → xs.length = fs.length →
    (∀ (i : Nat) (f : Field), fs[i]? = some f → DataW.trod enc Try.prog w 0 (fun _ => true) true n f.type ((cs.drop f.offset).take (Try.prog.cellsOf f.type)) = xs[i]?) →
    (∀ m ∈ DataW.weightsEach Try.prog (fs.map (·.type)) (xs.map (·.1)), m ≤ reachBytes) → ∃ x, d.K w x (cs.drop off) ∧ good x ∧ bulk x ≤ Rows.uptoBulkAll (xs.map (·.1))
theorem opensF_one {α : Type} {f : Field} {d : Kd α} {good : α → Prop} {bulk : α → Nat} (hc : Try.prog.cellsOf f.type = d.sz) (he : Opens f.type d good bulk) : OpensF [f] f.offset d good bulk := by
  refine ⟨?_⟩
  intro H enc w n cs xs hl hxl hx hw
  obtain ⟨⟨y, ps⟩, rfl⟩ : ∃ x, xs = [x] := by
    match xs, hxl with
    | [x], _ => exact ⟨x, rfl⟩
  have h1 := hx 0 f rfl
  have hcut : (cs.drop f.offset).take (Try.prog.cellsOf f.type) = cs.drop f.offset := List.take_of_length_le (by rw [List.length_drop, hc]; omega)
  rw [hcut] at h1
  obtain ⟨x, k1, k2, k3⟩ := he.out enc w n _ y ps h1 (fun m hm => hw m (by simp [DataW.weightsEach]; exact hm))
  exact ⟨x, k1, k2, by simp only [List.map_cons, List.map_nil, Rows.uptoBulkAll]; omega⟩
theorem opensF_cons {α β : Type} {f : Field} {fs : List Field} {off : Nat} {d : Kd α} {d2 : Kd β} {good : α → Prop} {good2 : β → Prop} {bulk : α → Nat} {bulk2 : β → Nat} (hc : Try.prog.cellsOf f.type = d.sz) (ho : off = f.offset + d.sz)
    (he : Opens f.type d good bulk) (hf : OpensF fs off d2 good2 bulk2) : OpensF (f :: fs) f.offset (Kd.pair d d2) (fun x => good x.1 ∧ good2 x.2) (fun x => bulk x.1 + bulk2 x.2) := by
  refine ⟨?_⟩
  intro H enc w n cs xs hl hxl hx hw
  obtain ⟨⟨y, ps⟩, r, rfl⟩ : ∃ x r, xs = x :: r := by
    match xs, hxl with
    | x :: r, _ => exact ⟨x, r, rfl⟩
  have hl' : cs.length = f.offset + (d.sz + d2.sz) := hl
  have h1 := hx 0 f rfl
  rw [hc] at h1
  obtain ⟨x, k1, k2, k3⟩ := he.out enc w n _ y ps h1 (fun m hm => hw m (by simp only [List.map_cons, DataW.weightsEach, List.mem_append]; exact .inl hm))
  obtain ⟨x2, j1, j2, j3⟩ := hf.out enc w n cs r (by omega) (by simpa using hxl) (fun i g hg => by have := hx (i + 1) g (by simpa using hg); simpa using this)
    (fun m hm => hw m (by simp only [List.map_cons, DataW.weightsEach, List.mem_append]; exact .inr hm))
  refine ⟨(x, x2), ⟨_, _, ?_, k1, j1⟩, ⟨k2, j2⟩, by simp only [List.map_cons, Rows.uptoBulkAll]; omega⟩
  rw [ho, ← List.drop_drop]
  exact (List.take_append_drop d.sz (cs.drop f.offset)).symm
theorem opens_struct {α β : Type} {t : TypeId} {fs : Array Field} {d : Kd α} {good : α → Prop} {bulk : α → Nat} {g : β → α} {gi : α → β} (hg : ∀ x, g (gi x) = x) (ht : Try.prog.underlying t = some (.struct fs)) (hc : Try.prog.cellsOf t = d.sz)
    (hf : OpensF fs.toList 0 d good bulk) : Opens t (Kd.iso d g) (fun x => good (g x)) (fun x => bulk (g x) + 1) := by
  refine ⟨?_⟩
  intro H enc w fuel cs y ps h hw
  obtain ⟨xs, n, rfl, hx, hl, hxl, hel⟩ := DataW.trod_struct ht h
  obtain ⟨rfl, rfl⟩ := Prod.mk.inj hx
  obtain ⟨x, k1, k2, k3⟩ := hf.out enc w n cs xs (by rw [hl, hc]; omega) (by simpa using hxl) (fun i f hi => hel i f (by simpa using hi)) (fun m hm => hw m (by simp only [DataW.weights, ht]; exact hm))
  refine ⟨gi x, ?_, by show good (g (gi x)); rw [hg]; exact k2, by show bulk (g (gi x)) + 1 ≤ _; rw [hg]; simp only [Rows.uptoBulk]; omega⟩
  show d.K w (g (gi x)) cs
  rw [hg]
  exact k1
theorem two_of {α : Type} : ∀ {xs : List α}, xs.length = 2 → ∃ a b, xs = [a, b]
  | [a, b], _ => ⟨a, b, rfl⟩
  | [], h => by simp at h
  | [_], h => by simp at h
  | _ :: _ :: _ :: _, h => by simp at h
/-- An array of two. -/
theorem opens_array2 {α : Type} {t e : TypeId} {d : Kd α} {good : α → Prop} {bulk : α → Nat} (ht : Try.prog.underlying t = some (.array 2 e)) (hc : Try.prog.cellsOf t = d.sz + d.sz) (he : Try.prog.cellsOf e = d.sz)
    (h1 : Opens e d good bulk) : Opens t (Kd.pair d d) (fun x => good x.1 ∧ good x.2) (fun x => bulk x.1 + bulk x.2 + 1) := by
  refine ⟨?_⟩
  intro H enc w fuel cs y ps h hw
  cases fuel with
  | zero => simp [DataW.trod] at h
  | succ m =>
    unfold DataW.trod at h
    rw [ht] at h
    simp only at h
    split at h
    · rename_i hl
      obtain ⟨xs, hxs, hx⟩ := Option.map_eq_some_iff.1 h
      have e1 := (congrArg Prod.fst hx).symm
      clear hx
      subst e1
      have hlen := mapM_some_length hxs
      have g0 := mapM_some_get hxs 0 0 rfl
      have g1 := mapM_some_get hxs 1 1 rfl
      obtain ⟨⟨y0, p0⟩, ⟨y1, p1⟩, rfl⟩ := two_of (xs := xs) (by simpa using hlen)
      rw [hc] at hl
      rw [he, Nat.zero_mul] at g0
      rw [he, Nat.one_mul] at g1
      simp only [DataW.weights, ht, DataW.weightsAll, List.map_cons, List.map_nil, List.mem_append] at hw
      obtain ⟨x0, a1, a2, a3⟩ := h1.out enc w m _ y0 p0 g0 (fun q hq => hw q (.inl hq))
      obtain ⟨x1, b1, b2, b3⟩ := h1.out enc w m _ y1 p1 g1 (fun q hq => hw q (.inr (.inl hq)))
      rw [List.take_of_length_le (by rw [List.length_drop]; omega)] at b1
      refine ⟨(x0, x1), ⟨_, _, ?_, a1, b1⟩, ⟨a2, b2⟩, by simp only [Rows.uptoBulk, List.map_cons, List.map_nil, Rows.uptoBulkAll]; omega⟩
      exact (List.take_append_drop d.sz cs).symm
    · cases h
end Go.Proofs.Ytfikaekocgofoaa.Opns
namespace Go.Proofs.Ytfikaekocgofoaa.Opns
open Go.RowKit Go.Proofs.YtfikaekocgofoaaW.PrintWords Go.Deep
theorem okw_struct {P : Program} {w : World} {r : Reach} {base : Nat} {t : TypeId} {v : Value} {fs : Array Field} (ht : P.underlying t = some (.struct fs)) (h : Value.okWide P w r base t v) : ∃ cs, v = .agg cs := by
  simp only [Value.okWide, ht] at h
  obtain ⟨cs, rfl, _⟩ := h
  exact ⟨cs, rfl⟩
theorem okw_array {P : Program} {w : World} {r : Reach} {base : Nat} {t e : TypeId} {n : Nat} {v : Value} (ht : P.underlying t = some (.array n e)) (h : Value.okWide P w r base t v) : ∃ cs, v = .agg cs := by
  simp only [Value.okWide, ht] at h
  obtain ⟨cs, rfl, _⟩ := h
  exact ⟨cs, rfl⟩
section
variable {H : Type} {enc : TypeId × Value → H} {W : World} {t : TypeId} {y : DataW H} {ps : List MemPlace}
theorem arg_agg {α : Type} {d : Kd α} {good : α → Prop} {bulk : α → Nat} {cs : Array Value} (ho : Opens t d good bulk)
    (h : DataW.Trod enc Try.prog W 0 (fun _ => true) true t (.agg cs) y ps) (hw : ∀ m ∈ y.weights Try.prog t, m ≤ reachBytes) :
    ∃ x : α, d.K W x cs.toList ∧ good x ∧ bulk x ≤ Rows.uptoBulk y := by
  obtain ⟨fuel, hf⟩ := h
  exact ho.out enc W fuel _ y ps hf hw
theorem weigh {ts : List TypeId} {ds : List (DataW H)} {j : Nat} (hsz : (DataW.weightsEach Try.prog ts ds).all (· ≤ reachBytes) = true) (ht : ts[j]? = some t) (hd : ds[j]? = some y) : ∀ m ∈ y.weights Try.prog t, m ≤ reachBytes := by
  intro m hm
  have := List.all_eq_true.1 hsz m (DataW.weights_mem_each ht hd m hm)
  exact of_decide_eq_true this
end
end Go.Proofs.Ytfikaekocgofoaa.Opns
namespace Go.Proofs.Ytfikaekocgofoaa.Mem
open Go.RowKit Go.Proofs.YtfikaekocgofoaaW.PrintWords

/-- A row of whole numbers (element type e) of the call's own. -/
def Ow (k : IntKind) (e : Nat) (w : World) (base : Nat) (v : Value) (xs : List Int) : Prop := (Kd.int k).R e w base (fun _ => True) v xs
/-- One to which an append makes a row of the call's own: it is that already, or it has no room. -/
def Ap (k : IntKind) (e : Nat) (w : World) (base : Nat) (v : Value) (xs : List Int) : Prop := Ow k e w base v xs ∨ ∃ A, v = .slice A xs.length xs.length ∧ (Kd.int k).C w A xs.length xs
theorem Ow.below {k : IntKind} {e : Nat} {w w1 : World} {base : Nat} {v : Value} {xs : List Int} (h : Ow k e w base v xs) (hb : Below w.heap.size w w1) : Ow k e w1 base v xs := Kd.R_below h hb
theorem Ow.lower {k : IntKind} {e : Nat} {w : World} {base base' : Nat} {v : Value} {xs : List Int} (h : Ow k e w base v xs) (hb : base' ≤ base) : Ow k e w base' v xs := Kd.R_lower h hb
theorem Ow.reads {k : IntKind} {e : Nat} {w : World} {base : Nat} {v : Value} {xs : List Int} (h : Ow k e w base v xs) : ∃ A c, v = .slice A xs.length c ∧ xs.length ≤ c ∧ (Kd.int k).C w A xs.length xs := Kd.R_reads h
theorem Ow.nil (k : IntKind) (e : Nat) (w : World) (base : Nat) : Ow k e w base (.slice none 0 0) [] := Kd.R_nil _ _ _ _ _
theorem Ap.slice {k : IntKind} {e : Nat} {w : World} {base : Nat} {v : Value} {xs : List Int} (h : Ap k e w base v xs) : ∃ A c, v = .slice A xs.length c ∧ xs.length ≤ c := by
  rcases h with h | ⟨A, rfl, _⟩
  · obtain ⟨A, c, rfl, hc, _⟩ := Ow.reads h; exact ⟨A, c, rfl, hc⟩
  · exact ⟨A, _, rfl, Nat.le_refl _⟩
theorem Ap.below {k : IntKind} {e : Nat} {w w1 : World} {base : Nat} {v : Value} {xs : List Int} (h : Ap k e w base v xs) (hb : Below w.heap.size w w1) : Ap k e w1 base v xs := by
  rcases h with h | ⟨A, rfl, hC⟩
  · exact .inl (h.below hb)
  · exact .inr ⟨A, rfl, Kd.C_below hC hb⟩
theorem Ap.alloc {k : IntKind} {e : Nat} {w : World} {base : Nat} {v : Value} {xs : List Int} (h : Ap k e w base v xs) (o : Obj) : Ap k e (w.alloc o) base v xs := h.below (below_alloc (Below.refl _ _) o)
theorem cells_of_C {k : IntKind} {w : World} {A : Option Addr} {n : Nat} {xs : List Int} (h : (Kd.int k).C w A n xs) (b : Addr) (hb : A = some b) : ∀ j u, (nums k xs)[j]? = some u → w.cell? (b.add j) = some u := by
  intro j u hu
  have hr : ReadsOf (Value.int k) (0 : Int) w A n xs := Kd.reads_of_C h
  have hj : j < xs.length := by
    rcases Nat.lt_or_ge j xs.length with h | h
    · exact h
    · simp [nums, List.getElem?_eq_none h] at hu
  obtain ⟨ad, e, hc⟩ := hr.2.2 (by have := hr.1; omega)
  rw [hb] at e
  injection e with e
  subst e
  have := hc j (by have := hr.1; omega)
  rw [this]
  simp [nums, List.getElem?_eq_getElem hj] at hu
  subst hu
  simp [List.getD_eq_getElem?_getD, List.getElem?_eq_getElem hj]
section
variable {P : Program} {ops : Array Oper} {rest : List Oper} {o : Oper} {a : Act} {Q : Exit → Act → World → Prop}
/-- append(v, ys...): to a row of the call's own, or to a slice without room. -/
theorem ap_append {w0 W : World} (base : Nat) (hgd : o.guard = none) (s x : Operand) (t e : TypeId) (k : IntKind) (bytes : Nat)
    (ho : o.op = .call { callee := .builtin .append, args := #[s, x], argTypes := #[t, t] })
    (ht : P.underlying t = some (.slice e)) (hinfo : (P.info? e).map (fun i => (i.zero, i.size, i.bytes)) = some (some (.int k 0), 1, bytes)) (hb0 : 0 < bytes)
    (v : Value) (xs ys : List Int) (B : Option Addr) (m c : Nat) (hs : a.eval s = v) (hx : a.eval x = .slice B m c) (hm : 0 < m)
    (HO : Ap k e W base v xs) (HR : (Kd.int k).C W B m ys) (HB : Below base w0 W) (hbase : base ≤ W.heap.size) (hl : (xs.length + m) * bytes ≤ 140737488355328)
    (h : ∀ v1 w1, Ow k e w1 base v1 (xs ++ ys) → Below base w0 w1 → W.grownBy w1 v.ownBlock ∨ W.grownBy w1 none → wpList P ops Q rest (a.put o.dst v1) w1) :
    wpList P ops Q (o :: rest) a W := by
  rcases HO with HO | ⟨A, rfl, hC⟩
  · exact Kd.R_append_rows (Kd.int k) (w0 := w0) base hgd s x t e (.int k 0) bytes ho ht hinfo rfl Nat.zero_lt_one hb0 v xs ys B m c (fun _ => True) (fun _ => False) hs hx HO HR
      (fun y cs hk => hk) (fun _ hk => hk.elim) (fun _ _ => trivial) HB hbase hl (fun v1 w1 h1 h2 h3 _ => h v1 w1 h1 h2 (.inl h3))
  · obtain ⟨i0, hi, hzz⟩ := Option.map_eq_some_iff.1 hinfo
    simp only [Prod.mk.injEq] at hzz
    obtain ⟨hz0, hz1, hz2⟩ := hzz
    have hlen : xs.length + m ≤ 140737488355328 := Nat.le_trans (Nat.le_mul_of_pos_right _ hb0) hl
    obtain ⟨ad, rfl, _⟩ := HR.2.2 hm
    have hml : ys.length = m := HR.1
    subst hml
    refine wpList_append_grows W hgd s x t ho e i0 (.int k 0) 1 bytes ht hi hz0 hz1 hz2 rfl (by omega) A xs.length xs.length (nums k xs) hs ?_ (by simp [nums]) (cells_of_C hC)
      ad _ c (nums k ys) hx (by simp [nums]) (cells_of_C HR ad rfl) (by simp [nums, Value.oneCell']) (by omega) (by simp only [maxLen]; omega) hl ?_
    · intro hA
      rcases Nat.eq_zero_or_pos xs.length with h0 | h0
      · omega
      · obtain ⟨ad, he, _⟩ := hC.2.2 h0
        rw [hA] at he; cases he
    · intro v' w' hown hg
      refine h v' w' ?_ ?_ (.inr hg)
      · refine Kd.R_lower (Kd.R_of_own (enc := Value.int k) (h1 := fun _ => rfl) ?_ (fun _ _ => trivial)) (base := W.heap.size) hbase
        simpa [encs, nums] using hown
      · exact HB.grown hg hbase (by intro k hk; cases hk)
end
/-- The cells of an owned row. -/
theorem Ow.cells {k : IntKind} {e : Nat} {w : World} {base : Nat} {v : Value} {xs : List Int} (h : Ow k e w base v xs) (hp : 0 < xs.length) : ∃ g cap, v = .slice (some ⟨g, 0, none⟩) xs.length cap ∧ xs.length ≤ cap ∧ base ≤ g ∧ g < w.heap.size ∧ ∀ i x, xs[i]? = some x → w.cell? ⟨g, i, none⟩ = some (.int k x) := by
  obtain ⟨g, cap, rfl, hb, hl, _⟩ := Kd.R_form h hp
  obtain ⟨_, hc, hC⟩ := Kd.R_reads' h
  refine ⟨g, cap, rfl, hc, hb, hl, fun i x hx => ?_⟩
  have hr : ReadsOf (Value.int k) (0 : Int) w (some ⟨g, 0, none⟩) xs.length xs := Kd.reads_of_C hC
  have hi : i < xs.length := (List.getElem?_eq_some_iff.1 hx).1
  obtain ⟨ad, e, hcell⟩ := hr.2.2 hp
  injection e with e
  subst e
  have := hcell i hi
  rw [List.getD_eq_getElem?_getD, hx] at this
  rw [show (⟨g, 0, none⟩ : Addr).add i = ⟨g, i, none⟩ by unfold Addr.add; split <;> simp_all] at this
  exact this
/-- What a slice literal of whole numbers reads as. -/
theorem C_lit {k : IntKind} {w : World} (ys : List Int) (cs : Array Value) (e : TypeId) (hc : cs.toList = nums k ys) (hy : ys.length ≤ 9223372036854775807) : (Kd.int k).C (w.alloc (.cells cs e)) (some ⟨w.heap.size, 0, none⟩) ys.length ys := by
  refine Kd.C_of_reads (d := (0 : Int)) ⟨rfl, hy, fun h => ⟨_, rfl, fun j hj => ?_⟩⟩
  have hb : (w.alloc (.cells cs e)).heap[w.heap.size]? = some (.cells cs e (0, 0)) := heap_alloc_new w _
  have e : cs.toList[j]? = some (Value.int k (ys.getD j 0)) := by
    rw [hc]
    simp [nums, List.getD_eq_getElem?_getD, List.getElem?_eq_getElem hj]
  exact World.news_of_block hb j _ e
end Go.Proofs.Ytfikaekocgofoaa.Mem
/- The bytes of numbers. -/
namespace Go.Proofs.Ytfikaekocgofoaa.WireP
/-- A number's bytes, little-endian, seven bits each. -/
def uv (n : Nat) : List Int := if n < 128 then [(n : Int)] else (((n % 128 : Nat) : Int) + 128) :: uv (n / 128)
termination_by n
theorem uv_lt {n : Nat} (h : n < 128) : uv n = [(n : Int)] := by rw [uv, if_pos h]
theorem uv_ge {n : Nat} (h : 128 ≤ n) : uv n = (((n % 128 : Nat) : Int) + 128) :: uv (n / 128) := by rw [uv, if_neg (by omega)]
theorem uv_pos (n : Nat) : 0 < (uv n).length := by
  rw [uv]
  split <;> simp
theorem uv_len (k n : Nat) (h : n < 128 ^ k) (hk : 0 < k) : (uv n).length ≤ k := by
  induction k generalizing n with
  | zero => omega
  | succ k ih =>
    rcases Nat.lt_or_ge n 128 with h1 | h1
    · rw [uv_lt h1]; simp
    · rw [uv_ge h1]
      have hk : 0 < k := by
        rcases Nat.eq_zero_or_pos k with rfl | h2
        · simp at h; omega
        · exact h2
      have := ih (n / 128) (by rw [Nat.pow_succ] at h; omega) hk
      simp; omega
theorem uv_len10 {n : Nat} (h : n < 18446744073709551616) : (uv n).length ≤ 10 := uv_len 10 n (by omega) (by omega)
end Go.Proofs.Ytfikaekocgofoaa.WireP
namespace Go.Proofs.Ytfikaekocgofoaa.WireP
theorem uv_first {q : Nat} {c : Int} {t : List Int} (h : uv q <+: c :: t) : (q < 128 ∧ c = q) ∨ (128 ≤ q ∧ c = ((q % 128 : Nat) : Int) + 128 ∧ uv (q / 128) <+: t) := by
  rcases Nat.lt_or_ge q 128 with h1 | h1
  · rw [uv_lt h1, List.cons_prefix_cons] at h
    exact .inl ⟨h1, h.1.symm⟩
  · rw [uv_ge h1, List.cons_prefix_cons] at h
    exact .inr ⟨h1, h.1.symm, h.2⟩
structure PkI (ys : List Int) (k acc : Nat) : Prop where
  k9 : k ≤ 9
  lt : acc < 128 ^ k
  len : k ≤ ys.length
  up : ∀ m, 1 ≤ m → uv (acc + m * 128 ^ k) = ys.take k ++ uv m
  any : ∀ m, m < 18446744073709551616 → uv m <+: ys → ∃ q, m = acc + q * 128 ^ k ∧ uv m = ys.take k ++ uv q ∧ (0 < k → 1 ≤ q)
/-- No code begins another: what is read is what was written. -/
theorem uv_prefix : ∀ (a b : Nat) (t : List Int), uv a <+: uv b ++ t → a = b := by
  intro a
  induction a using Nat.strongRecOn with
  | ind a ih =>
    intro b t h
    rcases Nat.lt_or_ge b 128 with h1 | h1
    · rw [uv_lt h1] at h
      rcases uv_first (c := (b : Int)) h with ⟨h2, h3⟩ | ⟨h2, h3, _⟩ <;> omega
    · rw [uv_ge h1] at h
      rcases uv_first h with ⟨h2, h3⟩ | ⟨h2, h3, h4⟩
      · omega
      · have := ih (a / 128) (by omega) (b / 128) t h4
        omega
end Go.Proofs.Ytfikaekocgofoaa.WireP
/- A number's bytes: the program's, the document's. -/
namespace Go.Proofs.Ytfikaekocgofoaa.UvW
open Go.RowKit Go.Proofs.YtfikaekocgofoaaW.PrintWords Mem WireP
abbrev BK : Kd Int := Kd.int .u8
theorem info5 : (Try.prog.info? 5).map (fun i => (i.zero, i.size, i.bytes)) = some (some (.int .u8 0), 1, 1) := by kernel_rfl
theorem own_calls (A : Option Addr) (n c : Nat) (w : World) (h : n ≤ c) :
    Calls Try.prog 83 #[.slice A n c] w fun e w' => e = .returned (.slice A n n) ∧ w = w' := by
  go_enter Try.func83, Try.ntmps83
  go_wp2
  go_ret
  exact ⟨rfl, rfl⟩
theorem or128' : ∀ k : Fin 256, Go.bits .or .u8 ((k.1 : Nat) : Int) 128 = ((k.1 : Nat) : Int) % 128 + 128 := by decide +kernel
theorem or128 (m : Int) : Go.bits .or .u8 (m % 256) 128 = m % 128 + 128 := by
  obtain ⟨k, hk⟩ := Int.eq_ofNat_of_zero_le (Int.emod_nonneg m (b := 256) (by decide))
  have := or128' ⟨k, by omega⟩
  simp only at this
  rw [hk]
  rw [show m % 128 = (k : Int) % 128 by omega]
  exact this
/-- The loop's state: what was written, the number that is left. -/
def UvI (xs : List Int) (n : Nat) (ys : List Int) (m : Int) : Prop := 0 ≤ m ∧ ys ++ uv m.toNat = xs ++ uv n
theorem uvI_more {xs ys : List Int} {n : Nat} {m : Int} (h : UvI xs n ys m) (hm : 128 ≤ m) : UvI xs n (ys ++ [m % 128 + 128]) (m / 128) := by
  refine ⟨by have := h.1; omega, ?_⟩
  rw [← h.2, uv_ge (n := m.toNat) (by omega), List.append_assoc]
  have e1 : ((m.toNat % 128 : Nat) : Int) = m % 128 := by omega
  have e2 : m.toNat / 128 = (m / 128).toNat := by omega
  rw [e1, e2]; rfl
theorem uvI_done {xs ys : List Int} {n : Nat} {m : Int} (h : UvI xs n ys m) (hm : m < 128) : ys ++ [m] = xs ++ uv n := by
  rw [← h.2, uv_lt (n := m.toNat) (by omega)]
  have := h.1
  rw [show ((m.toNat : Nat) : Int) = m by omega]
theorem uvI_len {xs ys : List Int} {n : Nat} {m : Int} (h : UvI xs n ys m) : ys.length + 1 ≤ xs.length + (uv n).length := by
  have := congrArg List.length h.2
  have := uv_pos m.toNat
  simp only [List.length_append] at *
  omega
set_option maxHeartbeats 400000 in
theorem uvarint_calls (A : Option Addr) (c : Nat) (xs : List Int) (n : Int) (w : World) (hc : xs.length ≤ c) (hx : BK.C w A xs.length xs) (hn : 0 ≤ n ∧ n < 18446744073709551616) (hl : xs.length + 10 ≤ 140737488355328) :
    Calls Try.prog 69 #[.slice A xs.length c, .int .u64 n] w fun e w' => ∃ v, e = .returned v ∧ Ow .u8 5 w' w.heap.size v (xs ++ uv n.toNat) ∧ Below w.heap.size w w' := by
  have HC := Lib.hid hx
  have HL : Hid (xs.length + (uv n.toNat).length ≤ 140737488355328) := Lib.hid (by have := uv_len10 (n := n.toNat) (by omega); omega)
  have HI : Hid (UvI xs n.toNat xs n) := Lib.hid ⟨hn.1, rfl⟩
  clear hx hn hl
  go_enter Try.func69, Try.ntmps69
  go_wp2_with fail
  refine (own_calls _ _ _ _ hc).mono ?_
  rintro e w' ⟨rfl, rfl⟩
  clear hc
  go_wp2_with fail
  go_loopw [0, 1] (fun v n' wr => ∃ (ni : Int) (ys : List Int), n' = .int .u64 ni ∧ Hid (Ap .u8 5 wr w.heap.size v ys) ∧ Hid (UvI xs n.toNat ys ni) ∧ Hid (Below w.heap.size w wr)) (fun _ n' _ => (intOf n').toNat)
  case atStart => exact ⟨_, _, rfl, Lib.hid (.inr ⟨_, rfl, HC.out⟩), HI, Lib.hid (Below.refl _ _)⟩
  case round =>
    obtain ⟨ni, ys, rfl, HA, HE, HB⟩ := hrel
    have HM : Hid ((ys.length + 1) * 1 ≤ 140737488355328) := Lib.hid (by have := uvI_len HE.out; have := HL.out; omega)
    by_cases h : 128 ≤ ni
    · have h1 : decide (128 ≤ ni) = true := decide_eq_true h
      have HN := Lib.hid h
      clear h HI
      go_wp2_with (at_builtin; go_must (refine ap_append (w0 := w) w.heap.size rfl _ _ 45 5 .u8 1 rfl Try.underlying45 info5 (by decide) _ ys [_] _ 1 1 rfl rfl (by decide) (by exact HA.out.alloc _) (by exact C_lit [_] _ _ rfl (Nat.le_of_ble_eq_true rfl)) (by exact below_alloc HB.out _) (by exact (below_alloc HB.out _).size) (by exact HM.out) ?_); intro v1 w1 ho hb hg; clear HA HB hg; have HA := Lib.hid ho; have HB := Lib.hid hb; clear ho hb)
      go_roundw
      case rel =>
        refine ⟨_, _, rfl, Lib.hid (.inl HA.out), Lib.hid ?_, HB⟩
        have := uvI_more HE.out HN.out
        rw [or128]
        exact this
      case measure => have := HN.out; simp [intOf]; omega
    · have h1 : decide (128 ≤ ni) = false := decide_eq_false h
      have HN : Hid (ni < 128) := Lib.hid (by omega)
      clear h HI
      go_wp2_with (at_builtin; go_must (refine ap_append (w0 := w) w.heap.size rfl _ _ 45 5 .u8 1 rfl Try.underlying45 info5 (by decide) _ ys [_] _ 1 1 rfl rfl (by decide) (by exact HA.out.alloc _) (by exact C_lit [_] _ _ rfl (Nat.le_of_ble_eq_true rfl)) (by exact below_alloc HB.out _) (by exact (below_alloc HB.out _).size) (by exact HM.out) ?_); intro v1 w1 ho hb hg; clear HA HB hg; have HA := Lib.hid ho; have HB := Lib.hid hb; clear ho hb)
      go_ret
      refine ⟨_, rfl, ?_, HB.out⟩
      have e := uvI_done HE.out HN.out
      have hm : ni % 256 = ni := by have := HN.out; have := HE.out.1; omega
      rw [← e, ← hm]
      exact HA.out
theorem ow0 (w : World) (b : Nat) : Ow .u8 5 w b (.slice none 0 0) [] := Ow.nil _ _ _ _
end Go.Proofs.Ytfikaekocgofoaa.UvW
/- Numbers behind bytes: the program's put and the document's. -/
set_option linter.unusedSimpArgs false
namespace Go.Proofs.Ytfikaekocgofoaa.Put
open Go Go.RowKit Go.Proofs.YtfikaekocgofoaaW.PrintWords Mem WireP UvW
abbrev IK : Kd Int := Kd.int .i64
/-- Many numbers' bytes, one behind the other. -/
def uvs (l : List Int) : List Int := l.flatMap (fun n => uv n.toNat)
theorem uvs_nil : uvs [] = [] := rfl
theorem uvs_append (a b : List Int) : uvs (a ++ b) = uvs a ++ uvs b := by unfold uvs; rw [List.flatMap_append]
theorem uvs_one (n : Int) : uvs [n] = uv n.toNat := by unfold uvs; simp
theorem uvs_cons (n : Int) (l : List Int) : uvs (n :: l) = uv n.toNat ++ uvs l := by unfold uvs; rw [List.flatMap_cons]
def Nat63 (l : List Int) : Prop := ∀ n ∈ l, 0 ≤ n ∧ n < 9223372036854775808
theorem uvs_len {l : List Int} (h : Nat63 l) : (uvs l).length ≤ 10 * l.length := by
  induction l with
  | nil => simp [uvs]
  | cons n l ih =>
    rw [uvs_cons, List.length_append, List.length_cons]
    have h1 := h n (List.mem_cons_self ..)
    have := uv_len10 (n := n.toNat) (by omega)
    have := ih (fun m hm => h m (List.mem_cons_of_mem _ hm))
    omega
theorem take_one {l : List Int} {i : Nat} {x : Int} (h : l[i]? = some x) : uvs (l.take (i + 1)) = uvs (l.take i) ++ uv x.toNat := by
  rw [List.take_add_one, h, uvs_append]
  congr 1
  exact uvs_one x
theorem nat63_take {l : List Int} (h : Nat63 l) (i : Nat) : Nat63 (l.take i) := fun n hn => h n (List.mem_of_mem_take hn)
theorem at_I {w : World} {A : Option Addr} {n : Nat} {xs : List Int} (h : IK.C w A n xs) (i : Nat) (h1 : i < n) : ∃ ad x, xs[i]? = some x ∧ A = some ad ∧ w.cell? (ad.add i) = some (.int .i64 x) := by
  have hr : ReadsOf (Value.int .i64) (0 : Int) w A n xs := Kd.reads_of_C h
  obtain ⟨ad, e, hcell⟩ := hr.2.2 (by omega)
  have hl : i < xs.length := by have := hr.1; omega
  have := hcell i h1
  rw [List.getD_eq_getElem?_getD, List.getElem?_eq_getElem hl] at this
  exact ⟨ad, _, List.getElem?_eq_getElem hl, e, this⟩
theorem wrap_u {x : Int} (h : 0 ≤ x ∧ x < 9223372036854775808) : IntKind.u64.wrap x = x := by rw [Go.IntKind.wrap_u64]; omega
set_option maxHeartbeats 4000000 in
theorem put_calls (A : Option Addr) (c : Nat) (xs : List Int) (B : Option Addr) (cb : Nat) (ns : List Int) (w : World) (hc : xs.length ≤ c) (hx : BK.C w A xs.length xs) (hn : IK.C w B ns.length ns) (hg : Nat63 ns) (hl : xs.length + 10 * ns.length + 10 ≤ 140737488355328) :
    Calls Try.prog 37 #[.slice A xs.length c, .slice B ns.length cb] w fun e w' => ∃ (A' : Option Addr) (c' : Nat), e = .returned (.slice A' (xs ++ uvs ns).length c') ∧ (xs ++ uvs ns).length ≤ c' ∧ BK.C w' A' (xs ++ uvs ns).length (xs ++ uvs ns) ∧ Below w.heap.size w w' := by
  have HX := Lib.hid hx
  have HC := Lib.hid hc
  have HN := Lib.hid hn
  have HG := Lib.hid hg
  have HL := Lib.hid hl
  have hns : ns.length ≤ 9223372036854775807 := hn.2.1
  clear hx hc hn hg hl
  go_enter Try.func37, Try.ntmps37
  go_wp2_with fail
  go_loopw [0, 9] (fun b' i' wr => ∃ (i : Nat) (A' : Option Addr) (ys : List Int) (c' : Nat), b' = .slice A' ys.length c' ∧ i' = .int .i64 i ∧ Hid (i ≤ ns.length) ∧ Hid (ys = xs ++ uvs (ns.take i)) ∧ Hid (ys.length ≤ c') ∧ Hid (BK.C wr A' ys.length ys) ∧ Hid (Below w.heap.size w wr)) (fun _ i' _ => (ns.length - intOf i').toNat)
  case atStart => exact ⟨0, A, xs, c, rfl, rfl, Lib.hid (Nat.zero_le _), Lib.hid (by rw [List.take_zero, uvs_nil, List.append_nil]), HC, HX, Lib.hid (Below.refl _ _)⟩
  case round =>
    obtain ⟨i, A', ys, c', rfl, rfl, HI, HY, HC1, HX1, HB⟩ := hrel
    by_cases h : i < ns.length
    · have hlt : decide (i < ns.length) = true := decide_eq_true h
      have hlt2 : decide ((i : Int) < (ns.length : Int)) = true := decide_eq_true (by omega)
      have i0 : (0 : Int) ≤ i := by omega
      obtain ⟨ad, x, hx, hA, c0⟩ := at_I (Kd.C_below HN.out HB.out) i h
      subst hA
      have HXI := Lib.hid hx
      have HXG := Lib.hid (HG.out x (List.mem_of_getElem? hx))
      have HLT := Lib.hid h
      have HLY : Hid (ys.length + 10 ≤ 140737488355328) := Lib.hid (by
        have h1 := uvs_len (nat63_take HG.out i)
        have h2 := HL.out
        rw [HY.out, List.length_append]
        rw [List.length_take] at h1
        omega)
      clear h hx
      go_wp2_with fail
      refine (uvarint_calls A' c' ys _ wr HC1.out HX1.out (by rw [wrap_u HXG.out]; have := HXG.out; omega) HLY.out).mono ?_
      rintro e w1 ⟨v, rfl, ho, hb⟩
      obtain ⟨A1, c1, rfl, hc1, hC1⟩ := ho.reads
      have HC2 := Lib.hid hc1
      have HX2 := Lib.hid hC1
      have HB2 := Lib.hid (below_then HB.out HB.out.size hb)
      clear ho hb hc1 hC1 c0
      go_wp2_with fail
      go_roundw
      case rel =>
        refine ⟨i + 1, A1, ys ++ uv (IntKind.u64.wrap x).toNat, c1, by simp only [List.length_append], by go_num, Lib.hid (by have := HLT.out; omega), Lib.hid ?_, HC2, HX2, HB2⟩
        rw [take_one HXI.out, HY.out, wrap_u HXG.out, List.append_assoc]
      case measure => have := HLT.out; simp only [intOf]; omega
    · obtain rfl : i = ns.length := by have := HI.out; omega
      have hlt : decide (ns.length < ns.length) = false := decide_eq_false (Nat.lt_irrefl _)
      have hlt2 : decide ((ns.length : Int) < (ns.length : Int)) = false := decide_eq_false (by omega)
      clear h
      have hy : ys = xs ++ uvs ns := by rw [HY.out, List.take_length]
      subst hy
      clear HY
      go_wp2_with fail
      go_ret
      exact ⟨A', c', rfl, HC1.out, HX1.out, HB.out⟩
end Go.Proofs.Ytfikaekocgofoaa.Put
/- Which maps may be: atlas.Check. -/
namespace Go.Proofs.Ytfikaekocgofoaa.AtA
open Go.RowKit Go.Proofs.YtfikaekocgofoaaW.PrintWords Go.Proofs.YtfikaekocgofoaaW.PrintMore Mem PAll
open Go.Maps (Keyed int_keyed keyOf_int_mk)
abbrev Od := S37
abbrev kO := k37
/-- From 0 to b? -/
def winB (a b : Int) : Bool := decide (0 ≤ a ∧ a ≤ b)
theorem win_calls (a b : Int) (w : World) : Calls Try.prog 52 #[.int .i64 a, .int .i64 b] w fun e w' => e = .returned (.bool (winB a b)) ∧ w = w' := by
  by_cases h0 : 0 ≤ a
  · have e1 : winB a b = decide (a ≤ b) := by unfold winB; rw [decide_eq_decide]; exact ⟨fun h => h.2, fun h => ⟨h0, h⟩⟩
    rw [e1]
    have h1 : decide (0 ≤ a) = true := decide_eq_true h0
    clear e1 h0
    go_enter Try.func52, Try.ntmps52
    go_wp2
    go_ret
    exact ⟨rfl, rfl⟩
  · have e1 : winB a b = false := decide_eq_false (fun h => h0 h.1)
    rw [e1]
    have h1 : decide (0 ≤ a) = false := decide_eq_false h0
    clear e1 h0
    go_enter Try.func52, Try.ntmps52
    go_wp2
    go_ret
    exact ⟨rfl, rfl⟩
/-- May an OSD be? -/
def osdB (o : Od) : Bool := winB o.f0 999 && (winB o.f6 999 && (winB o.f7 999 && (winB o.f3 16777216 && (winB o.f4 2147483647 && (winB o.f5 2147483647 && (!o.f1 || (decide (1 ≤ o.f4) && decide (1 ≤ o.f5))))))))
/-- May a pool be? -/
def poolB (k m p d : Int) : Bool := decide (1 ≤ k) && (decide (1 ≤ m) && (decide (k ≤ 32) && (decide (m ≤ 32 - k) && (decide (1 ≤ p) && (decide (p ≤ 32) && winB d 2)))))
set_option maxHeartbeats 4000000 in
theorem osd_calls (o : Od) (w : World) : Calls Try.prog 53 #[.agg #[.int .i64 o.f0, .bool o.f1, .bool o.f2, .int .i64 o.f3, .int .i64 o.f4, .int .i64 o.f5, .int .i64 o.f6, .int .i64 o.f7]] w fun e w' => e = .returned (.bool (osdB o)) ∧ Below w.heap.size w w' := by
  have HB := Lib.hid (below_alloc (Below.refl w.heap.size w) (.cells #[.int .i64 o.f0, .bool o.f1, .bool o.f2, .int .i64 o.f3, .int .i64 o.f4, .int .i64 o.f5, .int .i64 o.f6, .int .i64 o.f7] 37))
  cases b1 : winB o.f0 999
  · have e : osdB o = false := by simp [osdB, b1]
    rw [e]
    clear e
    go_enter Try.func53, Try.ntmps53
    go_wp2_with (go_at_call 52; refine (win_calls _ _ _).mono ?_; rintro e w1 ⟨rfl, rfl⟩)
    go_ret
    exact ⟨rfl, by first | exact HB.out | exact below_alloc (Below.refl _ _) _⟩
  cases b2 : winB o.f6 999
  · have e : osdB o = false := by simp [osdB, b1, b2]
    rw [e]
    clear e
    go_enter Try.func53, Try.ntmps53
    go_wp2_with (go_at_call 52; refine (win_calls _ _ _).mono ?_; rintro e w1 ⟨rfl, rfl⟩)
    go_ret
    exact ⟨rfl, by first | exact HB.out | exact below_alloc (Below.refl _ _) _⟩
  cases b3 : winB o.f7 999
  · have e : osdB o = false := by simp [osdB, b1, b2, b3]
    rw [e]
    clear e
    go_enter Try.func53, Try.ntmps53
    go_wp2_with (go_at_call 52; refine (win_calls _ _ _).mono ?_; rintro e w1 ⟨rfl, rfl⟩)
    go_ret
    exact ⟨rfl, by first | exact HB.out | exact below_alloc (Below.refl _ _) _⟩
  cases b4 : winB o.f3 16777216
  · have e : osdB o = false := by simp [osdB, b1, b2, b3, b4]
    rw [e]
    clear e
    go_enter Try.func53, Try.ntmps53
    go_wp2_with (go_at_call 52; refine (win_calls _ _ _).mono ?_; rintro e w1 ⟨rfl, rfl⟩)
    go_ret
    exact ⟨rfl, by first | exact HB.out | exact below_alloc (Below.refl _ _) _⟩
  cases b5 : winB o.f4 2147483647
  · have e : osdB o = false := by simp [osdB, b1, b2, b3, b4, b5]
    rw [e]
    clear e
    go_enter Try.func53, Try.ntmps53
    go_wp2_with (go_at_call 52; refine (win_calls _ _ _).mono ?_; rintro e w1 ⟨rfl, rfl⟩)
    go_ret
    exact ⟨rfl, by first | exact HB.out | exact below_alloc (Below.refl _ _) _⟩
  cases b6 : winB o.f5 2147483647
  · have e : osdB o = false := by simp [osdB, b1, b2, b3, b4, b5, b6]
    rw [e]
    clear e
    go_enter Try.func53, Try.ntmps53
    go_wp2_with (go_at_call 52; refine (win_calls _ _ _).mono ?_; rintro e w1 ⟨rfl, rfl⟩)
    go_ret
    exact ⟨rfl, by first | exact HB.out | exact below_alloc (Below.refl _ _) _⟩
  cases b7 : o.f1
  · have e : osdB o = true := by simp [osdB, b1, b2, b3, b4, b5, b6, b7]
    rw [e]
    clear e
    go_enter Try.func53, Try.ntmps53
    go_wp2_with (go_at_call 52; refine (win_calls _ _ _).mono ?_; rintro e w1 ⟨rfl, rfl⟩)
    go_ret
    exact ⟨rfl, by first | exact HB.out | exact below_alloc (Below.refl _ _) _⟩
  cases b8 : decide (1 ≤ o.f4)
  · have e : osdB o = false := by simp only [osdB, b1, b2, b3, b4, b5, b6, b7, b8]; rfl
    rw [e]
    clear e
    go_enter Try.func53, Try.ntmps53
    go_wp2_with (go_at_call 52; refine (win_calls _ _ _).mono ?_; rintro e w1 ⟨rfl, rfl⟩)
    go_ret
    exact ⟨rfl, by first | exact HB.out | exact below_alloc (Below.refl _ _) _⟩
  cases b9 : decide (1 ≤ o.f5)
  · have e : osdB o = false := by simp only [osdB, b1, b2, b3, b4, b5, b6, b7, b8, b9]; rfl
    rw [e]
    clear e
    go_enter Try.func53, Try.ntmps53
    go_wp2_with (go_at_call 52; refine (win_calls _ _ _).mono ?_; rintro e w1 ⟨rfl, rfl⟩)
    go_ret
    exact ⟨rfl, by first | exact HB.out | exact below_alloc (Below.refl _ _) _⟩
  · have e : osdB o = true := by simp only [osdB, b1, b2, b3, b4, b5, b6, b7, b8, b9]; rfl
    rw [e]
    clear e
    go_enter Try.func53, Try.ntmps53
    go_wp2_with (go_at_call 52; refine (win_calls _ _ _).mono ?_; rintro e w1 ⟨rfl, rfl⟩)
    go_ret
    exact ⟨rfl, by first | exact HB.out | exact below_alloc (Below.refl _ _) _⟩
set_option maxHeartbeats 4000000 in
theorem pool_calls (k m p d : Int) (w : World) : Calls Try.prog 51 #[.agg #[.int .i64 k, .int .i64 m, .int .i64 p, .int .i64 d]] w fun e w' => e = .returned (.bool (poolB k m p d)) ∧ Below w.heap.size w w' := by
  have HB := Lib.hid (below_alloc (Below.refl w.heap.size w) (.cells #[.int .i64 k, .int .i64 m, .int .i64 p, .int .i64 d] 23))
  cases b1 : decide (1 ≤ k)
  · have e : poolB k m p d = false := by simp only [poolB, b1]; rfl
    rw [e]
    clear e
    go_enter Try.func51, Try.ntmps51
    go_wp2_with (go_at_call 52; refine (win_calls _ _ _).mono ?_; rintro e w1 ⟨rfl, rfl⟩)
    go_ret
    exact ⟨rfl, by first | exact HB.out | exact below_alloc (Below.refl _ _) _⟩
  cases b2 : decide (1 ≤ m)
  · have e : poolB k m p d = false := by simp only [poolB, b1, b2]; rfl
    rw [e]
    clear e
    go_enter Try.func51, Try.ntmps51
    go_wp2_with (go_at_call 52; refine (win_calls _ _ _).mono ?_; rintro e w1 ⟨rfl, rfl⟩)
    go_ret
    exact ⟨rfl, by first | exact HB.out | exact below_alloc (Below.refl _ _) _⟩
  cases b3 : decide (k ≤ 32)
  · have e : poolB k m p d = false := by simp only [poolB, b1, b2, b3]; rfl
    rw [e]
    clear e
    go_enter Try.func51, Try.ntmps51
    go_wp2_with (go_at_call 52; refine (win_calls _ _ _).mono ?_; rintro e w1 ⟨rfl, rfl⟩)
    go_ret
    exact ⟨rfl, by first | exact HB.out | exact below_alloc (Below.refl _ _) _⟩
  cases b4 : decide (m ≤ 32 - k)
  · have e : poolB k m p d = false := by simp only [poolB, b1, b2, b3, b4]; rfl
    have k1 : 1 ≤ k := of_decide_eq_true b1
    have k2 : k ≤ 32 := of_decide_eq_true b3
    rw [e]
    clear e
    go_enter Try.func51, Try.ntmps51
    go_wp2_with (go_at_call 52; refine (win_calls _ _ _).mono ?_; rintro e w1 ⟨rfl, rfl⟩)
    go_ret
    exact ⟨rfl, by first | exact HB.out | exact below_alloc (Below.refl _ _) _⟩
  cases b5 : decide (1 ≤ p)
  · have e : poolB k m p d = false := by simp only [poolB, b1, b2, b3, b4, b5]; rfl
    have k1 : 1 ≤ k := of_decide_eq_true b1
    have k2 : k ≤ 32 := of_decide_eq_true b3
    rw [e]
    clear e
    go_enter Try.func51, Try.ntmps51
    go_wp2_with (go_at_call 52; refine (win_calls _ _ _).mono ?_; rintro e w1 ⟨rfl, rfl⟩)
    go_ret
    exact ⟨rfl, by first | exact HB.out | exact below_alloc (Below.refl _ _) _⟩
  cases b6 : decide (p ≤ 32)
  · have e : poolB k m p d = false := by simp only [poolB, b1, b2, b3, b4, b5, b6]; rfl
    have k1 : 1 ≤ k := of_decide_eq_true b1
    have k2 : k ≤ 32 := of_decide_eq_true b3
    rw [e]
    clear e
    go_enter Try.func51, Try.ntmps51
    go_wp2_with (go_at_call 52; refine (win_calls _ _ _).mono ?_; rintro e w1 ⟨rfl, rfl⟩)
    go_ret
    exact ⟨rfl, by first | exact HB.out | exact below_alloc (Below.refl _ _) _⟩
  cases b7 : winB d 2
  · have e : poolB k m p d = false := by simp only [poolB, b1, b2, b3, b4, b5, b6, b7]; rfl
    have k1 : 1 ≤ k := of_decide_eq_true b1
    have k2 : k ≤ 32 := of_decide_eq_true b3
    rw [e]
    clear e
    go_enter Try.func51, Try.ntmps51
    go_wp2_with (go_at_call 52; refine (win_calls _ _ _).mono ?_; rintro e w1 ⟨rfl, rfl⟩)
    go_ret
    exact ⟨rfl, by first | exact HB.out | exact below_alloc (Below.refl _ _) _⟩
  · have e : poolB k m p d = true := by simp only [poolB, b1, b2, b3, b4, b5, b6, b7]; rfl
    have k1 : 1 ≤ k := of_decide_eq_true b1
    have k2 : k ≤ 32 := of_decide_eq_true b3
    rw [e]
    clear e
    go_enter Try.func51, Try.ntmps51
    go_wp2_with (go_at_call 52; refine (win_calls _ _ _).mono ?_; rintro e w1 ⟨rfl, rfl⟩)
    go_ret
    exact ⟨rfl, by first | exact HB.out | exact below_alloc (Below.refl _ _) _⟩
abbrev DW := DataW Unit
abbrev OM (w : World) (b n : Nat) (D : DW) : Prop := w.ownsMap Try.prog 3 (plainElem Try.prog 3) b n D
theorem keyI : Keyed Try.prog 3 := int_keyed Try.underlying3
theorem zeroI (w : World) : (zeroValue 3).run Try.prog w = .ok (.int .i64 0) w := by kernel_rfl
theorem look_rack {w : World} {b n : Nat} {D : DW} (h : OM w b n D) (v : Int) (hv : (Lit.int .i64 v).wf = true) : ∃ c, (Instr.lookup 90 (.map (some b)) (.int .i64 v) true).run Try.prog w = .ok (.tuple #[.int .i64 c, .bool (Maps.has D (.int .i64 v))]) w ∧ D.atKey (.int .i64 v) (.lit (.int .i64 0)) = .lit (.int .i64 c) := by
  obtain ⟨y, ps, hrun, hy⟩ := h.look_ok keyI Try.underlying90 (zeroI w) (plainElem_int Try.underlying3 (by decide)) (keyOf_int_mk Try.underlying3 hv)
  obtain ⟨c, rfl, hc, _⟩ := plainElem_int_inv Try.underlying3 hy
  exact ⟨c, hrun, congrArg Prod.fst hc⟩
/-- May the first k be? -/
def Good (l : List Od) (k : Nat) : Prop := ∀ i o, i < k → l[i]? = some o → osdB o = true ∧ ∀ j p, j < i → l[j]? = some p → p.f0 < o.f0 ∧ (p.f6 = o.f6 → p.f7 = o.f7)
/-- What the map of racks holds. -/
def Racks (l : List Od) (k : Nat) (D : DW) : Prop := (∀ i o, i < k → l[i]? = some o → Maps.has D (.int .i64 o.f6) = true ∧ D.atKey (.int .i64 o.f6) (.lit (.int .i64 0)) = .lit (.int .i64 o.f7)) ∧ (∀ h : Int, Maps.has D (.int .i64 h) = true → ∃ i o, i < k ∧ l[i]? = some o ∧ o.f6 = h)
theorem racks_put {l : List Od} {k : Nat} {D : DW} {o : Od} (h : Racks l k D) (hm : Go.Maps.IsMap D) (ho : l[k]? = some o) (hg : Good l (k + 1)) : Racks l (k + 1) (D.put (.int .i64 o.f6) (.lit (.int .i64 o.f7))) := by
  refine ⟨fun i p hi hp => ?_, fun v hv => ?_⟩
  · by_cases e : p.f6 = o.f6
    · have hr : p.f7 = o.f7 := by
        rcases Nat.lt_or_ge i k with hik | hik
        · exact ((hg k o (by omega) ho).2 i p hik hp).2 e
        · obtain rfl : i = k := by omega
          rw [ho] at hp
          rw [Option.some.inj hp]
      rw [e, hr]
      exact ⟨Go.Maps.has_put_same hm (by trivial) _, Go.Maps.atKey_put_same hm (by trivial) _ _⟩
    · have hik : i < k := by
        rcases Nat.lt_or_ge i k with hik | hik
        · exact hik
        · obtain rfl : i = k := by omega
          rw [ho] at hp
          exact absurd (by rw [Option.some.inj hp]) e
      have hne : (Lit.int .i64 p.f6) ≠ (Lit.int .i64 o.f6) := by intro hh; injection hh with _ hh; exact e hh
      rw [Go.Maps.has_put_other hne, Go.Maps.atKey_put_other hne]
      exact h.1 i p hik hp
  · by_cases e : v = o.f6
    · exact ⟨k, o, by omega, ho, e.symm⟩
    · rw [Go.Maps.has_put_other (by intro hh; injection hh with _ hh; exact e hh)] at hv
      obtain ⟨i, p, h1, h2, h3⟩ := h.2 v hv
      exact ⟨i, p, by omega, h2, h3⟩
theorem good_step {l : List Od} {k : Nat} {D : DW} {o : Od} (hg : Good l k) (hr : Racks l k D) (ho : l[k]? = some o) (h1 : osdB o = true) (h2 : ∀ p, 0 < k → l[k - 1]? = some p → p.f0 < o.f0) (h3 : Maps.has D (.int .i64 o.f6) = true → D.atKey (.int .i64 o.f6) (.lit (.int .i64 0)) = .lit (.int .i64 o.f7)) : Good l (k + 1) := by
  intro i p hi hp
  rcases Nat.lt_or_ge i k with hik | hik
  · exact hg i p hik hp
  · obtain rfl : i = k := by omega
    rw [ho] at hp
    obtain rfl := Option.some.inj hp
    refine ⟨h1, fun j q hj hq => ⟨?_, fun e => ?_⟩⟩
    · have hk : 0 < i := by omega
      have hlt : i - 1 < l.length := by have := (List.getElem?_eq_some_iff.1 ho).1; omega
      have hb := h2 l[i - 1] hk (List.getElem?_eq_getElem hlt)
      rcases Nat.lt_or_ge j (i - 1) with hj2 | hj2
      · have := ((hg (i - 1) l[i - 1] (by omega) (List.getElem?_eq_getElem hlt)).2 j q hj2 hq).1
        omega
      · obtain rfl : j = i - 1 := by omega
        rw [List.getElem?_eq_getElem hlt] at hq
        rw [← Option.some.inj hq]; exact hb
    · have := hr.1 j q hj hq
      rw [e] at this
      have h4 := h3 this.1
      rw [this.2] at h4
      injection h4 with h4
      injection h4
theorem not_good {l : List Od} {k n : Nat} {o : Od} (hk : k < n) (ho : l[k]? = some o) (h : osdB o = false ∨ ∃ j p, j < k ∧ l[j]? = some p ∧ (o.f0 ≤ p.f0 ∨ (p.f6 = o.f6 ∧ p.f7 ≠ o.f7))) : ¬ Good l n := by
  intro hg
  have := hg k o hk ho
  rcases h with h | ⟨j, p, h1, h2, h3⟩
  · rw [h] at this; exact absurd this.1 (by decide)
  · have h4 := this.2 j p h1 h2
    rcases h3 with h3 | ⟨h3, h5⟩
    · omega
    · exact h5 (h4.2 h3)
open Classical in
/-- May the map's OSDs be? -/
noncomputable def goodB (l : List Od) : Bool := decide (Good l l.length)
open Classical in
theorem goodB_no {l : List Od} (h : ¬ Good l l.length) : goodB l = false := decide_eq_false h
open Classical in
theorem goodB_yes {l : List Od} (h : Good l l.length) : goodB l = true := decide_eq_true h
open Classical in
theorem goodB_iff {l : List Od} : goodB l = true ↔ Good l l.length := decide_eq_true_iff
/-- What Check tells of the OSDs. -/
noncomputable def chkI (l : List Od) : Int := if goodB l = true then 0 else 1
theorem chkI_no {l : List Od} (h : ¬ Good l l.length) : chkI l = 1 := by unfold chkI; rw [goodB_no h]; rfl
theorem chkI_yes {l : List Od} (h : Good l l.length) : chkI l = 0 := by unfold chkI; rw [goodB_yes h]; rfl
noncomputable def mayB (ep k m p d : Int) (l : List Od) : Bool := winB ep 1048576 && (poolB k m p d && (decide (l.length ≤ 64) && goodB l))
theorem om_below {w w1 : World} {b n : Nat} {D : DW} (h : OM w b n D) (hb : Below w.heap.size w w1) : OM w1 b n D := h.kept (grown_of_below hb none) (by simp)
theorem made (w : World) (o : Obj) : OM ((w.alloc o).alloc (.map #[] 0)) (w.heap.size + 1) 0 (.map []) := by
  have e : (w.alloc o).heap.size = w.heap.size + 1 := by simp
  exact e ▸ World.ownsMap_made (w.alloc o) Try.prog _ _
section
variable (ep k m p d : Int) (A : Option Addr) (c : Nat) (l : List Od) (w : World)
def boxM : Array Value := #[.int .i64 ep, .int .i64 k, .int .i64 m, .int .i64 p, .int .i64 d, .slice A l.length c]
theorem check_ep (h : winB ep 1048576 = false) :
    Calls Try.prog 29 #[.agg (boxM ep k m p d A c l)] w fun e w' => e = .returned (.int .i64 1) ∧ Below w.heap.size w w' := by
  unfold boxM
  have HB := Lib.hid (below_alloc (Below.refl w.heap.size w) (.cells #[.int .i64 ep, .int .i64 k, .int .i64 m, .int .i64 p, .int .i64 d, .slice A l.length c] 28))
  go_enter Try.func29, Try.ntmps29
  go_wp2_with fail
  refine (win_calls _ _ _).mono ?_
  rintro e w1 ⟨rfl, rfl⟩
  rw [h]
  go_wp2_with fail
  go_ret
  exact ⟨rfl, HB.out⟩
theorem check_pool (h0 : winB ep 1048576 = true) (h : poolB k m p d = false) :
    Calls Try.prog 29 #[.agg (boxM ep k m p d A c l)] w fun e w' => e = .returned (.int .i64 1) ∧ Below w.heap.size w w' := by
  unfold boxM
  have HB := Lib.hid (below_alloc (Below.refl w.heap.size w) (.cells #[.int .i64 ep, .int .i64 k, .int .i64 m, .int .i64 p, .int .i64 d, .slice A l.length c] 28))
  go_enter Try.func29, Try.ntmps29
  go_wp2_with fail
  refine (win_calls _ _ _).mono ?_
  rintro e w1 ⟨rfl, rfl⟩
  rw [h0]
  go_wp2_with fail
  refine (pool_calls _ _ _ _ _).mono ?_
  rintro e w1 ⟨rfl, hb⟩
  rw [h]
  have HB2 := Lib.hid (below_then HB.out HB.out.size hb)
  clear hb
  go_wp2_with fail
  go_ret
  exact ⟨rfl, HB2.out⟩
theorem check_many (h0 : winB ep 1048576 = true) (h1 : poolB k m p d = true) (h2 : 64 < l.length) (hs : l.length ≤ 9223372036854775807) :
    Calls Try.prog 29 #[.agg (boxM ep k m p d A c l)] w fun e w' => e = .returned (.int .i64 1) ∧ Below w.heap.size w w' := by
  unfold boxM
  have HB := Lib.hid (below_alloc (Below.refl w.heap.size w) (.cells #[.int .i64 ep, .int .i64 k, .int .i64 m, .int .i64 p, .int .i64 d, .slice A l.length c] 28))
  have c5 : (w.alloc (.cells #[.int .i64 ep, .int .i64 k, .int .i64 m, .int .i64 p, .int .i64 d, .slice A l.length c] 28)).cell? ⟨w.heap.size, 5, none⟩ = some (.slice A l.length c) := blk_cell (blk_new w _) 5
  have hd : decide (64 < l.length) = true := decide_eq_true h2
  have hd2 : decide ((64 : Int) < (l.length : Int)) = true := decide_eq_true (by omega)
  clear h2
  go_enter Try.func29, Try.ntmps29
  go_wp2_with fail
  refine (win_calls _ _ _).mono ?_
  rintro e w1 ⟨rfl, rfl⟩
  rw [h0]
  go_wp2_with fail
  refine (pool_calls _ _ _ _ _).mono ?_
  rintro e w1 ⟨rfl, hb⟩
  rw [h1]
  have HB2 := Lib.hid (below_then HB.out HB.out.size hb)
  have c5' : w1.cell? ⟨w.heap.size, 5, none⟩ = some (.slice A l.length c) := (hb.cell (p := ⟨w.heap.size, 5, none⟩) (by simp)).trans c5
  clear hb
  go_wp2_with fail
  go_ret
  exact ⟨rfl, HB2.out⟩
theorem bad_rack {l : List Od} {n : Nat} {D : DW} {o : Od} {rk : Int} (hr : Racks l n D) (hk : Maps.has D (.int .i64 o.f6) = true) (hat : D.atKey (.int .i64 o.f6) (.lit (.int .i64 0)) = .lit (.int .i64 rk)) (hne : rk ≠ o.f7) : ∃ j p, j < n ∧ l[j]? = some p ∧ (o.f0 ≤ p.f0 ∨ (p.f6 = o.f6 ∧ p.f7 ≠ o.f7)) := by
  obtain ⟨j, q, hj, hq, e⟩ := hr.2 o.f6 hk
  refine ⟨j, q, hj, hq, .inr ⟨e, fun e3 => ?_⟩⟩
  have h := (hr.1 j q hj hq).2
  rw [e, hat] at h
  injection h with h
  injection h with _ h
  exact hne (h.trans e3)
/-- An element's cells. -/
theorem at_O {w : World} {A : Option Addr} {n : Nat} {xs : List Od} (h : kO.C w A n xs) (i : Nat) (h1 : i < n) : ∃ ad o, xs[i]? = some o ∧ A = some ad ∧ w.cell? (ad.add (i * 8)) = some (.int .i64 o.f0) ∧ w.cell? ⟨(ad.add (i * 8)).block, (ad.add (i * 8)).off + 1, none⟩ = some (.bool o.f1) ∧ w.cell? ⟨(ad.add (i * 8)).block, (ad.add (i * 8)).off + 2, none⟩ = some (.bool o.f2) ∧ w.cell? ⟨(ad.add (i * 8)).block, (ad.add (i * 8)).off + 3, none⟩ = some (.int .i64 o.f3) ∧ w.cell? ⟨(ad.add (i * 8)).block, (ad.add (i * 8)).off + 4, none⟩ = some (.int .i64 o.f4) ∧ w.cell? ⟨(ad.add (i * 8)).block, (ad.add (i * 8)).off + 5, none⟩ = some (.int .i64 o.f5) ∧ w.cell? ⟨(ad.add (i * 8)).block, (ad.add (i * 8)).off + 6, none⟩ = some (.int .i64 o.f6) ∧ w.cell? ⟨(ad.add (i * 8)).block, (ad.add (i * 8)).off + 7, none⟩ = some (.int .i64 o.f7) := by
  obtain ⟨ad, hA, a0, a1, a2, a3, a4, a5, a6, a7⟩ := at_T37 h (i : Int) (by omega) (by omega)
  have hl : i < xs.length := by have := h.1; omega
  have e : rd_T37 xs (i : Int) = xs[i] := by simp [rd_T37, List.getD_eq_getElem?_getD, List.getElem?_eq_getElem hl]
  rw [e] at a0 a1 a2 a3 a4 a5 a6 a7
  exact ⟨ad, xs[i], List.getElem?_eq_getElem hl, hA, a0, a1, a2, a3, a4, a5, a6, a7⟩
abbrev aggO (o : Od) : Array Value := #[.int .i64 o.f0, .bool o.f1, .bool o.f2, .int .i64 o.f3, .int .i64 o.f4, .int .i64 o.f5, .int .i64 o.f6, .int .i64 o.f7]
theorem blkO {w : World} {g : Nat} {o : Od} (h : w.heap[g]? = some (.cells (aggO o) 37 (0, 0))) : w.cell? ⟨g, 0, none⟩ = some (.int .i64 o.f0) ∧ w.cell? ⟨g, 1, none⟩ = some (.bool o.f1) ∧ w.cell? ⟨g, 2, none⟩ = some (.bool o.f2) ∧ w.cell? ⟨g, 3, none⟩ = some (.int .i64 o.f3) ∧ w.cell? ⟨g, 4, none⟩ = some (.int .i64 o.f4) ∧ w.cell? ⟨g, 5, none⟩ = some (.int .i64 o.f5) ∧ w.cell? ⟨g, 6, none⟩ = some (.int .i64 o.f6) ∧ w.cell? ⟨g, 7, none⟩ = some (.int .i64 o.f7) :=
  ⟨blk_cell h 0, blk_cell h 1, blk_cell h 2, blk_cell h 3, blk_cell h 4, blk_cell h 5, blk_cell h 6, blk_cell h 7⟩
abbrev aggM (ep k m p d : Int) (A : Option Addr) (n c : Nat) : Array Value := #[.int .i64 ep, .int .i64 k, .int .i64 m, .int .i64 p, .int .i64 d, .slice A n c]
set_option maxHeartbeats 4000000 in
set_option maxRecDepth 100000 in
theorem check_loop (h0 : winB ep 1048576 = true) (h1 : poolB k m p d = true) (h2 : l.length ≤ 64) (hx : kO.C w A l.length l) (hwf : ∀ o ∈ l, (Lit.int .i64 o.f6).wf = true) (hwf7 : ∀ o ∈ l, (Lit.int .i64 o.f7).wf = true) :
    Calls Try.prog 29 #[.agg (aggM ep k m p d A l.length c)] w fun e w' => e = .returned (.int .i64 (chkI l)) ∧ Below w.heap.size w w' := by
  have HB := Lib.hid (below_alloc (Below.refl w.heap.size w) (.cells (aggM ep k m p d A l.length c) 28))
  have hblk : (w.alloc (.cells (aggM ep k m p d A l.length c) 28)).heap[w.heap.size]? = some (.cells (aggM ep k m p d A l.length c) 28 (0, 0)) := blk_new w _
  have c5 : (w.alloc (.cells (aggM ep k m p d A l.length c) 28)).cell? ⟨w.heap.size, 5, none⟩ = some (.slice A l.length c) := blk_cell hblk 5
  have hd : decide (64 < l.length) = false := decide_eq_false (by omega)
  have hd2 : decide ((64 : Int) < (l.length : Int)) = false := decide_eq_false (by omega)
  have HC := Lib.hid hx
  have HF := Lib.hid hwf
  have HF7 := Lib.hid hwf7
  have HBK := Lib.hid hblk
  have hmm := @run_makeMap Try.prog
  clear hx hwf hwf7 hblk
  go_enter Try.func29, Try.ntmps29
  go_wp2_with fail
  refine (win_calls _ _ _).mono ?_
  rintro e w1 ⟨rfl, rfl⟩
  rw [h0]
  go_wp2_with fail
  refine (pool_calls _ _ _ _ _).mono ?_
  rintro e w1 ⟨rfl, hb⟩
  rw [h1]
  have HB2 := Lib.hid (below_then HB.out HB.out.size hb)
  have HBK2 := Lib.hid (blk_below HBK.out hb)
  clear hb c5 HB HBK
  have c5 : w1.cell? ⟨w.heap.size, 5, none⟩ = some (.slice A l.length c) := blk_cell HBK2.out 5
  have HM0 : Hid (OM (w1.alloc (.map #[] 0)) w1.heap.size 0 (.map [])) := Lib.hid (World.ownsMap_made w1 Try.prog _ _)
  have HBK3 := Lib.hid (blk_below HBK2.out (below_alloc (Below.refl _ _) (.map #[] 0)))
  have HB3 := Lib.hid (below_alloc HB2.out (.map #[] 0))
  have HLT : Hid (w.heap.size < w1.heap.size) := Lib.hid (blk_lt HBK2.out)
  have HLE : Hid (w.heap.size ≤ w1.heap.size) := Lib.hid HB2.out.size
  have c5m : (w1.alloc (.map #[] 0)).cell? ⟨w.heap.size, 5, none⟩ = some (.slice A l.length c) := blk_cell HBK3.out 5
  obtain ⟨wb, hwb⟩ : ∃ wb, wb = w1.heap.size := ⟨_, rfl⟩
  go_wp2_with fail
  rw [← hwb]
  rw [← hwb] at HM0 HLT HLE
  clear hwb
  go_loopw [28] (fun i' wr => ∃ (n : Nat) (D : DW), i' = .int .i64 n ∧ Hid (n ≤ l.length) ∧ Hid (Good l n) ∧ Hid (Racks l n D) ∧ Hid (OM wr wb n D) ∧ Hid (wr.heap[w.heap.size]? = some (.cells (aggM ep k m p d A l.length c) 28 (0, 0))) ∧ Hid (Below w.heap.size w wr)) (fun i' _ => (l.length - intOf i').toNat)
  case atStart => exact ⟨0, .map [], rfl, Lib.hid (by omega), Lib.hid (fun i o hi => absurd hi (by omega)), Lib.hid ⟨fun i o hi => absurd hi (by omega), fun h hh => by cases hh⟩, HM0, HBK3, HB3⟩
  case round =>
    obtain ⟨n, D, rfl, HN, HG, HR, HM, HBX, HB⟩ := hrel
    clear c5 c5m HM0 HB3 HBK3 HB2 HBK2
    have hn := HN.out
    by_cases h : n < l.length
    · have hlt : decide (n < l.length) = true := decide_eq_true h
      have i0 : (0 : Int) ≤ n := by omega
      obtain ⟨ad, o, ho, hA, a0, a1, a2, a3, a4, a5, a6, a7⟩ := at_O (Kd.C_below HC.out HB.out) n h
      subst hA
      have HON := Lib.hid ho
      have hw6 := HF.out o (List.mem_of_getElem? ho)
      have HW6 := Lib.hid hw6
      have HBA := Lib.hid (below_alloc (Below.refl wr.heap.size wr) (.cells (aggO o) 37))
      obtain ⟨rk, hlook, hat⟩ := look_rack (om_below HM.out HBA.out) o.f6 hw6
      have HAT := Lib.hid hat
      obtain ⟨kn, hkn⟩ : ∃ kn, kn = Maps.has D (.int .i64 o.f6) := ⟨_, rfl⟩
      rw [← hkn] at hlook
      have HKN := Lib.hid hkn
      have HB4 := Lib.hid (below_alloc HB.out (.cells (aggO o) 37))
      have HM4 := Lib.hid (om_below HM.out HBA.out)
      have HBX4 := Lib.hid (blk_alloc HBX.out (.cells (aggO o) 37))
      have HOB4 : Hid ((wr.alloc (.cells (aggO o) 37)).heap[wr.heap.size]? = some (.cells (aggO o) 37 (0, 0))) := Lib.hid (blk_new wr _)
      have HSZ : Hid (wb < wr.heap.size) := Lib.hid HM.out.lt
      clear ho hw6 hat hkn HM HB HBX
      go_wp2_with fail
      obtain ⟨w4, hw4⟩ : ∃ w4, w4 = wr.alloc (.cells (aggO o) 37) := ⟨_, rfl⟩
      obtain ⟨go, hgo⟩ : ∃ go, go = wr.heap.size := ⟨_, rfl⟩
      rw [← hw4] at HB4 HM4 HBX4 HOB4 ⊢
      rw [← hgo] at HOB4 HSZ ⊢
      clear hw4 hgo hlook a0 a1 a2 a3 a4 a5 a6 a7 HBA
      obtain ⟨y0, y1, y2, y3, y4, y5, y6, y7⟩ := blkO HOB4.out
      have x5 : w4.cell? ⟨w.heap.size, 5, none⟩ = some (.slice (some ad) l.length c) := blk_cell HBX4.out 5
      have z0 := cell_regrown y0
      have z1 := cell_regrown y1
      have z2 := cell_regrown y2
      have z3 := cell_regrown y3
      have z4 := cell_regrown y4
      have z5 := cell_regrown y5
      have z6 := cell_regrown y6
      have z7 := cell_regrown y7
      have zx := cell_regrown x5
      clear y0 y1 y2 y3 y4 y5 y6 y7 x5
      obtain ⟨ob, hob⟩ : ∃ ob, ob = osdB o := ⟨_, rfl⟩
      have HOB := Lib.hid hob
      have T : Hid (∀ dd os, Calls Try.prog 53 #[.agg (aggO o)] (Sort.grow (redrawn w4 dd) os) fun e w' => e = .returned (.bool ob) ∧ Below (Sort.grow (redrawn w4 dd) os).heap.size (Sort.grow (redrawn w4 dd) os) w') := Lib.hid (fun dd os => by rw [hob]; exact osd_calls o _)
      clear hob
      cases ob with
      | false =>
        go_wp2_with fail
        refine wp_region_quiet_below (by kernel_rfl) (by kernel_rfl) ?_
        repeat (go_big_quiet_step ((go_at_call 53; exact Calls.regrown_of (T.out _ _))))
        refine wpQuiet_nil ?_
        intro _ hw'
        obtain ⟨⟨dq, osq⟩, hw''⟩ := hw'
        subst hw''
        have HB5 := Lib.hid (below_then HB4.out HB4.out.size (below_regrown w4 dq osq))
        go_wp2_with fail
        go_ret
        refine ⟨?_, HB5.out⟩
        have hng : chkI l = 1 := chkI_no (not_good h HON.out (.inl HOB.out.symm))
        rw [hng]; rfl
      | true =>
        have key : ∃ low : Bool, (low = true → ∃ j q, j < n ∧ l[j]? = some q ∧ o.f0 ≤ q.f0) ∧ (low = false → ∀ q, 0 < n → l[n - 1]? = some q → q.f0 < o.f0) ∧
            ((n = 0 ∧ low = false) ∨ (0 < n ∧ ∃ q, l[n - 1]? = some q ∧ low = decide (o.f0 ≤ q.f0))) := by
          rcases Nat.eq_zero_or_pos n with h0 | h0
          · exact ⟨false, (fun h => absurd h (by decide)), (fun _ q hp => by omega), .inl ⟨h0, rfl⟩⟩
          · have hlt2 : n - 1 < l.length := by omega
            refine ⟨decide (o.f0 ≤ (l[n - 1]).f0), fun h => ⟨n - 1, l[n - 1], by omega, List.getElem?_eq_getElem hlt2, of_decide_eq_true h⟩, fun h q _ hq => ?_, .inr ⟨h0, l[n - 1], List.getElem?_eq_getElem hlt2, rfl⟩⟩
            rw [List.getElem?_eq_getElem hlt2] at hq
            have := of_decide_eq_false h
            rw [← Option.some.inj hq]; omega
        obtain ⟨low, hl1, hl2, hl3⟩ := key
        have HL1 := Lib.hid hl1
        have HL2 := Lib.hid hl2
        clear hl1 hl2
        obtain ⟨bad, hbad⟩ : ∃ bad, bad = (kn && !(rk == o.f7)) := ⟨_, rfl⟩
        have HBAD : Hid (bad = (kn && !(rk == o.f7))) := Lib.hid hbad
        have HEND : Hid (goodB l = true ∨ goodB l = false) := Lib.hid (by cases goodB l; exact .inr rfl; exact .inl rfl)
        rcases hl3 with ⟨hz, rfl⟩ | ⟨hz, q, hq, hlo⟩
        · have hz0 : decide (0 < n) = false := decide_eq_false (by omega)
          have hz1 : decide ((0 : Int) < (n : Int)) = false := decide_eq_false (by omega)
          cases kn
          · go_wp2_with fail
            refine wp_region_quiet_below (by kernel_rfl) (by kernel_rfl) ?_
            repeat (go_big_quiet_step ((go_at_call 53; exact Calls.regrown_of (T.out _ _))))
            refine wpQuiet_nil ?_
            intro _ hw'
            obtain ⟨⟨dq, osq⟩, hw''⟩ := hw'
            subst hw''
            have HB5 := Lib.hid (below_then HB4.out HB4.out.size (below_regrown w4 dq osq))
            have HM5 := Lib.hid (om_below HM4.out (below_regrown w4 dq osq))
            have HBX5 := Lib.hid (blk_below HBX4.out (below_regrown w4 dq osq))
            have HOB5 := Lib.hid (blk_below HOB4.out (below_regrown w4 dq osq))
            obtain ⟨w5, hw5⟩ : ∃ w5, w5 = Sort.grow (redrawn w4 dq) osq := ⟨_, rfl⟩
            rw [← hw5] at HB5 HM5 HBX5 HOB5 ⊢
            clear hw5 z0 z1 z2 z3 z4 z5 z6 z7 zx T HB4 HM4 HBX4 HOB4
            have HGD : Hid (Good l (n + 1)) := Lib.hid (good_step HG.out HR.out HON.out HOB.out.symm (HL2.out (by simp)) (fun hk => by rw [← HKN.out] at hk; cases hk))
            have HIM := Lib.hid HM5.out.isMap
            obtain ⟨y0, y1, y2, y3, y4, y5, y6, y7⟩ := blkO HOB5.out
            go_wp2_with (first | (at_mapUpdate; go_must (refine wpList_mapUpdate_own _ rfl _ _ _ 90 rfl 3 3 keyI Try.underlying90 _ wb n D rfl (by exact HM5.out) ?hn _ _ (.int .i64 o.f6) rfl rfl (keyOf_int_mk Try.underlying3 HW6.out) (.lit (.int .i64 o.f7)) [] (plainElem_int Try.underlying3 (HF7.out o (List.mem_of_getElem? HON.out))) ?_; (case hn => simp only [maxLen]; omega)); intro w2 ho hg; have HM6 := Lib.hid ho; have HB6 := Lib.hid (HB5.out.grown hg HB5.out.size (fun k hk => by injection hk with hk; have := HLE.out; omega)); have HBX6 := Lib.hid (blk_grown HBX5.out hg (by intro e; injection e with e; have := HLT.out; omega)); clear ho hg HM5 HB5 HBX5 HOB5 y0 y1 y2 y3 y4 y5 y6 y7))
            go_roundw
            case rel => exact ⟨n + 1, _, by go_num, Lib.hid (by omega), HGD, Lib.hid (racks_put HR.out HIM.out HON.out HGD.out), HM6, HBX6, HB6⟩
            case measure => simp only [intOf]; omega
          · cases hrk : (rk == o.f7)
            · have hrk2 : (rk != o.f7) = true := by rw [bne, hrk]; rfl
              have HRK := Lib.hid hrk
              clear hrk
              go_wp2_with fail
              refine wp_region_quiet_below (by kernel_rfl) (by kernel_rfl) ?_
              repeat (go_big_quiet_step ((go_at_call 53; exact Calls.regrown_of (T.out _ _))))
              refine wpQuiet_nil ?_
              intro _ hw'
              obtain ⟨⟨dq, osq⟩, hw''⟩ := hw'
              subst hw''
              have HB5 := Lib.hid (below_then HB4.out HB4.out.size (below_regrown w4 dq osq))
              go_wp2_with fail
              go_ret
              refine ⟨?_, HB5.out⟩
              have hng : chkI l = 1 := chkI_no (not_good h HON.out (.inr (bad_rack HR.out HKN.out.symm HAT.out (beq_eq_false_iff_ne.1 HRK.out))))
              rw [hng]; rfl
            · have hrk2 : (rk != o.f7) = false := by rw [bne, hrk]; rfl
              have HRK := Lib.hid hrk
              clear hrk
              go_wp2_with fail
              refine wp_region_quiet_below (by kernel_rfl) (by kernel_rfl) ?_
              repeat (go_big_quiet_step ((go_at_call 53; exact Calls.regrown_of (T.out _ _))))
              refine wpQuiet_nil ?_
              intro _ hw'
              obtain ⟨⟨dq, osq⟩, hw''⟩ := hw'
              subst hw''
              have HB5 := Lib.hid (below_then HB4.out HB4.out.size (below_regrown w4 dq osq))
              have HM5 := Lib.hid (om_below HM4.out (below_regrown w4 dq osq))
              have HBX5 := Lib.hid (blk_below HBX4.out (below_regrown w4 dq osq))
              have HOB5 := Lib.hid (blk_below HOB4.out (below_regrown w4 dq osq))
              obtain ⟨w5, hw5⟩ : ∃ w5, w5 = Sort.grow (redrawn w4 dq) osq := ⟨_, rfl⟩
              rw [← hw5] at HB5 HM5 HBX5 HOB5 ⊢
              clear hw5 z0 z1 z2 z3 z4 z5 z6 z7 zx T HB4 HM4 HBX4 HOB4
              have HGD : Hid (Good l (n + 1)) := Lib.hid (good_step HG.out HR.out HON.out HOB.out.symm (HL2.out (by simp)) (fun hk => by rw [HAT.out, beq_iff_eq.1 HRK.out]))
              have HIM := Lib.hid HM5.out.isMap
              obtain ⟨y0, y1, y2, y3, y4, y5, y6, y7⟩ := blkO HOB5.out
              go_wp2_with (first | (at_mapUpdate; go_must (refine wpList_mapUpdate_own _ rfl _ _ _ 90 rfl 3 3 keyI Try.underlying90 _ wb n D rfl (by exact HM5.out) ?hn _ _ (.int .i64 o.f6) rfl rfl (keyOf_int_mk Try.underlying3 HW6.out) (.lit (.int .i64 o.f7)) [] (plainElem_int Try.underlying3 (HF7.out o (List.mem_of_getElem? HON.out))) ?_; (case hn => simp only [maxLen]; omega)); intro w2 ho hg; have HM6 := Lib.hid ho; have HB6 := Lib.hid (HB5.out.grown hg HB5.out.size (fun k hk => by injection hk with hk; have := HLE.out; omega)); have HBX6 := Lib.hid (blk_grown HBX5.out hg (by intro e; injection e with e; have := HLT.out; omega)); clear ho hg HM5 HB5 HBX5 HOB5 y0 y1 y2 y3 y4 y5 y6 y7))
              go_roundw
              case rel => exact ⟨n + 1, _, by go_num, Lib.hid (by omega), HGD, Lib.hid (racks_put HR.out HIM.out HON.out HGD.out), HM6, HBX6, HB6⟩
              case measure => simp only [intOf]; omega
        · have hz0 : decide (0 < n) = true := decide_eq_true hz
          have hz1 : decide ((0 : Int) < (n : Int)) = true := decide_eq_true (by omega)
          obtain ⟨ad2, q2, hq2, hA2, b0, b1, b2, b3, b4, b5, b6, b7⟩ := at_O (Kd.C_below HC.out HB4.out) (n - 1) (by omega)
          rw [hq] at hq2
          obtain rfl := Option.some.inj hq2
          injection hA2 with hA2
          subst hA2
          have u0 := cell_regrown b0
          have j0 : (0 : Int) ≤ (n : Int) - 1 := by omega
          have j1 : (n : Int) - 1 < l.length := by omega
          have jw : IntKind.i64.wrap ((n : Int) - 1) = (n : Int) - 1 := IntWalk.i64_in _ (by omega)
          have jn : ((n : Int) - 1).toNat = n - 1 := by omega
          clear hq hq2 b0 b1 b2 b3 b4 b5 b6 b7
          cases low
          · have hlo2 : decide (o.f0 ≤ q.f0) = false := hlo.symm
            clear hlo
            cases kn
            · go_wp2_with fail
              refine wp_region_quiet_below (by kernel_rfl) (by kernel_rfl) ?_
              repeat (go_big_quiet_step ((go_at_call 53; exact Calls.regrown_of (T.out _ _))))
              refine wpQuiet_nil ?_
              intro _ hw'
              obtain ⟨⟨dq, osq⟩, hw''⟩ := hw'
              subst hw''
              have HB5 := Lib.hid (below_then HB4.out HB4.out.size (below_regrown w4 dq osq))
              have HM5 := Lib.hid (om_below HM4.out (below_regrown w4 dq osq))
              have HBX5 := Lib.hid (blk_below HBX4.out (below_regrown w4 dq osq))
              have HOB5 := Lib.hid (blk_below HOB4.out (below_regrown w4 dq osq))
              obtain ⟨w5, hw5⟩ : ∃ w5, w5 = Sort.grow (redrawn w4 dq) osq := ⟨_, rfl⟩
              rw [← hw5] at HB5 HM5 HBX5 HOB5 ⊢
              clear hw5 z0 z1 z2 z3 z4 z5 z6 z7 zx T HB4 HM4 HBX4 HOB4
              have HGD : Hid (Good l (n + 1)) := Lib.hid (good_step HG.out HR.out HON.out HOB.out.symm (HL2.out (by simp)) (fun hk => by rw [← HKN.out] at hk; cases hk))
              have HIM := Lib.hid HM5.out.isMap
              obtain ⟨y0, y1, y2, y3, y4, y5, y6, y7⟩ := blkO HOB5.out
              go_wp2_with (first | (at_mapUpdate; go_must (refine wpList_mapUpdate_own _ rfl _ _ _ 90 rfl 3 3 keyI Try.underlying90 _ wb n D rfl (by exact HM5.out) ?hn _ _ (.int .i64 o.f6) rfl rfl (keyOf_int_mk Try.underlying3 HW6.out) (.lit (.int .i64 o.f7)) [] (plainElem_int Try.underlying3 (HF7.out o (List.mem_of_getElem? HON.out))) ?_; (case hn => simp only [maxLen]; omega)); intro w2 ho hg; have HM6 := Lib.hid ho; have HB6 := Lib.hid (HB5.out.grown hg HB5.out.size (fun k hk => by injection hk with hk; have := HLE.out; omega)); have HBX6 := Lib.hid (blk_grown HBX5.out hg (by intro e; injection e with e; have := HLT.out; omega)); clear ho hg HM5 HB5 HBX5 HOB5 y0 y1 y2 y3 y4 y5 y6 y7))
              go_roundw
              case rel => exact ⟨n + 1, _, by go_num, Lib.hid (by omega), HGD, Lib.hid (racks_put HR.out HIM.out HON.out HGD.out), HM6, HBX6, HB6⟩
              case measure => simp only [intOf]; omega
            · cases hrk : (rk == o.f7)
              · have hrk2 : (rk != o.f7) = true := by rw [bne, hrk]; rfl
                have HRK := Lib.hid hrk
                clear hrk
                go_wp2_with fail
                refine wp_region_quiet_below (by kernel_rfl) (by kernel_rfl) ?_
                repeat (go_big_quiet_step ((go_at_call 53; exact Calls.regrown_of (T.out _ _))))
                refine wpQuiet_nil ?_
                intro _ hw'
                obtain ⟨⟨dq, osq⟩, hw''⟩ := hw'
                subst hw''
                have HB5 := Lib.hid (below_then HB4.out HB4.out.size (below_regrown w4 dq osq))
                go_wp2_with fail
                go_ret
                refine ⟨?_, HB5.out⟩
                have hng : chkI l = 1 := chkI_no (not_good h HON.out (.inr (bad_rack HR.out HKN.out.symm HAT.out (beq_eq_false_iff_ne.1 HRK.out))))
                rw [hng]; rfl
              · have hrk2 : (rk != o.f7) = false := by rw [bne, hrk]; rfl
                have HRK := Lib.hid hrk
                clear hrk
                go_wp2_with fail
                refine wp_region_quiet_below (by kernel_rfl) (by kernel_rfl) ?_
                repeat (go_big_quiet_step ((go_at_call 53; exact Calls.regrown_of (T.out _ _))))
                refine wpQuiet_nil ?_
                intro _ hw'
                obtain ⟨⟨dq, osq⟩, hw''⟩ := hw'
                subst hw''
                have HB5 := Lib.hid (below_then HB4.out HB4.out.size (below_regrown w4 dq osq))
                have HM5 := Lib.hid (om_below HM4.out (below_regrown w4 dq osq))
                have HBX5 := Lib.hid (blk_below HBX4.out (below_regrown w4 dq osq))
                have HOB5 := Lib.hid (blk_below HOB4.out (below_regrown w4 dq osq))
                obtain ⟨w5, hw5⟩ : ∃ w5, w5 = Sort.grow (redrawn w4 dq) osq := ⟨_, rfl⟩
                rw [← hw5] at HB5 HM5 HBX5 HOB5 ⊢
                clear hw5 z0 z1 z2 z3 z4 z5 z6 z7 zx T HB4 HM4 HBX4 HOB4
                have HGD : Hid (Good l (n + 1)) := Lib.hid (good_step HG.out HR.out HON.out HOB.out.symm (HL2.out (by simp)) (fun hk => by rw [HAT.out, beq_iff_eq.1 HRK.out]))
                have HIM := Lib.hid HM5.out.isMap
                obtain ⟨y0, y1, y2, y3, y4, y5, y6, y7⟩ := blkO HOB5.out
                go_wp2_with (first | (at_mapUpdate; go_must (refine wpList_mapUpdate_own _ rfl _ _ _ 90 rfl 3 3 keyI Try.underlying90 _ wb n D rfl (by exact HM5.out) ?hn _ _ (.int .i64 o.f6) rfl rfl (keyOf_int_mk Try.underlying3 HW6.out) (.lit (.int .i64 o.f7)) [] (plainElem_int Try.underlying3 (HF7.out o (List.mem_of_getElem? HON.out))) ?_; (case hn => simp only [maxLen]; omega)); intro w2 ho hg; have HM6 := Lib.hid ho; have HB6 := Lib.hid (HB5.out.grown hg HB5.out.size (fun k hk => by injection hk with hk; have := HLE.out; omega)); have HBX6 := Lib.hid (blk_grown HBX5.out hg (by intro e; injection e with e; have := HLT.out; omega)); clear ho hg HM5 HB5 HBX5 HOB5 y0 y1 y2 y3 y4 y5 y6 y7))
                go_roundw
                case rel => exact ⟨n + 1, _, by go_num, Lib.hid (by omega), HGD, Lib.hid (racks_put HR.out HIM.out HON.out HGD.out), HM6, HBX6, HB6⟩
                case measure => simp only [intOf]; omega
          · have hlo2 : decide (o.f0 ≤ q.f0) = true := hlo.symm
            clear hlo
            go_wp2_with fail
            refine wp_region_quiet_below (by kernel_rfl) (by kernel_rfl) ?_
            repeat (go_big_quiet_step ((go_at_call 53; exact Calls.regrown_of (T.out _ _))))
            refine wpQuiet_nil ?_
            intro _ hw'
            obtain ⟨⟨dq, osq⟩, hw''⟩ := hw'
            subst hw''
            have HB5 := Lib.hid (below_then HB4.out HB4.out.size (below_regrown w4 dq osq))
            go_wp2_with fail
            go_ret
            refine ⟨?_, HB5.out⟩
            have hng : chkI l = 1 := chkI_no (not_good h HON.out (.inr (by obtain ⟨j, z, h1, h2, h3⟩ := HL1.out (by simp); exact ⟨j, z, h1, h2, .inl h3⟩)))
            rw [hng]; rfl
    · obtain rfl : n = l.length := by omega
      have hlt : decide (l.length < l.length) = false := decide_eq_false (by omega)
      go_wp2_with fail
      go_ret
      refine ⟨?_, HB.out⟩
      have hg : chkI l = 0 := chkI_yes HG.out
      rw [hg]; rfl
end
end Go.Proofs.Ytfikaekocgofoaa.AtA
