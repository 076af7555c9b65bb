import Derived.Test.YtnpphmgibgfjoaaRows
import Derived.Test.YtnpphmgibgfjoaaWWords
import Derived.SizedLaws
import Derived.ChangeArms
import Derived.Deep.Slices
import Derived.ArgAppend
import Derived.Test.YtnpphmgibgfjoaaProg
import Derived.Test.YtnpphmgibgfjoaaPAllx0
import Derived.WalkKit
import Derived.WalkSpells
import Derived.WalkLawsBesides
import Derived.Lib.Hide
import Derived.Deep.DeepMust
import Derived.Deep.RegionHeld3
import Derived.Lib.QuietBelow
import Derived.BigQuiet
import Derived.IntWalk
import Derived.Maps.OwnOps
import Derived.Maps.OwnSet
import Derived.Maps.Views
import Derived.Lib.BitFns
import Derived.Lib.ItoaNum
import Derived.Test.YtnpphmgibgfjoaaShelf
import Derived.Laws.BitsLemmas
import Derived.Laws.Bits64
import Derived.Test.YtnpphmgibgfjoaaShelfF
import Derived.Great.Walk
import Derived.StillTail
import Derived.Maps.RangeWalk
import Derived.Outline
import Derived.Lib.SliceRun
import Derived.Lib.LazyBuf
import Derived.Laws.BitsAllLaws
import Derived.Laws.EntriesVeiled
import Derived.Laws.CopyRow
import Derived.Laws.CopyOwn
import Derived.Laws.OwnMore
import Derived.Deep.RegionWith
/- Merged texts, one behind the other: Open, Mem, AtA, KW, MixP, MixW, StrP, CrP, Sort, QT, Grp, Sl, StrC, Dsc, AtB, Roo, Rep. -/
/- How an argument that is read as data is told by a kind of the words: what a row's proof needs of each type. -/
namespace Go.Proofs.Ytnpphmgibgfjoaa.Opns
open Go.RowKit Go.Proofs.YtnpphmgibgfjoaaW.PrintWords Go.Deep

theorem one_le {H : Type} (d : DataW H) : 1 ≤ Rows.uptoBulk d := by
  cases d with
  | lit l => cases l <;> simp [Rows.uptoBulk]
  | nil => simp [Rows.uptoBulk]
  | ptr d => simp [Rows.uptoBulk]
  | slice elems spare => simp [Rows.uptoBulk]
  | agg parts => simp [Rows.uptoBulk]
  | iface t d => simp [Rows.uptoBulk]
  | map entries => simp [Rows.uptoBulk]
  | held h => simp [Rows.uptoBulk]
theorem mem_all {H : Type} {P : Program} {e : TypeId} {x : DataW H} {n : Nat} : ∀ {xs : List (DataW H)}, x ∈ xs → n ∈ x.weights P e → n ∈ DataW.weightsAll P e xs
  | [], hx, _ => by cases hx
  | y :: r, hx, hn => by
    simp only [DataW.weightsAll, List.mem_append]
    rcases List.mem_cons.1 hx with rfl | hx
    · exact .inl hn
    · exact .inr (mem_all hx hn)

/-- What is read at type t is of kind d: good, and of no more bulk than its reading. -/
structure Opens {α : Type} (t : TypeId) (d : Kd α) (good : α → Prop) (bulk : α → Nat) : Prop where
  out : ∀ {H : Type} (enc : TypeId × Value → H) (w : World) (fuel : Nat) (cs : List Value) (y : DataW H) (ps : List MemPlace),
    DataW.trod enc Try.prog w 0 (fun _ => true) true fuel t cs = some (y, ps) → (∀ m ∈ y.weights Try.prog t, m ≤ reachBytes) → ∃ x, d.K w x cs ∧ good x ∧ bulk x ≤ Rows.uptoBulk y

theorem Opens.imp {α : Type} {t : TypeId} {d : Kd α} {good good' : α → Prop} {bulk bulk' : α → Nat} (h : Opens t d good bulk) (hg : ∀ x, good x → good' x) (hb : ∀ x, bulk' x ≤ bulk x) : Opens t d good' bulk' := by
  refine ⟨?_⟩
  intro H enc w fuel cs y ps h1 hw
  obtain ⟨x, a, b, c⟩ := h.out enc w fuel cs y ps h1 hw
  exact ⟨x, a, hg x b, Nat.le_trans (hb x) c⟩
theorem opens_int {t : TypeId} {k : IntKind} (ht : Try.prog.underlying t = some (.int k)) : Opens t (Kd.int k) (fun n => (Lit.int k n).wf = true) (fun _ => 1) := by
  refine ⟨?_⟩
  intro H enc w fuel cs y ps h _
  obtain ⟨n, rfl, hx, hw⟩ := DataW.trod_int ht h
  exact ⟨n, rfl, hw, one_le _⟩
theorem opens_bool {t : TypeId} (ht : Try.prog.underlying t = some .bool) : Opens t Kd.bool (fun _ => True) (fun _ => 1) := by
  refine ⟨?_⟩
  intro H enc w fuel cs y ps h _
  obtain ⟨n, rfl, hx⟩ := DataW.trod_bool ht h
  exact ⟨n, rfl, trivial, one_le _⟩
def lbulk {α : Type} (b : α → Nat) (xs : List α) : Nat := (xs.map b).foldr (· + ·) 0
theorem lbulk_cons {α : Type} (b : α → Nat) (x : α) (xs : List α) : lbulk b (x :: xs) = b x + lbulk b xs := rfl
theorem lbulk_le {α : Type} {H : Type} (b : α → Nat) : ∀ (xs : List α) (ys : List (DataW H)), xs.length = ys.length → (∀ (i : Nat) (x : α) (y : DataW H), xs[i]? = some x → ys[i]? = some y → b x ≤ Rows.uptoBulk y) → lbulk b xs ≤ Rows.uptoBulkAll ys
  | [], _, _, _ => by simp [lbulk]
  | x :: xs, [], h, _ => by simp at h
  | x :: xs, y :: ys, h, k => by
    rw [lbulk_cons]
    simp only [Rows.uptoBulkAll]
    have h1 := k 0 x y rfl rfl
    have h2 := lbulk_le b xs ys (by simpa using h) (fun i a c ha hc => k (i + 1) a c (by simpa using ha) (by simpa using hc))
    omega
theorem opens_slice {α : Type} [Inhabited α] {t e : TypeId} {d : Kd α} {good : α → Prop} {bulk : α → Nat} {B : Nat} (ht : Try.prog.underlying t = some (.slice e)) (hc : Try.prog.cellsOf e = d.sz) (hB : Try.prog.bytesOf e = B) (he : Opens e d good bulk) :
    Opens t (Kd.slice e d) (fun xs => (∀ x ∈ xs, good x) ∧ xs.length * B ≤ reachBytes) (fun xs => lbulk bulk xs + 1) := by
  refine ⟨?_⟩
  intro H enc w fuel cs y ps h hw
  rcases open_slice ht h with ⟨rfl, hx⟩ | ⟨a, len, cap, m, n, D, Pl, rfl, _, hl, hm, hmm, hx, hel⟩
  · obtain ⟨rfl, rfl⟩ := Prod.mk.inj hx
    exact ⟨[], ⟨none, 0, rfl, Nat.le_refl _, rfl, Nat.zero_le _, fun h0 => absurd h0 (Nat.lt_irrefl 0)⟩, ⟨fun x hx => (List.not_mem_nil hx).elim, by show ([] : List α).length * B ≤ _; rw [List.length_nil, Nat.zero_mul]; exact Nat.zero_le _⟩, one_le _⟩
  · have e1 : y = _ := congrArg Prod.fst hx
    clear hx
    subst e1
    have hlm : len ≤ m := by rw [hmm]; exact hl
    have hws : ∀ i, i < len → ∀ q ∈ (D i).weights Try.prog e, q ≤ reachBytes := by
      intro i hi q hq
      refine hw q ?_
      simp only [DataW.weights, ht, List.mem_cons, List.mem_append]
      exact .inr (.inl (mem_all (List.mem_map.2 ⟨i, List.mem_range.2 hi, rfl⟩) hq))
    obtain ⟨X, hX⟩ := choose_lt (α := α) (n := len) (p := fun i x => ∃ cs', w.cells? 0 (a.add (i * Try.prog.cellsOf e)) (Try.prog.cellsOf e) = some cs' ∧ d.K w x cs' ∧ good x ∧ bulk x ≤ Rows.uptoBulk (D i)) (fun i hi => by
      obtain ⟨cs', h1, h2⟩ := hel i (by omega)
      obtain ⟨x, h3, h4, h5⟩ := he.out enc w n cs' (D i) (Pl i) h2 (hws i hi)
      exact ⟨x, cs', h1, h3, h4, h5⟩)
    have hlen : ((List.range len).map X).length = len := by simp
    refine ⟨(List.range len).map X, ⟨some a, cap, by rw [hlen], by rw [hlen]; exact hl, hlen.trans hlen.symm, by rw [hlen]; unfold maxLen at hm; omega, fun _ => ⟨a, rfl, fun j p hj => ?_⟩⟩, ⟨fun x hx => ?_, ?_⟩, ?_⟩
    · have hj' : j < len := by
        have := (List.getElem?_eq_some_iff.1 hj).1
        simpa using this
      obtain ⟨cs', h1, h3, _, _⟩ := hX j hj'
      have hp : p = X j := by simp [hj'] at hj; exact hj.symm
      subst hp
      obtain ⟨_, hcl, hcell⟩ := World.cells?_some h1
      rw [hc] at hcl hcell
      refine ⟨cs', hcl, h3, fun i u hu => ?_⟩
      have hi : i < d.sz := by rw [← hcl]; exact (List.getElem?_eq_some_iff.1 hu).1
      have := hcell i hi
      rw [hu, Go.Deep.add_add] at this
      exact this
    · obtain ⟨i, hi, rfl⟩ := List.mem_map.1 hx
      exact (hX i (List.mem_range.1 hi)).choose_spec.2.2.1
    · rw [hlen]
      have := hw ((((List.range len).map D).length + ((List.range (m - len)).map fun j => D (len + j)).length) * Try.prog.bytesOf e) (by simp only [DataW.weights, ht]; exact List.mem_cons_self)
      rw [hB] at this
      refine Nat.le_trans (Nat.mul_le_mul_right _ ?_) this
      simp
    · have := lbulk_le (H := H) bulk ((List.range len).map X) ((List.range len).map D) (by simp) (fun i x y hx hy => by
        have hi : i < len := by
          have := (List.getElem?_eq_some_iff.1 hx).1
          simpa using this
        simp [hi] at hx hy
        rw [← hx, ← hy]
        exact (hX i hi).choose_spec.2.2.2)
      simp only [Rows.uptoBulk]
      omega
/-- Fields in line, from a place on. -/
structure OpensF {α : Type} (fs : List Field) (off : Nat) (d : Kd α) (good : α → Prop) (bulk : α → Nat) : Prop where
  out : ∀ {H : Type} (enc : TypeId × Value → H) (w : World) (n : Nat) (cs : List Value) (xs : List (DataW H × List MemPlace)), cs.length = off + d.sz → xs.length = fs.length →
    (∀ (i : Nat) (f : Field), fs[i]? = some f → DataW.trod enc Try.prog w 0 (fun _ => true) true n f.type ((cs.drop f.offset).take (Try.prog.cellsOf f.type)) = xs[i]?) →
    (∀ m ∈ DataW.weightsEach Try.prog (fs.map (·.type)) (xs.map (·.1)), m ≤ reachBytes) → ∃ x, d.K w x (cs.drop off) ∧ good x ∧ bulk x ≤ Rows.uptoBulkAll (xs.map (·.1))
theorem opensF_one {α : Type} {f : Field} {d : Kd α} {good : α → Prop} {bulk : α → Nat} (hc : Try.prog.cellsOf f.type = d.sz) (he : Opens f.type d good bulk) : OpensF [f] f.offset d good bulk := by
  refine ⟨?_⟩
  intro H enc w n cs xs hl hxl hx hw
  obtain ⟨⟨y, ps⟩, rfl⟩ : ∃ x, xs = [x] := by
    match xs, hxl with
    | [x], _ => exact ⟨x, rfl⟩
  have h1 := hx 0 f rfl
  have hcut : (cs.drop f.offset).take (Try.prog.cellsOf f.type) = cs.drop f.offset := List.take_of_length_le (by rw [List.length_drop, hc]; omega)
  rw [hcut] at h1
  obtain ⟨x, k1, k2, k3⟩ := he.out enc w n _ y ps h1 (fun m hm => hw m (by simp [DataW.weightsEach]; exact hm))
  exact ⟨x, k1, k2, by simp only [List.map_cons, List.map_nil, Rows.uptoBulkAll]; omega⟩
theorem opensF_cons {α β : Type} {f : Field} {fs : List Field} {off : Nat} {d : Kd α} {d2 : Kd β} {good : α → Prop} {good2 : β → Prop} {bulk : α → Nat} {bulk2 : β → Nat} (hc : Try.prog.cellsOf f.type = d.sz) (ho : off = f.offset + d.sz)
    (he : Opens f.type d good bulk) (hf : OpensF fs off d2 good2 bulk2) : OpensF (f :: fs) f.offset (Kd.pair d d2) (fun x => good x.1 ∧ good2 x.2) (fun x => bulk x.1 + bulk2 x.2) := by
  refine ⟨?_⟩
  intro H enc w n cs xs hl hxl hx hw
  obtain ⟨⟨y, ps⟩, r, rfl⟩ : ∃ x r, xs = x :: r := by
    match xs, hxl with
    | x :: r, _ => exact ⟨x, r, rfl⟩
  have hl' : cs.length = f.offset + (d.sz + d2.sz) := hl
  have h1 := hx 0 f rfl
  rw [hc] at h1
  obtain ⟨x, k1, k2, k3⟩ := he.out enc w n _ y ps h1 (fun m hm => hw m (by simp only [List.map_cons, DataW.weightsEach, List.mem_append]; exact .inl hm))
  obtain ⟨x2, j1, j2, j3⟩ := hf.out enc w n cs r (by omega) (by simpa using hxl) (fun i g hg => by have := hx (i + 1) g (by simpa using hg); simpa using this)
    (fun m hm => hw m (by simp only [List.map_cons, DataW.weightsEach, List.mem_append]; exact .inr hm))
  refine ⟨(x, x2), ⟨_, _, ?_, k1, j1⟩, ⟨k2, j2⟩, by simp only [List.map_cons, Rows.uptoBulkAll]; omega⟩
  rw [ho, ← List.drop_drop]
  exact (List.take_append_drop d.sz (cs.drop f.offset)).symm
theorem opens_struct {α β : Type} {t : TypeId} {fs : Array Field} {d : Kd α} {good : α → Prop} {bulk : α → Nat} {g : β → α} {gi : α → β} (hg : ∀ x, g (gi x) = x) (ht : Try.prog.underlying t = some (.struct fs)) (hc : Try.prog.cellsOf t = d.sz)
    (hf : OpensF fs.toList 0 d good bulk) : Opens t (Kd.iso d g) (fun x => good (g x)) (fun x => bulk (g x) + 1) := by
  refine ⟨?_⟩
  intro H enc w fuel cs y ps h hw
  obtain ⟨xs, n, rfl, hx, hl, hxl, hel⟩ := DataW.trod_struct ht h
  obtain ⟨rfl, rfl⟩ := Prod.mk.inj hx
  obtain ⟨x, k1, k2, k3⟩ := hf.out enc w n cs xs (by rw [hl, hc]; omega) (by simpa using hxl) (fun i f hi => hel i f (by simpa using hi)) (fun m hm => hw m (by simp only [DataW.weights, ht]; exact hm))
  refine ⟨gi x, ?_, by show good (g (gi x)); rw [hg]; exact k2, by show bulk (g (gi x)) + 1 ≤ _; rw [hg]; simp only [Rows.uptoBulk]; omega⟩
  show d.K w (g (gi x)) cs
  rw [hg]
  exact k1
end Go.Proofs.Ytnpphmgibgfjoaa.Opns
namespace Go.Proofs.Ytnpphmgibgfjoaa.Opns
open Go.RowKit Go.Proofs.YtnpphmgibgfjoaaW.PrintWords Go.Deep
theorem okw_struct {P : Program} {w : World} {r : Reach} {base : Nat} {t : TypeId} {v : Value} {fs : Array Field} (ht : P.underlying t = some (.struct fs)) (h : Value.okWide P w r base t v) : ∃ cs, v = .agg cs := by
  simp only [Value.okWide, ht] at h
  obtain ⟨cs, rfl, _⟩ := h
  exact ⟨cs, rfl⟩
section
variable {H : Type} {enc : TypeId × Value → H} {W : World} {t : TypeId} {y : DataW H} {ps : List MemPlace}
theorem arg_slice {α : Type} {e : TypeId} {d : Kd α} {good : List α → Prop} {bulk : List α → Nat} {a : Option Addr} {len cap : Nat} (ho : Opens t (Kd.slice e d) good bulk)
    (h : DataW.Trod enc Try.prog W 0 (fun _ => true) true t (.slice a len cap) y ps) (hw : ∀ m ∈ y.weights Try.prog t, m ≤ reachBytes) :
    ∃ x : List α, len = x.length ∧ x.length ≤ cap ∧ d.C W a x.length x ∧ good x ∧ bulk x ≤ Rows.uptoBulk y := by
  obtain ⟨fuel, hf⟩ := h
  obtain ⟨x, hk, hg, hb⟩ := ho.out enc W fuel _ y ps hf hw
  obtain ⟨A, c, he, hl, hc⟩ := hk
  have he' : [Value.slice a len cap] = [.slice A x.length c] := he
  injection he' with he' _
  injection he' with h1 h2 h3
  subst h1 h2 h3
  exact ⟨x, rfl, hl, hc, hg, hb⟩
theorem arg_agg {α : Type} {d : Kd α} {good : α → Prop} {bulk : α → Nat} {cs : Array Value} (ho : Opens t d good bulk)
    (h : DataW.Trod enc Try.prog W 0 (fun _ => true) true t (.agg cs) y ps) (hw : ∀ m ∈ y.weights Try.prog t, m ≤ reachBytes) :
    ∃ x : α, d.K W x cs.toList ∧ good x ∧ bulk x ≤ Rows.uptoBulk y := by
  obtain ⟨fuel, hf⟩ := h
  exact ho.out enc W fuel _ y ps hf hw
theorem weigh {ts : List TypeId} {ds : List (DataW H)} {j : Nat} (hsz : (DataW.weightsEach Try.prog ts ds).all (· ≤ reachBytes) = true) (ht : ts[j]? = some t) (hd : ds[j]? = some y) : ∀ m ∈ y.weights Try.prog t, m ≤ reachBytes := by
  intro m hm
  have := List.all_eq_true.1 hsz m (DataW.weights_mem_each ht hd m hm)
  exact of_decide_eq_true this
end
end Go.Proofs.Ytnpphmgibgfjoaa.Opns
namespace Go.Proofs.Ytnpphmgibgfjoaa.Mem
open Go.RowKit Go.Proofs.YtnpphmgibgfjoaaW.PrintWords

/-- A row of whole numbers (element type e) of the call's own. -/
def Ow (k : IntKind) (e : Nat) (w : World) (base : Nat) (v : Value) (xs : List Int) : Prop := (Kd.int k).R e w base (fun _ => True) v xs
/-- One to which an append makes a row of the call's own: it is that already, or it has no room. -/
def Ap (k : IntKind) (e : Nat) (w : World) (base : Nat) (v : Value) (xs : List Int) : Prop := Ow k e w base v xs ∨ ∃ A, v = .slice A xs.length xs.length ∧ (Kd.int k).C w A xs.length xs
theorem Ow.below {k : IntKind} {e : Nat} {w w1 : World} {base : Nat} {v : Value} {xs : List Int} (h : Ow k e w base v xs) (hb : Below w.heap.size w w1) : Ow k e w1 base v xs := Kd.R_below h hb
theorem Ow.reads {k : IntKind} {e : Nat} {w : World} {base : Nat} {v : Value} {xs : List Int} (h : Ow k e w base v xs) : ∃ A c, v = .slice A xs.length c ∧ xs.length ≤ c ∧ (Kd.int k).C w A xs.length xs := Kd.R_reads h
theorem Ow.nil (k : IntKind) (e : Nat) (w : World) (base : Nat) : Ow k e w base (.slice none 0 0) [] := Kd.R_nil _ _ _ _ _
theorem Ap.slice {k : IntKind} {e : Nat} {w : World} {base : Nat} {v : Value} {xs : List Int} (h : Ap k e w base v xs) : ∃ A c, v = .slice A xs.length c ∧ xs.length ≤ c := by
  rcases h with h | ⟨A, rfl, _⟩
  · obtain ⟨A, c, rfl, hc, _⟩ := Ow.reads h; exact ⟨A, c, rfl, hc⟩
  · exact ⟨A, _, rfl, Nat.le_refl _⟩
theorem Ap.below {k : IntKind} {e : Nat} {w w1 : World} {base : Nat} {v : Value} {xs : List Int} (h : Ap k e w base v xs) (hb : Below w.heap.size w w1) : Ap k e w1 base v xs := by
  rcases h with h | ⟨A, rfl, hC⟩
  · exact .inl (h.below hb)
  · exact .inr ⟨A, rfl, Kd.C_below hC hb⟩
theorem Ap.alloc {k : IntKind} {e : Nat} {w : World} {base : Nat} {v : Value} {xs : List Int} (h : Ap k e w base v xs) (o : Obj) : Ap k e (w.alloc o) base v xs := h.below (below_alloc (Below.refl _ _) o)
section
variable {P : Program} {ops : Array Oper} {rest : List Oper} {o : Oper} {a : Act} {Q : Exit → Act → World → Prop}
end
/-- The cells of an owned row. -/
theorem Ow.cells {k : IntKind} {e : Nat} {w : World} {base : Nat} {v : Value} {xs : List Int} (h : Ow k e w base v xs) (hp : 0 < xs.length) : ∃ g cap, v = .slice (some ⟨g, 0, none⟩) xs.length cap ∧ xs.length ≤ cap ∧ base ≤ g ∧ g < w.heap.size ∧ ∀ i x, xs[i]? = some x → w.cell? ⟨g, i, none⟩ = some (.int k x) := by
  obtain ⟨g, cap, rfl, hb, hl, _⟩ := Kd.R_form h hp
  obtain ⟨_, hc, hC⟩ := Kd.R_reads' h
  refine ⟨g, cap, rfl, hc, hb, hl, fun i x hx => ?_⟩
  have hr : ReadsOf (Value.int k) (0 : Int) w (some ⟨g, 0, none⟩) xs.length xs := Kd.reads_of_C hC
  have hi : i < xs.length := (List.getElem?_eq_some_iff.1 hx).1
  obtain ⟨ad, e, hcell⟩ := hr.2.2 hp
  injection e with e
  subst e
  have := hcell i hi
  rw [List.getD_eq_getElem?_getD, hx] at this
  rw [show (⟨g, 0, none⟩ : Addr).add i = ⟨g, i, none⟩ by unfold Addr.add; split <;> simp_all] at this
  exact this
end Go.Proofs.Ytnpphmgibgfjoaa.Mem
/- Which maps may be: atlas.Check. -/
namespace Go.Proofs.Ytnpphmgibgfjoaa.AtA
open Go.RowKit Go.Proofs.YtnpphmgibgfjoaaW.PrintWords Go.Proofs.YtnpphmgibgfjoaaW.PrintMore Mem PAll
open Go.Maps (Keyed int_keyed keyOf_int_mk)
abbrev Od := S40
abbrev kO := k40
/-- From 0 to b? -/
def winB (a b : Int) : Bool := decide (0 ≤ a ∧ a ≤ b)
theorem win_calls (a b : Int) (w : World) : Calls Try.prog 70 #[.int .i64 a, .int .i64 b] w fun e w' => e = .returned (.bool (winB a b)) ∧ w = w' := by
  by_cases h0 : 0 ≤ a
  · have e1 : winB a b = decide (a ≤ b) := by unfold winB; rw [decide_eq_decide]; exact ⟨fun h => h.2, fun h => ⟨h0, h⟩⟩
    rw [e1]
    have h1 : decide (0 ≤ a) = true := decide_eq_true h0
    clear e1 h0
    go_enter Try.func70, Try.ntmps70
    go_wp2
    go_ret
    exact ⟨rfl, rfl⟩
  · have e1 : winB a b = false := decide_eq_false (fun h => h0 h.1)
    rw [e1]
    have h1 : decide (0 ≤ a) = false := decide_eq_false h0
    clear e1 h0
    go_enter Try.func70, Try.ntmps70
    go_wp2
    go_ret
    exact ⟨rfl, rfl⟩
/-- May an OSD be? -/
def osdB (o : Od) : Bool := winB o.f0 999 && (winB o.f6 999 && (winB o.f7 999 && (winB o.f3 16777216 && (winB o.f4 2147483647 && (winB o.f5 2147483647 && (!o.f1 || (decide (1 ≤ o.f4) && decide (1 ≤ o.f5))))))))
/-- May a pool be? -/
def poolB (k m p d : Int) : Bool := decide (1 ≤ k) && (decide (1 ≤ m) && (decide (k ≤ 32) && (decide (m ≤ 32 - k) && (decide (1 ≤ p) && (decide (p ≤ 32) && winB d 2)))))
set_option maxHeartbeats 4000000 in
theorem osd_calls (o : Od) (w : World) : Calls Try.prog 72 #[.agg #[.int .i64 o.f0, .bool o.f1, .bool o.f2, .int .i64 o.f3, .int .i64 o.f4, .int .i64 o.f5, .int .i64 o.f6, .int .i64 o.f7]] w fun e w' => e = .returned (.bool (osdB o)) ∧ Below w.heap.size w w' := by
  have HB := Lib.hid (below_alloc (Below.refl w.heap.size w) (.cells #[.int .i64 o.f0, .bool o.f1, .bool o.f2, .int .i64 o.f3, .int .i64 o.f4, .int .i64 o.f5, .int .i64 o.f6, .int .i64 o.f7] 40))
  cases b1 : winB o.f0 999
  · have e : osdB o = false := by simp [osdB, b1]
    rw [e]
    clear e
    go_enter Try.func72, Try.ntmps72
    go_wp2_with (go_at_call 70; refine (win_calls _ _ _).mono ?_; rintro e w1 ⟨rfl, rfl⟩)
    go_ret
    exact ⟨rfl, by first | exact HB.out | exact below_alloc (Below.refl _ _) _⟩
  cases b2 : winB o.f6 999
  · have e : osdB o = false := by simp [osdB, b1, b2]
    rw [e]
    clear e
    go_enter Try.func72, Try.ntmps72
    go_wp2_with (go_at_call 70; refine (win_calls _ _ _).mono ?_; rintro e w1 ⟨rfl, rfl⟩)
    go_ret
    exact ⟨rfl, by first | exact HB.out | exact below_alloc (Below.refl _ _) _⟩
  cases b3 : winB o.f7 999
  · have e : osdB o = false := by simp [osdB, b1, b2, b3]
    rw [e]
    clear e
    go_enter Try.func72, Try.ntmps72
    go_wp2_with (go_at_call 70; refine (win_calls _ _ _).mono ?_; rintro e w1 ⟨rfl, rfl⟩)
    go_ret
    exact ⟨rfl, by first | exact HB.out | exact below_alloc (Below.refl _ _) _⟩
  cases b4 : winB o.f3 16777216
  · have e : osdB o = false := by simp [osdB, b1, b2, b3, b4]
    rw [e]
    clear e
    go_enter Try.func72, Try.ntmps72
    go_wp2_with (go_at_call 70; refine (win_calls _ _ _).mono ?_; rintro e w1 ⟨rfl, rfl⟩)
    go_ret
    exact ⟨rfl, by first | exact HB.out | exact below_alloc (Below.refl _ _) _⟩
  cases b5 : winB o.f4 2147483647
  · have e : osdB o = false := by simp [osdB, b1, b2, b3, b4, b5]
    rw [e]
    clear e
    go_enter Try.func72, Try.ntmps72
    go_wp2_with (go_at_call 70; refine (win_calls _ _ _).mono ?_; rintro e w1 ⟨rfl, rfl⟩)
    go_ret
    exact ⟨rfl, by first | exact HB.out | exact below_alloc (Below.refl _ _) _⟩
  cases b6 : winB o.f5 2147483647
  · have e : osdB o = false := by simp [osdB, b1, b2, b3, b4, b5, b6]
    rw [e]
    clear e
    go_enter Try.func72, Try.ntmps72
    go_wp2_with (go_at_call 70; refine (win_calls _ _ _).mono ?_; rintro e w1 ⟨rfl, rfl⟩)
    go_ret
    exact ⟨rfl, by first | exact HB.out | exact below_alloc (Below.refl _ _) _⟩
  cases b7 : o.f1
  · have e : osdB o = true := by simp [osdB, b1, b2, b3, b4, b5, b6, b7]
    rw [e]
    clear e
    go_enter Try.func72, Try.ntmps72
    go_wp2_with (go_at_call 70; refine (win_calls _ _ _).mono ?_; rintro e w1 ⟨rfl, rfl⟩)
    go_ret
    exact ⟨rfl, by first | exact HB.out | exact below_alloc (Below.refl _ _) _⟩
  cases b8 : decide (1 ≤ o.f4)
  · have e : osdB o = false := by simp only [osdB, b1, b2, b3, b4, b5, b6, b7, b8]; rfl
    rw [e]
    clear e
    go_enter Try.func72, Try.ntmps72
    go_wp2_with (go_at_call 70; refine (win_calls _ _ _).mono ?_; rintro e w1 ⟨rfl, rfl⟩)
    go_ret
    exact ⟨rfl, by first | exact HB.out | exact below_alloc (Below.refl _ _) _⟩
  cases b9 : decide (1 ≤ o.f5)
  · have e : osdB o = false := by simp only [osdB, b1, b2, b3, b4, b5, b6, b7, b8, b9]; rfl
    rw [e]
    clear e
    go_enter Try.func72, Try.ntmps72
    go_wp2_with (go_at_call 70; refine (win_calls _ _ _).mono ?_; rintro e w1 ⟨rfl, rfl⟩)
    go_ret
    exact ⟨rfl, by first | exact HB.out | exact below_alloc (Below.refl _ _) _⟩
  · have e : osdB o = true := by simp only [osdB, b1, b2, b3, b4, b5, b6, b7, b8, b9]; rfl
    rw [e]
    clear e
    go_enter Try.func72, Try.ntmps72
    go_wp2_with (go_at_call 70; refine (win_calls _ _ _).mono ?_; rintro e w1 ⟨rfl, rfl⟩)
    go_ret
    exact ⟨rfl, by first | exact HB.out | exact below_alloc (Below.refl _ _) _⟩
set_option maxHeartbeats 4000000 in
theorem pool_calls (k m p d : Int) (w : World) : Calls Try.prog 71 #[.agg #[.int .i64 k, .int .i64 m, .int .i64 p, .int .i64 d]] w fun e w' => e = .returned (.bool (poolB k m p d)) ∧ Below w.heap.size w w' := by
  have HB := Lib.hid (below_alloc (Below.refl w.heap.size w) (.cells #[.int .i64 k, .int .i64 m, .int .i64 p, .int .i64 d] 23))
  cases b1 : decide (1 ≤ k)
  · have e : poolB k m p d = false := by simp only [poolB, b1]; rfl
    rw [e]
    clear e
    go_enter Try.func71, Try.ntmps71
    go_wp2_with (go_at_call 70; refine (win_calls _ _ _).mono ?_; rintro e w1 ⟨rfl, rfl⟩)
    go_ret
    exact ⟨rfl, by first | exact HB.out | exact below_alloc (Below.refl _ _) _⟩
  cases b2 : decide (1 ≤ m)
  · have e : poolB k m p d = false := by simp only [poolB, b1, b2]; rfl
    rw [e]
    clear e
    go_enter Try.func71, Try.ntmps71
    go_wp2_with (go_at_call 70; refine (win_calls _ _ _).mono ?_; rintro e w1 ⟨rfl, rfl⟩)
    go_ret
    exact ⟨rfl, by first | exact HB.out | exact below_alloc (Below.refl _ _) _⟩
  cases b3 : decide (k ≤ 32)
  · have e : poolB k m p d = false := by simp only [poolB, b1, b2, b3]; rfl
    rw [e]
    clear e
    go_enter Try.func71, Try.ntmps71
    go_wp2_with (go_at_call 70; refine (win_calls _ _ _).mono ?_; rintro e w1 ⟨rfl, rfl⟩)
    go_ret
    exact ⟨rfl, by first | exact HB.out | exact below_alloc (Below.refl _ _) _⟩
  cases b4 : decide (m ≤ 32 - k)
  · have e : poolB k m p d = false := by simp only [poolB, b1, b2, b3, b4]; rfl
    have k1 : 1 ≤ k := of_decide_eq_true b1
    have k2 : k ≤ 32 := of_decide_eq_true b3
    rw [e]
    clear e
    go_enter Try.func71, Try.ntmps71
    go_wp2_with (go_at_call 70; refine (win_calls _ _ _).mono ?_; rintro e w1 ⟨rfl, rfl⟩)
    go_ret
    exact ⟨rfl, by first | exact HB.out | exact below_alloc (Below.refl _ _) _⟩
  cases b5 : decide (1 ≤ p)
  · have e : poolB k m p d = false := by simp only [poolB, b1, b2, b3, b4, b5]; rfl
    have k1 : 1 ≤ k := of_decide_eq_true b1
    have k2 : k ≤ 32 := of_decide_eq_true b3
    rw [e]
    clear e
    go_enter Try.func71, Try.ntmps71
    go_wp2_with (go_at_call 70; refine (win_calls _ _ _).mono ?_; rintro e w1 ⟨rfl, rfl⟩)
    go_ret
    exact ⟨rfl, by first | exact HB.out | exact below_alloc (Below.refl _ _) _⟩
  cases b6 : decide (p ≤ 32)
  · have e : poolB k m p d = false := by simp only [poolB, b1, b2, b3, b4, b5, b6]; rfl
    have k1 : 1 ≤ k := of_decide_eq_true b1
    have k2 : k ≤ 32 := of_decide_eq_true b3
    rw [e]
    clear e
    go_enter Try.func71, Try.ntmps71
    go_wp2_with (go_at_call 70; refine (win_calls _ _ _).mono ?_; rintro e w1 ⟨rfl, rfl⟩)
    go_ret
    exact ⟨rfl, by first | exact HB.out | exact below_alloc (Below.refl _ _) _⟩
  cases b7 : winB d 2
  · have e : poolB k m p d = false := by simp only [poolB, b1, b2, b3, b4, b5, b6, b7]; rfl
    have k1 : 1 ≤ k := of_decide_eq_true b1
    have k2 : k ≤ 32 := of_decide_eq_true b3
    rw [e]
    clear e
    go_enter Try.func71, Try.ntmps71
    go_wp2_with (go_at_call 70; refine (win_calls _ _ _).mono ?_; rintro e w1 ⟨rfl, rfl⟩)
    go_ret
    exact ⟨rfl, by first | exact HB.out | exact below_alloc (Below.refl _ _) _⟩
  · have e : poolB k m p d = true := by simp only [poolB, b1, b2, b3, b4, b5, b6, b7]; rfl
    have k1 : 1 ≤ k := of_decide_eq_true b1
    have k2 : k ≤ 32 := of_decide_eq_true b3
    rw [e]
    clear e
    go_enter Try.func71, Try.ntmps71
    go_wp2_with (go_at_call 70; refine (win_calls _ _ _).mono ?_; rintro e w1 ⟨rfl, rfl⟩)
    go_ret
    exact ⟨rfl, by first | exact HB.out | exact below_alloc (Below.refl _ _) _⟩
abbrev DW := DataW Unit
abbrev OM (w : World) (b n : Nat) (D : DW) : Prop := w.ownsMap Try.prog 3 (plainElem Try.prog 3) b n D
theorem keyI : Keyed Try.prog 3 := int_keyed Try.underlying3
theorem zeroI (w : World) : (zeroValue 3).run Try.prog w = .ok (.int .i64 0) w := by kernel_rfl
theorem look_rack {w : World} {b n : Nat} {D : DW} (h : OM w b n D) (v : Int) (hv : (Lit.int .i64 v).wf = true) : ∃ c, (Instr.lookup 103 (.map (some b)) (.int .i64 v) true).run Try.prog w = .ok (.tuple #[.int .i64 c, .bool (Maps.has D (.int .i64 v))]) w ∧ D.atKey (.int .i64 v) (.lit (.int .i64 0)) = .lit (.int .i64 c) := by
  obtain ⟨y, ps, hrun, hy⟩ := h.look_ok keyI Try.underlying103 (zeroI w) (plainElem_int Try.underlying3 (by decide)) (keyOf_int_mk Try.underlying3 hv)
  obtain ⟨c, rfl, hc, _⟩ := plainElem_int_inv Try.underlying3 hy
  exact ⟨c, hrun, congrArg Prod.fst hc⟩
/-- May the first k be? -/
def Good (l : List Od) (k : Nat) : Prop := ∀ i o, i < k → l[i]? = some o → osdB o = true ∧ ∀ j p, j < i → l[j]? = some p → p.f0 < o.f0 ∧ (p.f6 = o.f6 → p.f7 = o.f7)
/-- What the map of racks holds. -/
def Racks (l : List Od) (k : Nat) (D : DW) : Prop := (∀ i o, i < k → l[i]? = some o → Maps.has D (.int .i64 o.f6) = true ∧ D.atKey (.int .i64 o.f6) (.lit (.int .i64 0)) = .lit (.int .i64 o.f7)) ∧ (∀ h : Int, Maps.has D (.int .i64 h) = true → ∃ i o, i < k ∧ l[i]? = some o ∧ o.f6 = h)
theorem racks_put {l : List Od} {k : Nat} {D : DW} {o : Od} (h : Racks l k D) (hm : Go.Maps.IsMap D) (ho : l[k]? = some o) (hg : Good l (k + 1)) : Racks l (k + 1) (D.put (.int .i64 o.f6) (.lit (.int .i64 o.f7))) := by
  refine ⟨fun i p hi hp => ?_, fun v hv => ?_⟩
  · by_cases e : p.f6 = o.f6
    · have hr : p.f7 = o.f7 := by
        rcases Nat.lt_or_ge i k with hik | hik
        · exact ((hg k o (by omega) ho).2 i p hik hp).2 e
        · obtain rfl : i = k := by omega
          rw [ho] at hp
          rw [Option.some.inj hp]
      rw [e, hr]
      exact ⟨Go.Maps.has_put_same hm (by trivial) _, Go.Maps.atKey_put_same hm (by trivial) _ _⟩
    · have hik : i < k := by
        rcases Nat.lt_or_ge i k with hik | hik
        · exact hik
        · obtain rfl : i = k := by omega
          rw [ho] at hp
          exact absurd (by rw [Option.some.inj hp]) e
      have hne : (Lit.int .i64 p.f6) ≠ (Lit.int .i64 o.f6) := by intro hh; injection hh with _ hh; exact e hh
      rw [Go.Maps.has_put_other hne, Go.Maps.atKey_put_other hne]
      exact h.1 i p hik hp
  · by_cases e : v = o.f6
    · exact ⟨k, o, by omega, ho, e.symm⟩
    · rw [Go.Maps.has_put_other (by intro hh; injection hh with _ hh; exact e hh)] at hv
      obtain ⟨i, p, h1, h2, h3⟩ := h.2 v hv
      exact ⟨i, p, by omega, h2, h3⟩
theorem good_step {l : List Od} {k : Nat} {D : DW} {o : Od} (hg : Good l k) (hr : Racks l k D) (ho : l[k]? = some o) (h1 : osdB o = true) (h2 : ∀ p, 0 < k → l[k - 1]? = some p → p.f0 < o.f0) (h3 : Maps.has D (.int .i64 o.f6) = true → D.atKey (.int .i64 o.f6) (.lit (.int .i64 0)) = .lit (.int .i64 o.f7)) : Good l (k + 1) := by
  intro i p hi hp
  rcases Nat.lt_or_ge i k with hik | hik
  · exact hg i p hik hp
  · obtain rfl : i = k := by omega
    rw [ho] at hp
    obtain rfl := Option.some.inj hp
    refine ⟨h1, fun j q hj hq => ⟨?_, fun e => ?_⟩⟩
    · have hk : 0 < i := by omega
      have hlt : i - 1 < l.length := by have := (List.getElem?_eq_some_iff.1 ho).1; omega
      have hb := h2 l[i - 1] hk (List.getElem?_eq_getElem hlt)
      rcases Nat.lt_or_ge j (i - 1) with hj2 | hj2
      · have := ((hg (i - 1) l[i - 1] (by omega) (List.getElem?_eq_getElem hlt)).2 j q hj2 hq).1
        omega
      · obtain rfl : j = i - 1 := by omega
        rw [List.getElem?_eq_getElem hlt] at hq
        rw [← Option.some.inj hq]; exact hb
    · have := hr.1 j q hj hq
      rw [e] at this
      have h4 := h3 this.1
      rw [this.2] at h4
      injection h4 with h4
      injection h4
theorem not_good {l : List Od} {k n : Nat} {o : Od} (hk : k < n) (ho : l[k]? = some o) (h : osdB o = false ∨ ∃ j p, j < k ∧ l[j]? = some p ∧ (o.f0 ≤ p.f0 ∨ (p.f6 = o.f6 ∧ p.f7 ≠ o.f7))) : ¬ Good l n := by
  intro hg
  have := hg k o hk ho
  rcases h with h | ⟨j, p, h1, h2, h3⟩
  · rw [h] at this; exact absurd this.1 (by decide)
  · have h4 := this.2 j p h1 h2
    rcases h3 with h3 | ⟨h3, h5⟩
    · omega
    · exact h5 (h4.2 h3)
open Classical in
/-- May the map's OSDs be? -/
noncomputable def goodB (l : List Od) : Bool := decide (Good l l.length)
open Classical in
theorem goodB_no {l : List Od} (h : ¬ Good l l.length) : goodB l = false := decide_eq_false h
open Classical in
theorem goodB_yes {l : List Od} (h : Good l l.length) : goodB l = true := decide_eq_true h
open Classical in
theorem goodB_iff {l : List Od} : goodB l = true ↔ Good l l.length := decide_eq_true_iff
/-- What Check tells of the OSDs. -/
noncomputable def chkI (l : List Od) : Int := if goodB l = true then 0 else 1
theorem chkI_no {l : List Od} (h : ¬ Good l l.length) : chkI l = 1 := by unfold chkI; rw [goodB_no h]; rfl
theorem chkI_yes {l : List Od} (h : Good l l.length) : chkI l = 0 := by unfold chkI; rw [goodB_yes h]; rfl
noncomputable def mayB (ep k m p d : Int) (l : List Od) : Bool := winB ep 1048576 && (poolB k m p d && (decide (l.length ≤ 64) && goodB l))
theorem om_below {w w1 : World} {b n : Nat} {D : DW} (h : OM w b n D) (hb : Below w.heap.size w w1) : OM w1 b n D := h.kept (grown_of_below hb none) (by simp)
theorem made (w : World) (o : Obj) : OM ((w.alloc o).alloc (.map #[] 0)) (w.heap.size + 1) 0 (.map []) := by
  have e : (w.alloc o).heap.size = w.heap.size + 1 := by simp
  exact e ▸ World.ownsMap_made (w.alloc o) Try.prog _ _
section
variable (ep k m p d : Int) (A : Option Addr) (c : Nat) (l : List Od) (w : World)
def boxM : Array Value := #[.int .i64 ep, .int .i64 k, .int .i64 m, .int .i64 p, .int .i64 d, .slice A l.length c]
theorem check_ep (h : winB ep 1048576 = false) :
    Calls Try.prog 40 #[.agg (boxM ep k m p d A c l)] w fun e w' => e = .returned (.int .i64 1) ∧ Below w.heap.size w w' := by
  unfold boxM
  have HB := Lib.hid (below_alloc (Below.refl w.heap.size w) (.cells #[.int .i64 ep, .int .i64 k, .int .i64 m, .int .i64 p, .int .i64 d, .slice A l.length c] 26))
  go_enter Try.func40, Try.ntmps40
  go_wp2_with fail
  refine (win_calls _ _ _).mono ?_
  rintro e w1 ⟨rfl, rfl⟩
  rw [h]
  go_wp2_with fail
  go_ret
  exact ⟨rfl, HB.out⟩
theorem check_pool (h0 : winB ep 1048576 = true) (h : poolB k m p d = false) :
    Calls Try.prog 40 #[.agg (boxM ep k m p d A c l)] w fun e w' => e = .returned (.int .i64 1) ∧ Below w.heap.size w w' := by
  unfold boxM
  have HB := Lib.hid (below_alloc (Below.refl w.heap.size w) (.cells #[.int .i64 ep, .int .i64 k, .int .i64 m, .int .i64 p, .int .i64 d, .slice A l.length c] 26))
  go_enter Try.func40, Try.ntmps40
  go_wp2_with fail
  refine (win_calls _ _ _).mono ?_
  rintro e w1 ⟨rfl, rfl⟩
  rw [h0]
  go_wp2_with fail
  refine (pool_calls _ _ _ _ _).mono ?_
  rintro e w1 ⟨rfl, hb⟩
  rw [h]
  have HB2 := Lib.hid (below_then HB.out HB.out.size hb)
  clear hb
  go_wp2_with fail
  go_ret
  exact ⟨rfl, HB2.out⟩
theorem check_many (h0 : winB ep 1048576 = true) (h1 : poolB k m p d = true) (h2 : 64 < l.length) (hs : l.length ≤ 9223372036854775807) :
    Calls Try.prog 40 #[.agg (boxM ep k m p d A c l)] w fun e w' => e = .returned (.int .i64 1) ∧ Below w.heap.size w w' := by
  unfold boxM
  have HB := Lib.hid (below_alloc (Below.refl w.heap.size w) (.cells #[.int .i64 ep, .int .i64 k, .int .i64 m, .int .i64 p, .int .i64 d, .slice A l.length c] 26))
  have c5 : (w.alloc (.cells #[.int .i64 ep, .int .i64 k, .int .i64 m, .int .i64 p, .int .i64 d, .slice A l.length c] 26)).cell? ⟨w.heap.size, 5, none⟩ = some (.slice A l.length c) := blk_cell (blk_new w _) 5
  have hd : decide (64 < l.length) = true := decide_eq_true h2
  have hd2 : decide ((64 : Int) < (l.length : Int)) = true := decide_eq_true (by omega)
  clear h2
  go_enter Try.func40, Try.ntmps40
  go_wp2_with fail
  refine (win_calls _ _ _).mono ?_
  rintro e w1 ⟨rfl, rfl⟩
  rw [h0]
  go_wp2_with fail
  refine (pool_calls _ _ _ _ _).mono ?_
  rintro e w1 ⟨rfl, hb⟩
  rw [h1]
  have HB2 := Lib.hid (below_then HB.out HB.out.size hb)
  have c5' : w1.cell? ⟨w.heap.size, 5, none⟩ = some (.slice A l.length c) := (hb.cell (p := ⟨w.heap.size, 5, none⟩) (by simp)).trans c5
  clear hb
  go_wp2_with fail
  go_ret
  exact ⟨rfl, HB2.out⟩
theorem bad_rack {l : List Od} {n : Nat} {D : DW} {o : Od} {rk : Int} (hr : Racks l n D) (hk : Maps.has D (.int .i64 o.f6) = true) (hat : D.atKey (.int .i64 o.f6) (.lit (.int .i64 0)) = .lit (.int .i64 rk)) (hne : rk ≠ o.f7) : ∃ j p, j < n ∧ l[j]? = some p ∧ (o.f0 ≤ p.f0 ∨ (p.f6 = o.f6 ∧ p.f7 ≠ o.f7)) := by
  obtain ⟨j, q, hj, hq, e⟩ := hr.2 o.f6 hk
  refine ⟨j, q, hj, hq, .inr ⟨e, fun e3 => ?_⟩⟩
  have h := (hr.1 j q hj hq).2
  rw [e, hat] at h
  injection h with h
  injection h with _ h
  exact hne (h.trans e3)
/-- An element's cells. -/
theorem at_O {w : World} {A : Option Addr} {n : Nat} {xs : List Od} (h : kO.C w A n xs) (i : Nat) (h1 : i < n) : ∃ ad o, xs[i]? = some o ∧ A = some ad ∧ w.cell? (ad.add (i * 8)) = some (.int .i64 o.f0) ∧ w.cell? ⟨(ad.add (i * 8)).block, (ad.add (i * 8)).off + 1, none⟩ = some (.bool o.f1) ∧ w.cell? ⟨(ad.add (i * 8)).block, (ad.add (i * 8)).off + 2, none⟩ = some (.bool o.f2) ∧ w.cell? ⟨(ad.add (i * 8)).block, (ad.add (i * 8)).off + 3, none⟩ = some (.int .i64 o.f3) ∧ w.cell? ⟨(ad.add (i * 8)).block, (ad.add (i * 8)).off + 4, none⟩ = some (.int .i64 o.f4) ∧ w.cell? ⟨(ad.add (i * 8)).block, (ad.add (i * 8)).off + 5, none⟩ = some (.int .i64 o.f5) ∧ w.cell? ⟨(ad.add (i * 8)).block, (ad.add (i * 8)).off + 6, none⟩ = some (.int .i64 o.f6) ∧ w.cell? ⟨(ad.add (i * 8)).block, (ad.add (i * 8)).off + 7, none⟩ = some (.int .i64 o.f7) := by
  obtain ⟨ad, hA, a0, a1, a2, a3, a4, a5, a6, a7⟩ := at_T40 h (i : Int) (by omega) (by omega)
  have hl : i < xs.length := by have := h.1; omega
  have e : rd_T40 xs (i : Int) = xs[i] := by simp [rd_T40, List.getD_eq_getElem?_getD, List.getElem?_eq_getElem hl]
  rw [e] at a0 a1 a2 a3 a4 a5 a6 a7
  exact ⟨ad, xs[i], List.getElem?_eq_getElem hl, hA, a0, a1, a2, a3, a4, a5, a6, a7⟩
abbrev aggO (o : Od) : Array Value := #[.int .i64 o.f0, .bool o.f1, .bool o.f2, .int .i64 o.f3, .int .i64 o.f4, .int .i64 o.f5, .int .i64 o.f6, .int .i64 o.f7]
theorem blkO {w : World} {g : Nat} {o : Od} (h : w.heap[g]? = some (.cells (aggO o) 40 (0, 0))) : w.cell? ⟨g, 0, none⟩ = some (.int .i64 o.f0) ∧ w.cell? ⟨g, 1, none⟩ = some (.bool o.f1) ∧ w.cell? ⟨g, 2, none⟩ = some (.bool o.f2) ∧ w.cell? ⟨g, 3, none⟩ = some (.int .i64 o.f3) ∧ w.cell? ⟨g, 4, none⟩ = some (.int .i64 o.f4) ∧ w.cell? ⟨g, 5, none⟩ = some (.int .i64 o.f5) ∧ w.cell? ⟨g, 6, none⟩ = some (.int .i64 o.f6) ∧ w.cell? ⟨g, 7, none⟩ = some (.int .i64 o.f7) :=
  ⟨blk_cell h 0, blk_cell h 1, blk_cell h 2, blk_cell h 3, blk_cell h 4, blk_cell h 5, blk_cell h 6, blk_cell h 7⟩
abbrev aggM (ep k m p d : Int) (A : Option Addr) (n c : Nat) : Array Value := #[.int .i64 ep, .int .i64 k, .int .i64 m, .int .i64 p, .int .i64 d, .slice A n c]
set_option maxHeartbeats 4000000 in
set_option maxRecDepth 100000 in
theorem check_loop (h0 : winB ep 1048576 = true) (h1 : poolB k m p d = true) (h2 : l.length ≤ 64) (hx : kO.C w A l.length l) (hwf : ∀ o ∈ l, (Lit.int .i64 o.f6).wf = true) (hwf7 : ∀ o ∈ l, (Lit.int .i64 o.f7).wf = true) :
    Calls Try.prog 40 #[.agg (aggM ep k m p d A l.length c)] w fun e w' => e = .returned (.int .i64 (chkI l)) ∧ Below w.heap.size w w' := by
  have HB := Lib.hid (below_alloc (Below.refl w.heap.size w) (.cells (aggM ep k m p d A l.length c) 26))
  have hblk : (w.alloc (.cells (aggM ep k m p d A l.length c) 26)).heap[w.heap.size]? = some (.cells (aggM ep k m p d A l.length c) 26 (0, 0)) := blk_new w _
  have c5 : (w.alloc (.cells (aggM ep k m p d A l.length c) 26)).cell? ⟨w.heap.size, 5, none⟩ = some (.slice A l.length c) := blk_cell hblk 5
  have hd : decide (64 < l.length) = false := decide_eq_false (by omega)
  have hd2 : decide ((64 : Int) < (l.length : Int)) = false := decide_eq_false (by omega)
  have HC := Lib.hid hx
  have HF := Lib.hid hwf
  have HF7 := Lib.hid hwf7
  have HBK := Lib.hid hblk
  have hmm := @run_makeMap Try.prog
  clear hx hwf hwf7 hblk
  go_enter Try.func40, Try.ntmps40
  go_wp2_with fail
  refine (win_calls _ _ _).mono ?_
  rintro e w1 ⟨rfl, rfl⟩
  rw [h0]
  go_wp2_with fail
  refine (pool_calls _ _ _ _ _).mono ?_
  rintro e w1 ⟨rfl, hb⟩
  rw [h1]
  have HB2 := Lib.hid (below_then HB.out HB.out.size hb)
  have HBK2 := Lib.hid (blk_below HBK.out hb)
  clear hb c5 HB HBK
  have c5 : w1.cell? ⟨w.heap.size, 5, none⟩ = some (.slice A l.length c) := blk_cell HBK2.out 5
  have HM0 : Hid (OM (w1.alloc (.map #[] 0)) w1.heap.size 0 (.map [])) := Lib.hid (World.ownsMap_made w1 Try.prog _ _)
  have HBK3 := Lib.hid (blk_below HBK2.out (below_alloc (Below.refl _ _) (.map #[] 0)))
  have HB3 := Lib.hid (below_alloc HB2.out (.map #[] 0))
  have HLT : Hid (w.heap.size < w1.heap.size) := Lib.hid (blk_lt HBK2.out)
  have HLE : Hid (w.heap.size ≤ w1.heap.size) := Lib.hid HB2.out.size
  have c5m : (w1.alloc (.map #[] 0)).cell? ⟨w.heap.size, 5, none⟩ = some (.slice A l.length c) := blk_cell HBK3.out 5
  obtain ⟨wb, hwb⟩ : ∃ wb, wb = w1.heap.size := ⟨_, rfl⟩
  go_wp2_with fail
  rw [← hwb]
  rw [← hwb] at HM0 HLT HLE
  clear hwb
  go_loopw [28] (fun i' wr => ∃ (n : Nat) (D : DW), i' = .int .i64 n ∧ Hid (n ≤ l.length) ∧ Hid (Good l n) ∧ Hid (Racks l n D) ∧ Hid (OM wr wb n D) ∧ Hid (wr.heap[w.heap.size]? = some (.cells (aggM ep k m p d A l.length c) 26 (0, 0))) ∧ Hid (Below w.heap.size w wr)) (fun i' _ => (l.length - intOf i').toNat)
  case atStart => exact ⟨0, .map [], rfl, Lib.hid (by omega), Lib.hid (fun i o hi => absurd hi (by omega)), Lib.hid ⟨fun i o hi => absurd hi (by omega), fun h hh => by cases hh⟩, HM0, HBK3, HB3⟩
  case round =>
    obtain ⟨n, D, rfl, HN, HG, HR, HM, HBX, HB⟩ := hrel
    clear c5 c5m HM0 HB3 HBK3 HB2 HBK2
    have hn := HN.out
    by_cases h : n < l.length
    · have hlt : decide (n < l.length) = true := decide_eq_true h
      have i0 : (0 : Int) ≤ n := by omega
      obtain ⟨ad, o, ho, hA, a0, a1, a2, a3, a4, a5, a6, a7⟩ := at_O (Kd.C_below HC.out HB.out) n h
      subst hA
      have HON := Lib.hid ho
      have hw6 := HF.out o (List.mem_of_getElem? ho)
      have HW6 := Lib.hid hw6
      have HBA := Lib.hid (below_alloc (Below.refl wr.heap.size wr) (.cells (aggO o) 40))
      obtain ⟨rk, hlook, hat⟩ := look_rack (om_below HM.out HBA.out) o.f6 hw6
      have HAT := Lib.hid hat
      obtain ⟨kn, hkn⟩ : ∃ kn, kn = Maps.has D (.int .i64 o.f6) := ⟨_, rfl⟩
      rw [← hkn] at hlook
      have HKN := Lib.hid hkn
      have HB4 := Lib.hid (below_alloc HB.out (.cells (aggO o) 40))
      have HM4 := Lib.hid (om_below HM.out HBA.out)
      have HBX4 := Lib.hid (blk_alloc HBX.out (.cells (aggO o) 40))
      have HOB4 : Hid ((wr.alloc (.cells (aggO o) 40)).heap[wr.heap.size]? = some (.cells (aggO o) 40 (0, 0))) := Lib.hid (blk_new wr _)
      have HSZ : Hid (wb < wr.heap.size) := Lib.hid HM.out.lt
      clear ho hw6 hat hkn HM HB HBX
      go_wp2_with fail
      obtain ⟨w4, hw4⟩ : ∃ w4, w4 = wr.alloc (.cells (aggO o) 40) := ⟨_, rfl⟩
      obtain ⟨go, hgo⟩ : ∃ go, go = wr.heap.size := ⟨_, rfl⟩
      rw [← hw4] at HB4 HM4 HBX4 HOB4 ⊢
      rw [← hgo] at HOB4 HSZ ⊢
      clear hw4 hgo hlook a0 a1 a2 a3 a4 a5 a6 a7 HBA
      obtain ⟨y0, y1, y2, y3, y4, y5, y6, y7⟩ := blkO HOB4.out
      have x5 : w4.cell? ⟨w.heap.size, 5, none⟩ = some (.slice (some ad) l.length c) := blk_cell HBX4.out 5
      have z0 := cell_regrown y0
      have z1 := cell_regrown y1
      have z2 := cell_regrown y2
      have z3 := cell_regrown y3
      have z4 := cell_regrown y4
      have z5 := cell_regrown y5
      have z6 := cell_regrown y6
      have z7 := cell_regrown y7
      have zx := cell_regrown x5
      clear y0 y1 y2 y3 y4 y5 y6 y7 x5
      obtain ⟨ob, hob⟩ : ∃ ob, ob = osdB o := ⟨_, rfl⟩
      have HOB := Lib.hid hob
      have T : Hid (∀ dd os, Calls Try.prog 72 #[.agg (aggO o)] (Sort.grow (redrawn w4 dd) os) fun e w' => e = .returned (.bool ob) ∧ Below (Sort.grow (redrawn w4 dd) os).heap.size (Sort.grow (redrawn w4 dd) os) w') := Lib.hid (fun dd os => by rw [hob]; exact osd_calls o _)
      clear hob
      cases ob with
      | false =>
        go_wp2_with fail
        refine wp_region_quiet_below (by kernel_rfl) (by kernel_rfl) ?_
        repeat (go_big_quiet_step ((go_at_call 72; exact Calls.regrown_of (T.out _ _))))
        refine wpQuiet_nil ?_
        intro _ hw'
        obtain ⟨⟨dq, osq⟩, hw''⟩ := hw'
        subst hw''
        have HB5 := Lib.hid (below_then HB4.out HB4.out.size (below_regrown w4 dq osq))
        go_wp2_with fail
        go_ret
        refine ⟨?_, HB5.out⟩
        have hng : chkI l = 1 := chkI_no (not_good h HON.out (.inl HOB.out.symm))
        rw [hng]; rfl
      | true =>
        have key : ∃ low : Bool, (low = true → ∃ j q, j < n ∧ l[j]? = some q ∧ o.f0 ≤ q.f0) ∧ (low = false → ∀ q, 0 < n → l[n - 1]? = some q → q.f0 < o.f0) ∧
            ((n = 0 ∧ low = false) ∨ (0 < n ∧ ∃ q, l[n - 1]? = some q ∧ low = decide (o.f0 ≤ q.f0))) := by
          rcases Nat.eq_zero_or_pos n with h0 | h0
          · exact ⟨false, (fun h => absurd h (by decide)), (fun _ q hp => by omega), .inl ⟨h0, rfl⟩⟩
          · have hlt2 : n - 1 < l.length := by omega
            refine ⟨decide (o.f0 ≤ (l[n - 1]).f0), fun h => ⟨n - 1, l[n - 1], by omega, List.getElem?_eq_getElem hlt2, of_decide_eq_true h⟩, fun h q _ hq => ?_, .inr ⟨h0, l[n - 1], List.getElem?_eq_getElem hlt2, rfl⟩⟩
            rw [List.getElem?_eq_getElem hlt2] at hq
            have := of_decide_eq_false h
            rw [← Option.some.inj hq]; omega
        obtain ⟨low, hl1, hl2, hl3⟩ := key
        have HL1 := Lib.hid hl1
        have HL2 := Lib.hid hl2
        clear hl1 hl2
        obtain ⟨bad, hbad⟩ : ∃ bad, bad = (kn && !(rk == o.f7)) := ⟨_, rfl⟩
        have HBAD : Hid (bad = (kn && !(rk == o.f7))) := Lib.hid hbad
        have HEND : Hid (goodB l = true ∨ goodB l = false) := Lib.hid (by cases goodB l; exact .inr rfl; exact .inl rfl)
        rcases hl3 with ⟨hz, rfl⟩ | ⟨hz, q, hq, hlo⟩
        · have hz0 : decide (0 < n) = false := decide_eq_false (by omega)
          have hz1 : decide ((0 : Int) < (n : Int)) = false := decide_eq_false (by omega)
          cases kn
          · go_wp2_with fail
            refine wp_region_quiet_below (by kernel_rfl) (by kernel_rfl) ?_
            repeat (go_big_quiet_step ((go_at_call 72; exact Calls.regrown_of (T.out _ _))))
            refine wpQuiet_nil ?_
            intro _ hw'
            obtain ⟨⟨dq, osq⟩, hw''⟩ := hw'
            subst hw''
            have HB5 := Lib.hid (below_then HB4.out HB4.out.size (below_regrown w4 dq osq))
            have HM5 := Lib.hid (om_below HM4.out (below_regrown w4 dq osq))
            have HBX5 := Lib.hid (blk_below HBX4.out (below_regrown w4 dq osq))
            have HOB5 := Lib.hid (blk_below HOB4.out (below_regrown w4 dq osq))
            obtain ⟨w5, hw5⟩ : ∃ w5, w5 = Sort.grow (redrawn w4 dq) osq := ⟨_, rfl⟩
            rw [← hw5] at HB5 HM5 HBX5 HOB5 ⊢
            clear hw5 z0 z1 z2 z3 z4 z5 z6 z7 zx T HB4 HM4 HBX4 HOB4
            have HGD : Hid (Good l (n + 1)) := Lib.hid (good_step HG.out HR.out HON.out HOB.out.symm (HL2.out (by simp)) (fun hk => by rw [← HKN.out] at hk; cases hk))
            have HIM := Lib.hid HM5.out.isMap
            obtain ⟨y0, y1, y2, y3, y4, y5, y6, y7⟩ := blkO HOB5.out
            go_wp2_with (first | (at_mapUpdate; go_must (refine wpList_mapUpdate_own _ rfl _ _ _ 103 rfl 3 3 keyI Try.underlying103 _ wb n D rfl (by exact HM5.out) ?hn _ _ (.int .i64 o.f6) rfl rfl (keyOf_int_mk Try.underlying3 HW6.out) (.lit (.int .i64 o.f7)) [] (plainElem_int Try.underlying3 (HF7.out o (List.mem_of_getElem? HON.out))) ?_; (case hn => simp only [maxLen]; omega)); intro w2 ho hg; have HM6 := Lib.hid ho; have HB6 := Lib.hid (HB5.out.grown hg HB5.out.size (fun k hk => by injection hk with hk; have := HLE.out; omega)); have HBX6 := Lib.hid (blk_grown HBX5.out hg (by intro e; injection e with e; have := HLT.out; omega)); clear ho hg HM5 HB5 HBX5 HOB5 y0 y1 y2 y3 y4 y5 y6 y7))
            go_roundw
            case rel => exact ⟨n + 1, _, by go_num, Lib.hid (by omega), HGD, Lib.hid (racks_put HR.out HIM.out HON.out HGD.out), HM6, HBX6, HB6⟩
            case measure => simp only [intOf]; omega
          · cases hrk : (rk == o.f7)
            · have hrk2 : (rk != o.f7) = true := by rw [bne, hrk]; rfl
              have HRK := Lib.hid hrk
              clear hrk
              go_wp2_with fail
              refine wp_region_quiet_below (by kernel_rfl) (by kernel_rfl) ?_
              repeat (go_big_quiet_step ((go_at_call 72; exact Calls.regrown_of (T.out _ _))))
              refine wpQuiet_nil ?_
              intro _ hw'
              obtain ⟨⟨dq, osq⟩, hw''⟩ := hw'
              subst hw''
              have HB5 := Lib.hid (below_then HB4.out HB4.out.size (below_regrown w4 dq osq))
              go_wp2_with fail
              go_ret
              refine ⟨?_, HB5.out⟩
              have hng : chkI l = 1 := chkI_no (not_good h HON.out (.inr (bad_rack HR.out HKN.out.symm HAT.out (beq_eq_false_iff_ne.1 HRK.out))))
              rw [hng]; rfl
            · have hrk2 : (rk != o.f7) = false := by rw [bne, hrk]; rfl
              have HRK := Lib.hid hrk
              clear hrk
              go_wp2_with fail
              refine wp_region_quiet_below (by kernel_rfl) (by kernel_rfl) ?_
              repeat (go_big_quiet_step ((go_at_call 72; exact Calls.regrown_of (T.out _ _))))
              refine wpQuiet_nil ?_
              intro _ hw'
              obtain ⟨⟨dq, osq⟩, hw''⟩ := hw'
              subst hw''
              have HB5 := Lib.hid (below_then HB4.out HB4.out.size (below_regrown w4 dq osq))
              have HM5 := Lib.hid (om_below HM4.out (below_regrown w4 dq osq))
              have HBX5 := Lib.hid (blk_below HBX4.out (below_regrown w4 dq osq))
              have HOB5 := Lib.hid (blk_below HOB4.out (below_regrown w4 dq osq))
              obtain ⟨w5, hw5⟩ : ∃ w5, w5 = Sort.grow (redrawn w4 dq) osq := ⟨_, rfl⟩
              rw [← hw5] at HB5 HM5 HBX5 HOB5 ⊢
              clear hw5 z0 z1 z2 z3 z4 z5 z6 z7 zx T HB4 HM4 HBX4 HOB4
              have HGD : Hid (Good l (n + 1)) := Lib.hid (good_step HG.out HR.out HON.out HOB.out.symm (HL2.out (by simp)) (fun hk => by rw [HAT.out, beq_iff_eq.1 HRK.out]))
              have HIM := Lib.hid HM5.out.isMap
              obtain ⟨y0, y1, y2, y3, y4, y5, y6, y7⟩ := blkO HOB5.out
              go_wp2_with (first | (at_mapUpdate; go_must (refine wpList_mapUpdate_own _ rfl _ _ _ 103 rfl 3 3 keyI Try.underlying103 _ wb n D rfl (by exact HM5.out) ?hn _ _ (.int .i64 o.f6) rfl rfl (keyOf_int_mk Try.underlying3 HW6.out) (.lit (.int .i64 o.f7)) [] (plainElem_int Try.underlying3 (HF7.out o (List.mem_of_getElem? HON.out))) ?_; (case hn => simp only [maxLen]; omega)); intro w2 ho hg; have HM6 := Lib.hid ho; have HB6 := Lib.hid (HB5.out.grown hg HB5.out.size (fun k hk => by injection hk with hk; have := HLE.out; omega)); have HBX6 := Lib.hid (blk_grown HBX5.out hg (by intro e; injection e with e; have := HLT.out; omega)); clear ho hg HM5 HB5 HBX5 HOB5 y0 y1 y2 y3 y4 y5 y6 y7))
              go_roundw
              case rel => exact ⟨n + 1, _, by go_num, Lib.hid (by omega), HGD, Lib.hid (racks_put HR.out HIM.out HON.out HGD.out), HM6, HBX6, HB6⟩
              case measure => simp only [intOf]; omega
        · have hz0 : decide (0 < n) = true := decide_eq_true hz
          have hz1 : decide ((0 : Int) < (n : Int)) = true := decide_eq_true (by omega)
          obtain ⟨ad2, q2, hq2, hA2, b0, b1, b2, b3, b4, b5, b6, b7⟩ := at_O (Kd.C_below HC.out HB4.out) (n - 1) (by omega)
          rw [hq] at hq2
          obtain rfl := Option.some.inj hq2
          injection hA2 with hA2
          subst hA2
          have u0 := cell_regrown b0
          have j0 : (0 : Int) ≤ (n : Int) - 1 := by omega
          have j1 : (n : Int) - 1 < l.length := by omega
          have jw : IntKind.i64.wrap ((n : Int) - 1) = (n : Int) - 1 := IntWalk.i64_in _ (by omega)
          have jn : ((n : Int) - 1).toNat = n - 1 := by omega
          clear hq hq2 b0 b1 b2 b3 b4 b5 b6 b7
          cases low
          · have hlo2 : decide (o.f0 ≤ q.f0) = false := hlo.symm
            clear hlo
            cases kn
            · go_wp2_with fail
              refine wp_region_quiet_below (by kernel_rfl) (by kernel_rfl) ?_
              repeat (go_big_quiet_step ((go_at_call 72; exact Calls.regrown_of (T.out _ _))))
              refine wpQuiet_nil ?_
              intro _ hw'
              obtain ⟨⟨dq, osq⟩, hw''⟩ := hw'
              subst hw''
              have HB5 := Lib.hid (below_then HB4.out HB4.out.size (below_regrown w4 dq osq))
              have HM5 := Lib.hid (om_below HM4.out (below_regrown w4 dq osq))
              have HBX5 := Lib.hid (blk_below HBX4.out (below_regrown w4 dq osq))
              have HOB5 := Lib.hid (blk_below HOB4.out (below_regrown w4 dq osq))
              obtain ⟨w5, hw5⟩ : ∃ w5, w5 = Sort.grow (redrawn w4 dq) osq := ⟨_, rfl⟩
              rw [← hw5] at HB5 HM5 HBX5 HOB5 ⊢
              clear hw5 z0 z1 z2 z3 z4 z5 z6 z7 zx T HB4 HM4 HBX4 HOB4
              have HGD : Hid (Good l (n + 1)) := Lib.hid (good_step HG.out HR.out HON.out HOB.out.symm (HL2.out (by simp)) (fun hk => by rw [← HKN.out] at hk; cases hk))
              have HIM := Lib.hid HM5.out.isMap
              obtain ⟨y0, y1, y2, y3, y4, y5, y6, y7⟩ := blkO HOB5.out
              go_wp2_with (first | (at_mapUpdate; go_must (refine wpList_mapUpdate_own _ rfl _ _ _ 103 rfl 3 3 keyI Try.underlying103 _ wb n D rfl (by exact HM5.out) ?hn _ _ (.int .i64 o.f6) rfl rfl (keyOf_int_mk Try.underlying3 HW6.out) (.lit (.int .i64 o.f7)) [] (plainElem_int Try.underlying3 (HF7.out o (List.mem_of_getElem? HON.out))) ?_; (case hn => simp only [maxLen]; omega)); intro w2 ho hg; have HM6 := Lib.hid ho; have HB6 := Lib.hid (HB5.out.grown hg HB5.out.size (fun k hk => by injection hk with hk; have := HLE.out; omega)); have HBX6 := Lib.hid (blk_grown HBX5.out hg (by intro e; injection e with e; have := HLT.out; omega)); clear ho hg HM5 HB5 HBX5 HOB5 y0 y1 y2 y3 y4 y5 y6 y7))
              go_roundw
              case rel => exact ⟨n + 1, _, by go_num, Lib.hid (by omega), HGD, Lib.hid (racks_put HR.out HIM.out HON.out HGD.out), HM6, HBX6, HB6⟩
              case measure => simp only [intOf]; omega
            · cases hrk : (rk == o.f7)
              · have hrk2 : (rk != o.f7) = true := by rw [bne, hrk]; rfl
                have HRK := Lib.hid hrk
                clear hrk
                go_wp2_with fail
                refine wp_region_quiet_below (by kernel_rfl) (by kernel_rfl) ?_
                repeat (go_big_quiet_step ((go_at_call 72; exact Calls.regrown_of (T.out _ _))))
                refine wpQuiet_nil ?_
                intro _ hw'
                obtain ⟨⟨dq, osq⟩, hw''⟩ := hw'
                subst hw''
                have HB5 := Lib.hid (below_then HB4.out HB4.out.size (below_regrown w4 dq osq))
                go_wp2_with fail
                go_ret
                refine ⟨?_, HB5.out⟩
                have hng : chkI l = 1 := chkI_no (not_good h HON.out (.inr (bad_rack HR.out HKN.out.symm HAT.out (beq_eq_false_iff_ne.1 HRK.out))))
                rw [hng]; rfl
              · have hrk2 : (rk != o.f7) = false := by rw [bne, hrk]; rfl
                have HRK := Lib.hid hrk
                clear hrk
                go_wp2_with fail
                refine wp_region_quiet_below (by kernel_rfl) (by kernel_rfl) ?_
                repeat (go_big_quiet_step ((go_at_call 72; exact Calls.regrown_of (T.out _ _))))
                refine wpQuiet_nil ?_
                intro _ hw'
                obtain ⟨⟨dq, osq⟩, hw''⟩ := hw'
                subst hw''
                have HB5 := Lib.hid (below_then HB4.out HB4.out.size (below_regrown w4 dq osq))
                have HM5 := Lib.hid (om_below HM4.out (below_regrown w4 dq osq))
                have HBX5 := Lib.hid (blk_below HBX4.out (below_regrown w4 dq osq))
                have HOB5 := Lib.hid (blk_below HOB4.out (below_regrown w4 dq osq))
                obtain ⟨w5, hw5⟩ : ∃ w5, w5 = Sort.grow (redrawn w4 dq) osq := ⟨_, rfl⟩
                rw [← hw5] at HB5 HM5 HBX5 HOB5 ⊢
                clear hw5 z0 z1 z2 z3 z4 z5 z6 z7 zx T HB4 HM4 HBX4 HOB4
                have HGD : Hid (Good l (n + 1)) := Lib.hid (good_step HG.out HR.out HON.out HOB.out.symm (HL2.out (by simp)) (fun hk => by rw [HAT.out, beq_iff_eq.1 HRK.out]))
                have HIM := Lib.hid HM5.out.isMap
                obtain ⟨y0, y1, y2, y3, y4, y5, y6, y7⟩ := blkO HOB5.out
                go_wp2_with (first | (at_mapUpdate; go_must (refine wpList_mapUpdate_own _ rfl _ _ _ 103 rfl 3 3 keyI Try.underlying103 _ wb n D rfl (by exact HM5.out) ?hn _ _ (.int .i64 o.f6) rfl rfl (keyOf_int_mk Try.underlying3 HW6.out) (.lit (.int .i64 o.f7)) [] (plainElem_int Try.underlying3 (HF7.out o (List.mem_of_getElem? HON.out))) ?_; (case hn => simp only [maxLen]; omega)); intro w2 ho hg; have HM6 := Lib.hid ho; have HB6 := Lib.hid (HB5.out.grown hg HB5.out.size (fun k hk => by injection hk with hk; have := HLE.out; omega)); have HBX6 := Lib.hid (blk_grown HBX5.out hg (by intro e; injection e with e; have := HLT.out; omega)); clear ho hg HM5 HB5 HBX5 HOB5 y0 y1 y2 y3 y4 y5 y6 y7))
                go_roundw
                case rel => exact ⟨n + 1, _, by go_num, Lib.hid (by omega), HGD, Lib.hid (racks_put HR.out HIM.out HON.out HGD.out), HM6, HBX6, HB6⟩
                case measure => simp only [intOf]; omega
          · have hlo2 : decide (o.f0 ≤ q.f0) = true := hlo.symm
            clear hlo
            go_wp2_with fail
            refine wp_region_quiet_below (by kernel_rfl) (by kernel_rfl) ?_
            repeat (go_big_quiet_step ((go_at_call 72; exact Calls.regrown_of (T.out _ _))))
            refine wpQuiet_nil ?_
            intro _ hw'
            obtain ⟨⟨dq, osq⟩, hw''⟩ := hw'
            subst hw''
            have HB5 := Lib.hid (below_then HB4.out HB4.out.size (below_regrown w4 dq osq))
            go_wp2_with fail
            go_ret
            refine ⟨?_, HB5.out⟩
            have hng : chkI l = 1 := chkI_no (not_good h HON.out (.inr (by obtain ⟨j, z, h1, h2, h3⟩ := HL1.out (by simp); exact ⟨j, z, h1, h2, .inl h3⟩)))
            rw [hng]; rfl
    · obtain rfl : n = l.length := by omega
      have hlt : decide (l.length < l.length) = false := decide_eq_false (by omega)
      go_wp2_with fail
      go_ret
      refine ⟨?_, HB.out⟩
      have hg : chkI l = 0 := chkI_yes HG.out
      rw [hg]; rfl
end
end Go.Proofs.Ytnpphmgibgfjoaa.AtA
/- The kind of api.Weighed. -/
namespace Go.Proofs.Ytnpphmgibgfjoaa.KW
open Go.RowKit Go.Proofs.YtnpphmgibgfjoaaW.PrintWords Opns

structure Wd where
  id : Int
  wt : Int
  deriving DecidableEq, Inhabited
def kW : Kd Wd := Kd.iso (Kd.pair (Kd.int .i64) (Kd.int .i64)) (fun x => (x.id, x.wt))
theorem kW_open {w : World} {x : Wd} {cs : List Value} (h : kW.K w x cs) : cs = [.int .i64 x.id, .int .i64 x.wt] := by
  obtain ⟨_, _, rfl, rfl, rfl⟩ := h
  exact rfl
theorem kW_mkM (w : World) (base : Nat) (ok : Nat → Prop) (x : Wd) : kW.M w base ok x [.int .i64 x.id, .int .i64 x.wt] := ⟨[.int .i64 x.id], [.int .i64 x.wt], rfl, rfl, rfl⟩
/-- The cells of an element that is read. -/
theorem at_W {w : World} {A : Option Addr} {n : Nat} {xs : List Wd} (h : kW.C w A n xs) (i : Nat) (h1 : i < n) :
    ∃ ad x, xs[i]? = some x ∧ A = some ad ∧ w.cell? (ad.add (i * 2)) = some (.int .i64 x.id) ∧ w.cell? ⟨(ad.add (i * 2)).block, (ad.add (i * 2)).off + 1, none⟩ = some (.int .i64 x.wt) := by
  obtain ⟨ad, e, hc⟩ := h.2.2 (by omega)
  have hl : i < xs.length := by have := h.1; omega
  obtain ⟨c, _, hK, hcell⟩ := hc i _ (List.getElem?_eq_getElem hl)
  obtain rfl := kW_open hK
  exact ⟨ad, _, List.getElem?_eq_getElem hl, e, hcell 0 _ rfl, by rw [← add_field _ _ 1 (by omega)]; exact hcell 1 _ rfl⟩
end Go.Proofs.Ytnpphmgibgfjoaa.KW
namespace Go.Proofs.Ytnpphmgibgfjoaa.MixP

/-! ### logarithms -/
def sq (y : Nat) : Nat := y * y / 2147483648
def stp (y : Nat) : Nat := if 4294967296 ≤ sq y then sq y / 2 else sq y
def bitv (y : Nat) : Nat := if 4294967296 ≤ sq y then 1 else 0
def run : Nat → Nat → Nat → Nat
  | 0, _, o => o
  | k + 1, y, o => run k (stp y) (2 * o + bitv y)
def exp2 (u : Nat) : Nat := Lib.bitLen u - 1
def norm (u : Nat) : Nat := u * 2 ^ (31 - exp2 u)
def logn (u : Nat) : Nat := run 24 (norm u) (exp2 u)
def Nrm (y : Nat) : Prop := 2147483648 ≤ y ∧ y < 4294967296

theorem sq_lo {y : Nat} (h : Nrm y) : 2147483648 ≤ sq y := by
  have : 2147483648 * 2147483648 ≤ y * y := Nat.mul_le_mul h.1 h.1
  unfold sq; omega
theorem sq_hi {y : Nat} (h : Nrm y) : sq y < 8589934592 := by
  have h2 := h.2
  have : y * y ≤ 4294967295 * 4294967295 := Nat.mul_le_mul (by omega) (by omega)
  unfold sq; omega
theorem stp_nrm {y : Nat} (h : Nrm y) : Nrm (stp y) := by
  have h1 := sq_lo h
  have h2 := sq_hi h
  unfold stp Nrm
  split <;> omega
theorem bitv_le (y : Nat) : bitv y ≤ 1 := by unfold bitv; split <;> omega

theorem exp2_spec {u : Nat} (h0 : u ≠ 0) (h : u ≤ 65536) : 2 ^ exp2 u ≤ u ∧ u < 2 ^ (exp2 u + 1) ∧ exp2 u ≤ 16 := by
  obtain ⟨a, b, c⟩ := Lib.bitLenAux_bounds 64 u (by omega) h0
  have e : Lib.bitLen u = exp2 u + 1 := by unfold exp2 Lib.bitLen; omega
  have b' : 2 ^ exp2 u ≤ u := b
  refine ⟨b', by rw [← e]; exact c, ?_⟩
  rcases Nat.lt_or_ge 16 (exp2 u) with hc | hc
  · have : 2 ^ 17 ≤ 2 ^ exp2 u := Nat.pow_le_pow_right (by decide) hc
    omega
  · exact hc
theorem norm_nrm {u : Nat} (h0 : u ≠ 0) (h : u ≤ 65536) : Nrm (norm u) := by
  obtain ⟨a, b, c⟩ := exp2_spec h0 h
  have e1 : 2 ^ exp2 u * 2 ^ (31 - exp2 u) = 2147483648 := by rw [← Nat.pow_add]; rw [show exp2 u + (31 - exp2 u) = 31 from by omega]
  have e2 : 2 ^ (exp2 u + 1) * 2 ^ (31 - exp2 u) = 4294967296 := by rw [← Nat.pow_add]; rw [show exp2 u + 1 + (31 - exp2 u) = 32 from by omega]
  have hp : 0 < 2 ^ (31 - exp2 u) := Nat.pow_pos (by decide)
  unfold norm Nrm
  constructor
  · rw [← e1]; exact Nat.mul_le_mul_right _ a
  · rw [← e2]; exact Nat.mul_lt_mul_of_pos_right b hp
theorem run_lt (k : Nat) : ∀ y o, run k y o < 2 ^ k * (o + 1) := by
  induction k with
  | zero => intro y o; simp [run]
  | succ k ih =>
    intro y o
    simp only [run]
    have h1 := ih (stp y) (2 * o + bitv y)
    have h2 := bitv_le y
    have h3 : 2 ^ k * (2 * o + bitv y + 1) ≤ 2 ^ k * (2 * (o + 1)) := Nat.mul_le_mul_left _ (by omega)
    rw [Nat.pow_succ, Nat.mul_assoc]
    exact Nat.lt_of_lt_of_le h1 h3
theorem run_ge (k : Nat) : ∀ y o, 2 ^ k * o ≤ run k y o := by
  induction k with
  | zero => intro y o; simp [run]
  | succ k ih =>
    intro y o
    simp only [run]
    have h1 := ih (stp y) (2 * o + bitv y)
    have h3 : 2 ^ k * (2 * o) ≤ 2 ^ k * (2 * o + bitv y) := Nat.mul_le_mul_left _ (by omega)
    rw [Nat.pow_succ, Nat.mul_assoc]
    exact Nat.le_trans h3 h1
theorem sq_mono {y z : Nat} (h : y ≤ z) : sq y ≤ sq z := by
  unfold sq; exact Nat.div_le_div_right (Nat.mul_le_mul h h)
theorem run_mono (k : Nat) : ∀ y z o, y ≤ z → run k y o ≤ run k z o := by
  induction k with
  | zero => intro y z o _; simp [run]
  | succ k ih =>
    intro y z o h
    have hs := sq_mono h
    simp only [run]
    by_cases h1 : 4294967296 ≤ sq y
    · have h2 : 4294967296 ≤ sq z := by omega
      have e1 : bitv y = 1 := by simp [bitv, h1]
      have e2 : bitv z = 1 := by simp [bitv, h2]
      rw [e1, e2]
      refine ih _ _ _ ?_
      simp only [stp, if_pos h1, if_pos h2]
      omega
    · have e1 : bitv y = 0 := by simp [bitv, h1]
      by_cases h2 : 4294967296 ≤ sq z
      · have e2 : bitv z = 1 := by simp [bitv, h2]
        rw [e1, e2]
        have a := run_lt k (stp y) (2 * o + 0)
        have b := run_ge k (stp z) (2 * o + 1)
        have c : 2 ^ k * (2 * o + 0 + 1) ≤ 2 ^ k * (2 * o + 1) := Nat.le_refl _
        omega
      · have e2 : bitv z = 0 := by simp [bitv, h2]
        rw [e1, e2]
        refine ih _ _ _ ?_
        simp only [stp, if_neg h1, if_neg h2]
        exact hs
theorem logn_mono {u v : Nat} (h0 : u ≠ 0) (h : u ≤ v) (hv : v ≤ 65536) : logn u ≤ logn v := by
  obtain ⟨a1, b1, c1⟩ := exp2_spec h0 (by omega)
  obtain ⟨a2, b2, c2⟩ := exp2_spec (u := v) (by omega) hv
  rcases Nat.lt_trichotomy (exp2 u) (exp2 v) with hc | hc | hc
  · have h1 := run_lt 24 (norm u) (exp2 u)
    have h2 := run_ge 24 (norm v) (exp2 v)
    have h3 : 2 ^ 24 * (exp2 u + 1) ≤ 2 ^ 24 * exp2 v := Nat.mul_le_mul_left _ hc
    unfold logn
    omega
  · have : norm u ≤ norm v := by unfold norm; rw [hc]; exact Nat.mul_le_mul_right _ h
    unfold logn
    rw [hc]
    exact run_mono 24 _ _ _ this
  · have : 2 ^ (exp2 v + 1) ≤ 2 ^ exp2 u := Nat.pow_le_pow_right (by decide) hc
    omega
/-! ### numbers mixed -/
def mix (x : Nat) : Nat :=
  let a := x ^^^ (x / 65536)
  let b := a * 2146121005 % 4294967296
  let c := b ^^^ (b / 32768)
  let d := c * 2221713035 % 4294967296
  d ^^^ (d / 65536)
end Go.Proofs.Ytnpphmgibgfjoaa.MixP
namespace Go.Proofs.Ytnpphmgibgfjoaa.MixW
open Go.RowKit MixP

theorem sq_int (y : Nat) : ((y : Int) * y) / 2147483648 = (sq y : Nat) := by
  unfold sq; rw [Int.natCast_ediv, Int.natCast_mul]; rfl
theorem sq_le {y : Nat} (h : Nrm y) : (y : Int) * y / 2147483648 ≤ 8589934591 := by
  rw [sq_int]
  have := sq_hi h
  omega
theorem wrap_u64 {x : Int} (h : 0 ≤ x) (h1 : x < 18446744073709551616) : IntKind.u64.wrap x = x := by
  simp only [IntKind.wrap, IntKind.signed, IntKind.bits]
  simp
  omega
theorem sq_ge (y : Nat) : 0 ≤ (y : Int) * y := Int.mul_nonneg (by omega) (by omega)
theorem or_one (n : Nat) (h : n < 2305843009213693952) : Go.bits .or .i64 (2 * n : Nat) 1 = (2 * n + 1 : Nat) := by
  rw [bits_join .i64 62 (by decide) (fun m h0 h1 => by rw [IntKind.wrap_i64]; omega) 1 _ _ (by omega) (by omega) (by omega) (by omega) (by omega) (by omega)]
  omega
/-- What holds at the loop's head: y, o, k as numbers. -/
def Inv (u : Nat) (y o k : Int) : Prop := ∃ (yn on kn : Nat), y = yn ∧ o = on ∧ k = kn ∧ kn ≤ 24 ∧ Nrm yn ∧ on < 17 * 2 ^ kn ∧ run (24 - kn) yn on = logn u
theorem inv_start {u : Nat} (h1 : 1 ≤ u) (h2 : u ≤ 65536) : Inv u (IntKind.u64.wrap ((u : Int) * 2 ^ (31 - exp2 u))) (exp2 u : Nat) 0 := by
  have hn := norm_nrm (u := u) (by omega) h2
  obtain ⟨_, _, hx⟩ := exp2_spec (u := u) (by omega) h2
  refine ⟨norm u, exp2 u, 0, ?_, rfl, rfl, by omega, hn, by omega, rfl⟩
  have e : (u : Int) * 2 ^ (31 - exp2 u) = (norm u : Nat) := by unfold norm; push_cast; rfl
  rw [e, wrap_u64 (by omega) (by have := hn.2; omega)]
theorem inv_stp {u : Nat} {y o k : Int} (h : Inv u y o k) (hk : k < 24) :
    (4294967296 ≤ IntKind.u64.wrap (y * y) / 2147483648 → Inv u (IntKind.u64.wrap (y * y) / 2147483648 / 2) (Go.bits .or .i64 (wrap64 (o * 2)) 1) (wrap64 (k + 1))) ∧
    (¬ 4294967296 ≤ IntKind.u64.wrap (y * y) / 2147483648 → Inv u (IntKind.u64.wrap (y * y) / 2147483648) (wrap64 (o * 2)) (wrap64 (k + 1))) := by
  obtain ⟨yn, on, kn, rfl, rfl, rfl, hk2, hN, hO, hR⟩ := h
  have q0 := sq_ge yn
  have q1 := sq_le hN
  have hp : 2 ^ kn ≤ 2 ^ 23 := Nat.pow_le_pow_right (by decide) (by omega)
  have ek : wrap64 ((kn : Int) + 1) = (kn + 1 : Nat) := by unfold wrap64; omega
  have eo : wrap64 ((on : Int) * 2) = (2 * on : Nat) := by unfold wrap64; omega
  have hr : run (24 - kn) yn on = run (24 - (kn + 1)) (stp yn) (2 * on + bitv yn) := by
    rw [show 24 - kn = (24 - (kn + 1)) + 1 from by omega]; rfl
  rw [wrap_u64 q0 (by omega), sq_int, ek, eo]
  constructor
  · intro hc
    have hc' : 4294967296 ≤ sq yn := by omega
    have e1 : bitv yn = 1 := by simp [bitv, hc']
    have e2 : stp yn = sq yn / 2 := by simp [stp, hc']
    exact ⟨sq yn / 2, 2 * on + 1, kn + 1, by omega, or_one _ (by omega), rfl, by omega, e2 ▸ stp_nrm hN, by rw [Nat.pow_succ]; omega, by rw [← hR, hr, e1, e2]⟩
  · intro hc
    have hc' : ¬ 4294967296 ≤ sq yn := by omega
    have e1 : bitv yn = 0 := by simp [bitv, hc']
    have e2 : stp yn = sq yn := by simp [stp, hc']
    exact ⟨sq yn, 2 * on, kn + 1, rfl, rfl, rfl, by omega, e2 ▸ stp_nrm hN, by rw [Nat.pow_succ]; omega, by rw [← hR, hr, e1, e2]; rfl⟩
theorem inv_end {u : Nat} {y o k : Int} (h : Inv u y o k) (hk : ¬ k < 24) : o = (logn u : Nat) := by
  obtain ⟨yn, on, kn, rfl, rfl, rfl, hk2, hN, hO, hR⟩ := h
  obtain rfl : kn = 24 := by omega
  rw [← hR]; rfl
theorem inv_k {u : Nat} {y o k : Int} (h : Inv u y o k) : 0 ≤ k := by
  obtain ⟨yn, on, kn, rfl, rfl, rfl, _⟩ := h
  omega
theorem log_some (u : Nat) (w : World) (h1 : 1 ≤ u) (h2 : u ≤ 65536) :
    Calls Try.prog 105 #[.int .i64 u] w fun e w' => e = .returned (.tuple #[.int .i64 (logn u : Nat), .bool true]) ∧ w = w' := by
  have hS := Lib.hid (inv_start h1 h2)
  obtain ⟨_, _, hx⟩ := exp2_spec (u := u) (by omega) h2
  have hbl : Lib.bitLen u = exp2 u + 1 := by
    have := Lib.bitLenAux_bounds 64 u (by omega) (by omega)
    unfold exp2 Lib.bitLen; omega
  have HBL := Lib.hid hbl
  clear hbl
  go_enter Try.func105, Try.ntmps105
  go_wp2_with fail
  refine (Try.bits_Len _ _ (by omega) (by omega)).mono ?_
  rintro e w' ⟨rfl, rfl⟩
  rw [Int.toNat_natCast, HBL.out]
  go_wp2
  go_loop [5, 6, 23] (fun y o i => ∃ (yn on k : Int), y = .int .u64 yn ∧ o = .int .i64 on ∧ i = .int .i64 k ∧ Hid (Inv u yn on k)) (fun _ _ i => 24 - (intOf i).toNat)
  case atStart => exact ⟨_, _, _, rfl, rfl, rfl, hS⟩
  case round =>
    clear hS HBL h1 h2 hx
    obtain ⟨yn, on, k, rfl, rfl, rfl, hI⟩ := hrel
    by_cases hk : k < 24
    · by_cases hc : 4294967296 ≤ IntKind.u64.wrap (yn * yn) / 2147483648
      · have HN := Lib.hid ((inv_stp hI.out hk).1 hc)
        have hc1 : decide (4294967296 ≤ IntKind.u64.wrap (yn * yn) / 2147483648) = true := decide_eq_true hc
        have hk1 : decide (k < 24) = true := decide_eq_true hk
        clear hc hk
        go_wp2
        go_round
        case rel => exact ⟨_, _, _, rfl, rfl, rfl, HN⟩
        case measure => have := of_decide_eq_true hk1; have := inv_k hI.out; simp [intOf, wrap64]; omega
      · have HN := Lib.hid ((inv_stp hI.out hk).2 hc)
        have hc1 : decide (4294967296 ≤ IntKind.u64.wrap (yn * yn) / 2147483648) = false := decide_eq_false hc
        have hk1 : decide (k < 24) = true := decide_eq_true hk
        clear hc hk
        go_wp2
        go_round
        case rel => exact ⟨_, _, _, rfl, rfl, rfl, HN⟩
        case measure => have := of_decide_eq_true hk1; have := inv_k hI.out; simp [intOf, wrap64]; omega
    · have HN := Lib.hid (inv_end hI.out hk)
      have hk1 : decide (k < 24) = false := decide_eq_false hk
      clear hk
      go_wp2
      go_ret2
      rw [HN.out]
      exact ⟨rfl, rfl⟩

/-! ### the reference's logarithm -/
/-! ### Mix, Hash2, Hash3 -/
def mixI (x : Int) : Int := (mix x.toNat : Nat)
theorem xor_nat (a b : Nat) (ha : a < 4294967296) (hb : b < 4294967296) : Go.bits .xor .u32 (a : Int) (b : Int) = ((a ^^^ b : Nat) : Int) := by
  have hx : a ^^^ b < 2 ^ 32 := Nat.xor_lt_two_pow (by omega) (by omega)
  have h1 : (BitVec.ofInt 32 (a : Int)).toNat = a := by
    rw [BitVec.ofInt_natCast, BitVec.toNat_ofNat]; exact Nat.mod_eq_of_lt (by omega)
  have h2 : (BitVec.ofInt 32 (b : Int)).toNat = b := by
    rw [BitVec.ofInt_natCast, BitVec.toNat_ofNat]; exact Nat.mod_eq_of_lt (by omega)
  show IntKind.u32.wrap ((BitVec.ofInt 32 (a : Int) ^^^ BitVec.ofInt 32 (b : Int)).toNat : Int) = _
  rw [BitVec.toNat_xor, h1, h2, IntKind.wrap_u32]
  omega
def mixE (x : Int) : Int := (Go.bits .xor .u32 (((Go.bits .xor .u32 (((Go.bits .xor .u32 x (x / 65536)) * 2146121005) % 4294967296) ((((Go.bits .xor .u32 x (x / 65536)) * 2146121005) % 4294967296) / 32768)) * 2221713035) % 4294967296) ((((Go.bits .xor .u32 (((Go.bits .xor .u32 x (x / 65536)) * 2146121005) % 4294967296) ((((Go.bits .xor .u32 x (x / 65536)) * 2146121005) % 4294967296) / 32768)) * 2221713035) % 4294967296) / 65536))
theorem xs_int (a k : Nat) (h : a < 4294967296) : Go.bits .xor .u32 (a : Int) ((a : Int) / (k : Int)) = ((a ^^^ (a / k) : Nat) : Int) := by
  rw [← Int.natCast_ediv]; exact xor_nat _ _ h (Nat.lt_of_le_of_lt (Nat.div_le_self _ _) h)
theorem mul_int (a k : Nat) : ((a : Int) * (k : Int)) % 4294967296 = ((a * k % 4294967296 : Nat) : Int) := by
  rw [Int.natCast_emod, Int.natCast_mul]; rfl
theorem xs16 (a : Nat) (h : a < 4294967296) : Go.bits .xor .u32 (a : Int) ((a : Int) / 65536) = ((a ^^^ (a / 65536) : Nat) : Int) := xs_int a 65536 h
theorem xs15 (a : Nat) (h : a < 4294967296) : Go.bits .xor .u32 (a : Int) ((a : Int) / 32768) = ((a ^^^ (a / 32768) : Nat) : Int) := xs_int a 32768 h
theorem mulA (a : Nat) : ((a : Int) * 2146121005) % 4294967296 = ((a * 2146121005 % 4294967296 : Nat) : Int) := mul_int a 2146121005
theorem mulB (a : Nat) : ((a : Int) * 2221713035) % 4294967296 = ((a * 2221713035 % 4294967296 : Nat) : Int) := mul_int a 2221713035
theorem mixE_eq (x : Int) (h0 : 0 ≤ x) (h1 : x < 4294967296) : mixE x = mixI x := by
  obtain ⟨n, rfl⟩ := Int.eq_ofNat_of_zero_le h0
  have hm : ∀ a : Nat, a % 4294967296 < 4294967296 := fun a => Nat.mod_lt _ (by decide)
  unfold mixE
  rw [xs16 n (by omega), mulA, xs15 _ (hm _), mulB, xs16 _ (hm _)]
  rfl
theorem mix_calls (x : Int) (w : World) (h0 : 0 ≤ x) (h1 : x < 4294967296) :
    Calls Try.prog 90 #[.int .u32 x] w fun e w' => e = .returned (.int .u32 (mixI x)) ∧ w = w' := by
  have HE := Lib.hid (mixE_eq x h0 h1)
  clear h0 h1
  go_enter Try.func90, Try.ntmps90
  go_wp2
  go_ret
  rw [← HE.out]
  exact ⟨rfl, rfl⟩

def h2I (a b : Int) : Int := mixI (Go.bits .xor .u32 (mixI ((a + 2654435761) % 4294967296)) b)
def h3I (a b c : Int) : Int := mixI (Go.bits .xor .u32 (h2I a b) ((c + 2246822519) % 4294967296))
theorem xor_range (a b : Int) : 0 ≤ Go.bits .xor .u32 a b ∧ Go.bits .xor .u32 a b < 4294967296 := by
  show 0 ≤ IntKind.u32.wrap _ ∧ IntKind.u32.wrap _ < _
  rw [IntKind.wrap_u32]; omega
theorem hash2_calls (a b : Int) (w : World) :
    Calls Try.prog 65 #[.int .u32 a, .int .u32 b] w fun e w' => e = .returned (.int .u32 (h2I a b)) ∧ w = w' := by
  go_enter Try.func65, Try.ntmps65
  go_wp2_with fail
  refine (mix_calls _ _ (by omega) (by omega)).mono ?_
  rintro e w' ⟨rfl, rfl⟩
  go_wp2_with fail
  refine (mix_calls _ _ (xor_range _ _).1 (xor_range _ _).2).mono ?_
  rintro e w' ⟨rfl, rfl⟩
  go_wp2
  go_ret
  exact ⟨rfl, rfl⟩
theorem hash3_calls (a b c : Int) (w : World) :
    Calls Try.prog 106 #[.int .u32 a, .int .u32 b, .int .u32 c] w fun e w' => e = .returned (.int .u32 (h3I a b c)) ∧ w = w' := by
  go_enter Try.func106, Try.ntmps106
  go_wp2_with fail
  refine (hash2_calls _ _ _).mono ?_
  rintro e w' ⟨rfl, rfl⟩
  go_wp2_with fail
  refine (mix_calls _ _ (xor_range _ _).1 (xor_range _ _).2).mono ?_
  rintro e w' ⟨rfl, rfl⟩
  go_wp2
  go_ret
  exact ⟨rfl, rfl⟩
end Go.Proofs.Ytnpphmgibgfjoaa.MixW
/- Straws, without Go. -/
namespace Go.Proofs.Ytnpphmgibgfjoaa.StrP
open Go.RowKit KW MixP MixW

def lot (x id r : Int) : Nat := (h3I x (id % 4294967296) r % 65536).toNat + 1
theorem lot_pos (x id r : Int) : lot x id r ≠ 0 := by unfold lot; omega
theorem lot_le (x id r : Int) : lot x id r ≤ 65536 := by
  unfold lot
  have : h3I x (id % 4294967296) r % 65536 < 65536 := Int.emod_lt_of_pos _ (by decide)
  omega
theorem log64 : logn 65536 = 268435456 := by decide +kernel
theorem logn_le {u : Nat} (h0 : u ≠ 0) (h : u ≤ 65536) : logn u ≤ 268435456 := by
  rw [← log64]; exact logn_mono h0 h (Nat.le_refl _)
def numer (x id r : Int) : Int := (268435456 - (logn (lot x id r) : Nat)) * 65536
def drB (w : Wd) : Bool := decide (1 ≤ w.wt) && decide (w.wt ≤ 1073741824)
theorem drB_iff (w : Wd) : drB w = true ↔ 1 ≤ w.wt ∧ w.wt ≤ 1073741824 := by unfold drB; simp
def drV (x r : Int) (w : Wd) : Int := if drB w = true then numer x w.id r / w.wt else 0
def sstep (x r : Int) (i : Int) (w : Wd) (st : Int × Int) : Int × Int := if (drB w && (decide (st.1 < 0) || decide (drV x r w < st.2))) = true then (i, drV x r w) else st
def chs (x r : Int) : List Wd → Int → Int × Int → Int × Int
  | [], _, st => st
  | w :: l, i, st => chs x r l (i + 1) (sstep x r i w st)
def pick (x r : Int) (l : List Wd) : Int := (chs x r l 0 (-1, 0)).1
/-- What is known behind some: who is chosen of them. -/
def Inv (x r : Int) (p : List Wd) (st : Int × Int) : Prop :=
  (st.1 = -1 ∧ ∀ (m : Nat) (u : Wd), p[m]? = some u → drB u = false) ∨
  ∃ (n : Nat) (w : Wd), st.1 = n ∧ p[n]? = some w ∧ drB w = true ∧ st.2 = drV x r w ∧ ∀ (m : Nat) (u : Wd), p[m]? = some u → drB u = true → drV x r w ≤ drV x r u ∧ (m < n → drV x r w < drV x r u)
theorem snoc_get {α : Type} {p : List α} {w u : α} {m : Nat} (h : (p ++ [w])[m]? = some u) : p[m]? = some u ∨ (m = p.length ∧ u = w) := by
  rcases Nat.lt_trichotomy m p.length with hc | hc | hc
  · rw [List.getElem?_append_left hc] at h; exact .inl h
  · subst hc
    rw [List.getElem?_append_right (Nat.le_refl _)] at h
    simp at h
    exact .inr ⟨rfl, h.symm⟩
  · rw [List.getElem?_eq_none (by simp; omega)] at h; cases h
theorem snoc_left {α : Type} {p : List α} {w u : α} {m : Nat} (h : p[m]? = some u) : (p ++ [w])[m]? = some u := by
  rw [List.getElem?_append_left (List.getElem?_eq_some_iff.1 h).1]; exact h
theorem inv_step {x r : Int} {p : List Wd} {st : Int × Int} (h : Inv x r p st) (w : Wd) : Inv x r (p ++ [w]) (sstep x r p.length w st) := by
  unfold sstep
  cases hw : drB w with
  | false =>
    simp only [Bool.false_and, Bool.false_eq_true, if_false]
    rcases h with ⟨h1, h2⟩ | ⟨n, v, h1, h2, h3, h4, h5⟩
    · exact .inl ⟨h1, fun m u hm => by
        rcases snoc_get hm with hm | ⟨_, rfl⟩
        · exact h2 m u hm
        · exact hw⟩
    · refine .inr ⟨n, v, h1, snoc_left h2, h3, h4, fun m u hm hu => ?_⟩
      rcases snoc_get hm with hm | ⟨_, rfl⟩
      · exact h5 m u hm hu
      · rw [hw] at hu; cases hu
  | true =>
    simp only [Bool.true_and]
    rcases h with ⟨h1, h2⟩ | ⟨n, v, h1, h2, h3, h4, h5⟩
    · rw [if_pos (by rw [h1]; simp)]
      refine .inr ⟨p.length, w, rfl, by simp, hw, rfl, fun m u hm hu => ?_⟩
      rcases snoc_get hm with hm | ⟨rfl, rfl⟩
      · rw [h2 m u hm] at hu; cases hu
      · exact ⟨Int.le_refl _, fun hlt => absurd hlt (Nat.lt_irrefl _)⟩
    · have hn : ¬ st.1 < 0 := by rw [h1]; omega
      by_cases hd : drV x r w < st.2
      · rw [if_pos (by simp [hd])]
        refine .inr ⟨p.length, w, rfl, by simp, hw, rfl, fun m u hm hu => ?_⟩
        rcases snoc_get hm with hm | ⟨rfl, rfl⟩
        · have := (h5 m u hm hu).1
          rw [h4] at hd
          exact ⟨by omega, fun _ => by omega⟩
        · exact ⟨Int.le_refl _, fun hlt => absurd hlt (Nat.lt_irrefl _)⟩
      · rw [if_neg (by simp [hd]; omega)]
        refine .inr ⟨n, v, h1, snoc_left h2, h3, h4, fun m u hm hu => ?_⟩
        rcases snoc_get hm with hm | ⟨rfl, rfl⟩
        · exact h5 m u hm hu
        · rw [h4] at hd
          have hl : n < p.length := (List.getElem?_eq_some_iff.1 h2).1
          exact ⟨by omega, fun hlt => by omega⟩
theorem inv_chs {x r : Int} : ∀ (s p : List Wd) (st : Int × Int), Inv x r p st → Inv x r (p ++ s) (chs x r s p.length st)
  | [], p, st, h => by rw [List.append_nil]; exact h
  | w :: s, p, st, h => by
    have := inv_chs s (p ++ [w]) _ (inv_step h w)
    rw [List.append_assoc] at this
    have e : ((p ++ [w]).length : Int) = (p.length : Int) + 1 := by simp
    rw [e] at this
    exact this
theorem pick_inv (x r : Int) (l : List Wd) : Inv x r l (chs x r l 0 (-1, 0)) := by
  have := inv_chs (x := x) (r := r) l [] (-1, 0) (.inl ⟨rfl, fun m u h => by simp at h⟩)
  simpa using this
/-- Who is chosen. -/
def Best (x r : Int) (l : List Wd) (a : Int) : Prop :=
  (a = -1 ∧ ∀ (m : Nat) (u : Wd), l[m]? = some u → drB u = false) ∨
  ∃ (n : Nat) (w : Wd), a = n ∧ l[n]? = some w ∧ drB w = true ∧ ∀ (m : Nat) (u : Wd), l[m]? = some u → drB u = true → drV x r w ≤ drV x r u ∧ (m < n → drV x r w < drV x r u)
theorem pick_best (x r : Int) (l : List Wd) : Best x r l (pick x r l) := by
  rcases pick_inv x r l with ⟨h1, h2⟩ | ⟨n, v, h1, h2, h3, _, h5⟩
  · exact .inl ⟨h1, h2⟩
  · exact .inr ⟨n, v, h1, h2, h3, h5⟩
theorem best_range {x r : Int} {l : List Wd} {a : Int} (h : Best x r l a) : -1 ≤ a ∧ a < l.length := by
  rcases h with ⟨h1, _⟩ | ⟨n, v, h1, h2, _⟩
  · omega
  · have := (List.getElem?_eq_some_iff.1 h2).1
    omega
def weight (w : Wd) : Int := if drB w = true then w.wt else 0
end Go.Proofs.Ytnpphmgibgfjoaa.StrP
/- Descents through racks, hosts and OSDs, on plain lists. -/
namespace Go.Proofs.Ytnpphmgibgfjoaa.CrP
open Go.RowKit Go.Proofs.YtnpphmgibgfjoaaW.PrintWords KW MixP MixW StrP PAll
abbrev Od := S40
def keyN (lv : Nat) (o : Od) : Int := if lv = 1 then o.f7 else if lv = 2 then o.f6 else o.f0
def wOf (o : Od) : Int := if o.f2 = true then o.f3 else 0
def ins (k w : Int) : List Wd → List Wd
  | [] => [⟨k, w⟩]
  | u :: r => if k < u.id then ⟨k, w⟩ :: u :: r else if u.id = k then ⟨u.id, u.wt + w⟩ :: r else u :: ins k w r
def groupF (lv : Nat) (g : List Wd) (l : List Od) : List Wd := l.foldl (fun g o => ins (keyN lv o) (wOf o) g) g
def group (lv : Nat) (l : List Od) : List Wd := groupF lv [] l
def getW (g : List Wd) (k : Int) : Option Int := (g.find? fun u => u.id == k).map (·.wt)
def Up : List Wd → Prop
  | [] => True
  | u :: r => (∀ v ∈ r, u.id < v.id) ∧ Up r
theorem ins_ids (k w : Int) : ∀ (g : List Wd) (v : Wd), v ∈ ins k w g → v.id = k ∨ ∃ u ∈ g, u.id = v.id
  | [], v, h => by
    rcases List.mem_singleton.1 h with rfl
    exact .inl rfl
  | u :: r, v, h => by
    simp only [ins] at h
    split at h
    · rcases List.mem_cons.1 h with rfl | h
      · exact .inl rfl
      · exact .inr ⟨v, h, rfl⟩
    · split at h
      · rcases List.mem_cons.1 h with rfl | h
        · exact .inr ⟨u, List.mem_cons_self, rfl⟩
        · exact .inr ⟨v, List.mem_cons_of_mem _ h, rfl⟩
      · rcases List.mem_cons.1 h with rfl | h
        · exact .inr ⟨v, List.mem_cons_self, rfl⟩
        · rcases ins_ids k w r v h with h | ⟨z, hz, e⟩
          · exact .inl h
          · exact .inr ⟨z, List.mem_cons_of_mem _ hz, e⟩
theorem ins_up (k w : Int) : ∀ (g : List Wd), Up g → Up (ins k w g)
  | [], _ => ⟨fun v h => absurd h List.not_mem_nil, trivial⟩
  | u :: r, h => by
    simp only [ins]
    split
    · rename_i hk
      refine ⟨fun v hv => ?_, h⟩
      rcases List.mem_cons.1 hv with rfl | hv
      · exact hk
      · have := h.1 v hv; show k < v.id; omega
    · split
      · exact ⟨h.1, h.2⟩
      · rename_i h1 h2
        refine ⟨fun v hv => ?_, ins_up k w r h.2⟩
        rcases ins_ids k w r v hv with e | ⟨z, hz, e⟩
        · omega
        · have := h.1 z hz; omega
theorem getW_none {g : List Wd} {k : Int} (h : ∀ v ∈ g, v.id ≠ k) : getW g k = none := by
  unfold getW
  rw [List.find?_eq_none.2 (fun v hv => by have := h v hv; simp [this])]
  rfl
theorem getW_cons (u : Wd) (r : List Wd) (k : Int) : getW (u :: r) k = if u.id = k then some u.wt else getW r k := by
  unfold getW
  rw [List.find?_cons]
  by_cases h : u.id = k
  · simp [h]
  · rw [beq_eq_false_iff_ne.2 h, if_neg h]
theorem getW_ins (k w : Int) : ∀ (g : List Wd), Up g → ∀ j, getW (ins k w g) j = if j = k then some ((getW g k).getD 0 + w) else getW g j
  | [], _, j => by
    simp only [ins]
    rw [getW_cons]
    by_cases h : j = k
    · subst h; simp [getW]
    · rw [if_neg (fun e => h e.symm), if_neg h]
  | u :: r, hu, j => by
    simp only [ins]
    split
    · rename_i hk
      have hn : getW (u :: r) k = none := getW_none (fun v hv => by
        rcases List.mem_cons.1 hv with rfl | hv
        · omega
        · have := hu.1 v hv; omega)
      rw [getW_cons]
      by_cases h : j = k
      · subst h; rw [if_pos rfl, if_pos rfl, hn]; simp
      · rw [if_neg (fun e => h e.symm), if_neg h]
    · split
      · rename_i h1 h2
        rw [getW_cons, getW_cons, getW_cons]
        by_cases h : j = k
        · subst h; simp [h2]
        · rw [if_neg h, if_neg (by rw [h2]; exact fun e => h e.symm), if_neg (by rw [h2]; exact fun e => h e.symm)]
      · rename_i h1 h2
        rw [getW_cons, getW_cons, getW_cons, getW_ins k w r hu.2 j]
        by_cases h : j = k
        · subst h; rw [if_neg h2, if_pos rfl, if_pos rfl, if_neg h2]
        · rw [if_neg h, if_neg h]
theorem group_up (lv : Nat) : ∀ (l : List Od) (g : List Wd), Up g → Up (groupF lv g l)
  | [], _, h => h
  | _ :: r, g, h => group_up lv r _ (ins_up _ _ g h)
theorem groupF_snoc (lv : Nat) (g : List Wd) (l : List Od) (o : Od) : groupF lv g (l ++ [o]) = ins (keyN lv o) (wOf o) (groupF lv g l) := by
  unfold groupF
  rw [List.foldl_append]
  rfl
theorem getW_mem {g : List Wd} (hu : Up g) (v : Wd) : v ∈ g ↔ getW g v.id = some v.wt := by
  induction g with
  | nil => simp [getW]
  | cons u r ih =>
    rw [getW_cons]
    by_cases h : u.id = v.id
    · rw [if_pos h]
      constructor
      · intro hv
        rcases List.mem_cons.1 hv with rfl | hv
        · rfl
        · have := hu.1 v hv; omega
      · intro e
        have e := Option.some.inj e
        have : u = v := by cases u; cases v; simp at h e; rw [h, e]
        rw [this]; exact List.mem_cons_self
    · rw [if_neg h, ← ih hu.2]
      constructor
      · intro hv
        rcases List.mem_cons.1 hv with rfl | hv
        · exact absurd rfl h
        · exact hv
      · exact List.mem_cons_of_mem _
/-- Two rising lists of the same ones are one. -/
theorem up_unique : ∀ {g h : List Wd}, Up g → Up h → (∀ v, v ∈ g ↔ v ∈ h) → g = h
  | [], [], _, _, _ => rfl
  | [], u :: r, _, _, e => absurd ((e u).2 List.mem_cons_self) List.not_mem_nil
  | u :: r, [], _, _, e => absurd ((e u).1 List.mem_cons_self) List.not_mem_nil
  | u :: r, v :: s, hg, hh, e => by
    have huv : u = v := by
      have h1 := (e u).1 List.mem_cons_self
      have h2 := (e v).2 List.mem_cons_self
      rcases List.mem_cons.1 h1 with h1 | h1
      · exact h1
      · rcases List.mem_cons.1 h2 with h2 | h2
        · exact h2.symm
        · have a := hh.1 u h1
          have b := hg.1 v h2
          omega
    subst huv
    rw [up_unique hg.2 hh.2 (fun z => ⟨fun hz => ?_, fun hz => ?_⟩)]
    · rcases List.mem_cons.1 ((e z).1 (List.mem_cons_of_mem _ hz)) with h1 | h1
      · subst h1; have := hg.1 z hz; omega
      · exact h1
    · rcases List.mem_cons.1 ((e z).2 (List.mem_cons_of_mem _ hz)) with h1 | h1
      · subst h1; have := hh.1 z hz; omega
      · exact h1
/-- The weight of a number. -/
def sumK (lv : Nat) (k : Int) : List Od → Int
  | [] => 0
  | o :: r => (if keyN lv o = k then wOf o else 0) + sumK lv k r
theorem getW_groupF (lv : Nat) : ∀ (l : List Od) (g : List Wd), Up g → ∀ k, getW (groupF lv g l) k = if (getW g k).isSome = true ∨ (∃ o ∈ l, keyN lv o = k) then some ((getW g k).getD 0 + sumK lv k l) else none
  | [], g, _, k => by
    show getW g k = _
    cases h : getW g k with
    | none => rw [if_neg (by simp)]
    | some z => rw [if_pos (by simp)]; simp [sumK]
  | o :: r, g, hu, k => by
    show getW (groupF lv (ins (keyN lv o) (wOf o) g) r) k = _
    rw [getW_groupF lv r _ (ins_up _ _ g hu) k, getW_ins _ _ g hu]
    by_cases h : keyN lv o = k
    · subst h
      rw [if_pos rfl, if_pos (by simp), if_pos (.inr ⟨o, List.mem_cons_self, rfl⟩)]
      simp only [sumK, if_pos, Option.getD_some]
      rw [Int.add_assoc]
    · rw [show (if k = keyN lv o then some ((getW g (keyN lv o)).getD 0 + wOf o) else getW g k) = getW g k from if_neg (fun e => h e.symm)]
      simp only [sumK, if_neg h, Int.zero_add]
      by_cases h2 : (getW g k).isSome = true ∨ ∃ o ∈ r, keyN lv o = k
      · rw [if_pos h2, if_pos]
        rcases h2 with h2 | ⟨z, hz, e⟩
        · exact .inl h2
        · exact .inr ⟨z, List.mem_cons_of_mem _ hz, e⟩
      · rw [if_neg h2, if_neg]
        rintro (h3 | ⟨z, hz, e⟩)
        · exact h2 (.inl h3)
        · rcases List.mem_cons.1 hz with rfl | hz
          · exact h e
          · exact h2 (.inr ⟨z, hz, e⟩)
theorem group_mem (lv : Nat) (l : List Od) (v : Wd) : v ∈ group lv l ↔ (∃ o ∈ l, keyN lv o = v.id) ∧ v.wt = sumK lv v.id l := by
  show v ∈ groupF lv [] l ↔ _
  rw [getW_mem (group_up lv l [] trivial), getW_groupF lv l [] trivial]
  have e0 : getW [] v.id = none := rfl
  rw [e0]
  by_cases h : ∃ o ∈ l, keyN lv o = v.id
  · rw [if_pos (.inr h)]
    simp only [Option.getD_none, Int.zero_add, Option.some.injEq]
    exact ⟨fun e => ⟨h, e.symm⟩, fun e => e.2.symm⟩
  · rw [if_neg (by rintro (h3 | h3); · cases h3
                   · exact h h3)]
    exact ⟨fun e => (by cases e), fun e => absurd e.1 h⟩
/-- One step down. -/
def lvl (x r : Int) (lv : Nat) (l : List Od) : Option (List Od) :=
  if pick (h2I x lv) r (group lv l) < 0 then none else some (l.filter fun o => decide (keyN lv o = ((group lv l).getD (pick (h2I x lv) r (group lv l)).toNat ⟨0, 0⟩).id))
def desc (x r : Int) (l : List Od) : Option Od := (((lvl x r 1 l).bind (lvl x r 2)).bind (lvl x r 3)).bind List.head?
def tries (l : List Od) (x want place : Int) (lv : Nat) (taken : List Int) : Nat → Nat → Option Od
  | 0, _ => none
  | m + 1, t => match desc x (place + t * want) l with
    | some o => if keyN lv o ∈ taken then tries l x want place lv taken m (t + 1) else some o
    | none => tries l x want place lv taken m (t + 1)
def places (l : List Od) (x want : Int) (lv : Nat) : Nat → Nat → List Int → List Int
  | 0, _, _ => []
  | m + 1, p, taken => match tries l x want p lv taken 50 0 with
    | some o => o.f0 :: places l x want lv m (p + 1) (keyN lv o :: taken)
    | none => -1 :: places l x want lv m (p + 1) taken
def room (lv : Nat) (l : List Od) : Nat := ((group lv l).filter fun u => decide (0 < u.wt)).length
/-! ### what a step leaves -/
theorem lvl_some {x r : Int} {lv : Nat} {l l' : List Od} (h : lvl x r lv l = some l') : ∃ v ∈ group lv l, drB v = true ∧ l' = l.filter fun o => decide (keyN lv o = v.id) := by
  unfold lvl at h
  split at h
  · cases h
  · rename_i hp
    have hb := pick_best (h2I x lv) r (group lv l)
    have hr := best_range hb
    obtain ⟨n, hn⟩ := Int.eq_ofNat_of_zero_le (show 0 ≤ pick (h2I x lv) r (group lv l) by omega)
    have hlt : n < (group lv l).length := by omega
    have hd : drB (group lv l)[n] = true := by
      rcases hb with ⟨e, _⟩ | ⟨m, v, e, hv, hd, _⟩
      · omega
      · have : m = n := by omega
        subst this
        rw [List.getElem?_eq_getElem hlt] at hv
        rw [Option.some.inj hv]; exact hd
    refine ⟨(group lv l)[n], List.getElem_mem hlt, hd, ?_⟩
    have e := (Option.some.inj h).symm
    rw [hn] at e
    rw [e, show ((n : Nat) : Int).toNat = n from rfl, List.getD_eq_getElem?_getD, List.getElem?_eq_getElem hlt]
    rfl
end Go.Proofs.Ytnpphmgibgfjoaa.CrP
/- Weighed ones sorted by their numbers: slices.SortFunc, at the call's own row. -/
namespace Go.Proofs.Ytnpphmgibgfjoaa.Srt
open Go Go.Sort Go.Shelf Go.RowKit Go.Proofs.YtnpphmgibgfjoaaW.PrintWords KW MixP MixW StrP CrP
def encW (x : Wd) : List Value := [.int .i64 x.id, .int .i64 x.wt]
def cmpW (x y : Wd) : Int := Lib.compareInt x.id y.id
theorem ltW (x y : Wd) : ltOf cmpW x y = decide (x.id < y.id) := by
  unfold ltOf cmpW Lib.compareInt
  by_cases h1 : x.id < y.id
  · simp [h1]
  · by_cases h2 : y.id < x.id <;> simp [h1, h2]
theorem swoW : SWO (ltOf cmpW) where
  irrefl x := by rw [ltW]; simp
  trans x y z h1 h2 := by rw [ltW] at *; simp at *; omega
  ntrans x y z h1 h2 := by rw [ltW] at *; simp at *; omega
theorem cmp_calls (x y : Wd) (W : World) : Calls Try.prog 82 #[.agg #[.int .i64 x.id, .int .i64 x.wt], .agg #[.int .i64 y.id, .int .i64 y.wt]] W fun e w' => e = .returned (.int .i64 (cmpW x y)) ∧ ∃ q os', w' = grow (W.drewN q) os' := by
  have hcon := fun W' => Try.cmp_Compare_int x.id y.id W'
  unfold cmpW
  generalize Lib.compareInt x.id y.id = r at hcon ⊢
  go_enter Try.func82, Try.ntmps82
  go_wp2_with (go_at_call 83; refine (hcon _).mono ?_; rintro e w' ⟨rfl, rfl⟩)
  go_ret
  exact ⟨rfl, 0, _, by rw [alloc_eq_grow, alloc_eq_grow, grow_grow]; rfl⟩
theorem flat_at (ys : List Wd) (j : Nat) (y : Wd) (h : ys[j]? = some y) (i : Nat) (hi : i < 2) : (flatK encW 2 ys.toArray)[j * 2 + i]? = some ((encW y)[i]!) := by
  have hj := (List.getElem?_eq_some_iff.1 h).1
  have hy : ys[j] = y := (List.getElem?_eq_some_iff.1 h).2
  have ht : j * 2 + i < ys.toArray.size * 2 := by simp; omega
  have hs : j * 2 + i < (flatK encW 2 ys.toArray).size := by rw [size_flatK]; exact ht
  have := get_flatK encW 2 ys.toArray (j * 2 + i) ht
  rw [getElem!_pos (flatK encW 2 ys.toArray) _ hs] at this
  rw [Array.getElem?_eq_getElem hs, this, show (j * 2 + i) / 2 = j by omega, show (j * 2 + i) % 2 = i by omega]
  rw [getElem!_pos ys.toArray j (by simpa using hj)]
  simp [hy]
theorem reps_flat (w : World) (base : Nat) (ok : Nat → Prop) (ys : List Wd) : Reps (kW.M w base ok) 2 ys (flatK encW 2 ys.toArray).toList := by
  refine ⟨by simp, fun j y hj => ?_⟩
  have e : ((flatK encW 2 ys.toArray).toList.drop (j * 2)).take 2 = [.int .i64 y.id, .int .i64 y.wt] := by
    apply List.ext_getElem?
    intro i
    rcases Nat.lt_or_ge i 2 with hi | hi
    · rw [List.getElem?_take_of_lt hi, List.getElem?_drop, Array.getElem?_toList, flat_at ys j y hj i hi]
      match i, hi with
      | 0, _ => rfl
      | 1, _ => rfl
    · rw [List.getElem?_take_eq_none hi, List.getElem?_eq_none (by simpa using hi)]
  rw [e]
  exact kW_mkM _ _ _ y
theorem sort_calls {w : World} {base : Nat} {v : Value} {xs : List Wd} (h : kW.R 83 w base (fun _ => True) v xs) (hp : 0 < xs.length) (hs : xs.length ≤ 140737488355328) :
    Calls Try.prog 81 #[v, .func (.func 82) #[] #[]] w fun e w' => e = .returned (.tuple #[]) ∧ ∃ ys : List Wd, ys.Perm xs ∧ (∀ i j : Nat, i < j → ∀ a b : Wd, ys[i]? = some a → ys[j]? = some b → a.id ≤ b.id) ∧ kW.R 83 w' base (fun _ => True) v ys ∧ w.grownBy w' v.ownBlock := by
  obtain ⟨g, cap, rfl, hb, hlt, _⟩ := Kd.R_form h hp
  have hC := (Kd.R_reads' h).2.2
  obtain ⟨inner, ho⟩ := Kd.R_own h
  rcases ho.2 with ⟨h0, _⟩ | ⟨g', cap', cur, hv, hg, hh, hn, hcap, hsz, ht⟩
  · cases h0
  cases hv
  have hH : HoldsK encW 2 w g 0 xs.toArray := by
    intro t ht
    have ht' : t < xs.length * 2 := by simpa using ht
    have hi : t / 2 < xs.length := by omega
    obtain ⟨ad, x, hx, hA, c0, c1⟩ := at_W hC (t / 2) hi
    injection hA with hA
    subst hA
    rw [add_plain] at c0 c1
    refine ⟨?_, blk_frozen hh _⟩
    have hf := flat_at xs (t / 2) x hx (t % 2) (Nat.mod_lt _ (by decide))
    rw [show t / 2 * 2 + t % 2 = t by omega] at hf
    have hs2 : t < (flatK encW 2 xs.toArray).size := ht
    rw [getElem!_pos (flatK encW 2 xs.toArray) _ hs2]
    rw [Array.getElem?_eq_getElem hs2] at hf
    rw [Option.some.inj hf, Nat.zero_add]
    rcases Nat.mod_two_eq_zero_or_one t with e | e
    · rw [e, show t = t / 2 * 2 by omega]; exact c0
    · rw [e, show t = t / 2 * 2 + 1 by omega]; exact c1
  have eg : ∀ args w, (callFunc 82 args).run Try.prog w = .ok (.enter 82 args) w := enters_of Try.func82 (by kernel_rfl) rfl
  have hlays : CmpLays Try.prog 82 #[] encW 2 cmpW g 0 xs.toArray.size w := fun _ _ _ _ x y => cmp_calls x y _
  have hcon := AnyQ.slices_SortFunc Try.sortWd 2 Try.isAgg83 Try.sizeOf83 encW (fun _ => rfl) (fun x v hv => by simp [encW] at hv; rcases hv with rfl | rfl <;> rfl) cmpW swoW 82 #[] g 0 cap xs.toArray w eg hlays hH hlt (by simp; omega)
  change Calls Try.prog 81 _ _ _ at hcon
  rw [List.size_toArray] at hcon
  refine hcon.mono ?_
  rintro e w' ⟨rfl, d', n, os, hp1, hs1, rfl⟩
  obtain ⟨ys, rfl⟩ : ∃ ys : List Wd, d' = ys.toArray := ⟨d'.toList, rfl⟩
  have hl : ys.length = xs.length := by have := hp1.1; simpa using this
  have hgb : w.grownBy (sortWorldK encW 2 w g 0 n ys.toArray os) (some g) := by
    refine ⟨rfl, rfl, rfl, by simp [sortWorldK, putRowK, Sort.ahead], fun k hk hne => ?_⟩
    unfold sortWorldK putRowK
    rw [heap_grow_old _ _ (by simpa using hk)]
    have : g ≠ k := fun e => hne (by rw [e])
    simp [putRow, mapBlock, Sort.ahead, Array.getElem?_modify, this]
  have hblk : (sortWorldK encW 2 w g 0 n ys.toArray os).heap[g]? = some (.cells (putCells id 0 (flatK encW 2 ys.toArray) cur) 83 (0, 0)) := by
    unfold sortWorldK putRowK
    rw [heap_grow_old _ _ (by simpa using hlt)]
    simp [putRow, mapBlock, Sort.ahead, Array.getElem?_modify, hh, onCells]
  have hcur : xs.length * 2 ≤ cur.size := by
    have : kW.sz = 2 := rfl
    rw [this] at hsz
    omega
  refine ⟨rfl, ys, ?_, ?_, ⟨fun _ _ => trivial, (flatK encW 2 ys.toArray).toList, ⟨by simp [kW]; rfl, .inr ⟨g, cap, _, by rw [hl], hg, hblk, by rw [hl]; exact hn, hcap, by simpa [putCells] using hsz, ?_⟩⟩, reps_flat _ _ _ _⟩, hgb⟩
  · have h3 := hp1.2.2
    have e1 : (ys.toArray.extract 0 xs.length).toList = ys := by rw [← hl]; simp
    have e2 : (xs.toArray.extract 0 xs.length).toList = xs := by simp
    rwa [e1, e2] at h3
  · intro i j hij a b ha hb2
    have hj := (List.getElem?_eq_some_iff.1 hb2).1
    have hi := (List.getElem?_eq_some_iff.1 ha).1
    have h4 := hs1 i j (Nat.zero_le _) hij (by first | omega | (simp; omega))
    rw [ltW, getElem!_pos ys.toArray j (by simpa using hj), getElem!_pos ys.toArray i (by simpa using hi)] at h4
    have h5 := of_decide_eq_false h4
    simp only [List.getElem_toArray] at h5
    rw [(List.getElem?_eq_some_iff.1 hb2).2, (List.getElem?_eq_some_iff.1 ha).2] at h5
    omega
  · apply List.ext_getElem?
    intro t
    have e2 : kW.sz = 2 := rfl
    rw [e2]
    rcases Nat.lt_or_ge t (ys.length * 2) with htl | htl
    · have htc : t < cur.size := by omega
      rw [List.getElem?_take_of_lt htl, Array.getElem?_toList, Array.getElem?_toList]
      have hs3 : t < (flatK encW 2 ys.toArray).size := by simpa using htl
      simp [putCells, htc]
      rw [if_pos (by simpa using htl), Array.getElem?_eq_getElem hs3, getElem!_pos (flatK encW 2 ys.toArray) _ hs3]
    · rw [List.getElem?_take_eq_none htl, List.getElem?_eq_none (by simpa using htl)]
/-! ### nothing to sort -/
theorem ins0_calls (A : Option Addr) (c : Nat) (f : Value) (w : World) : Calls Try.prog 109 #[.slice A 0 c, .int .i64 0, .int .i64 0, f] w fun e w' => e = .returned (.tuple #[]) ∧ w = w' := by
  go_enter Try.func109, Try.ntmps109
  go_wp2_with fail
  refine wp_loop_rounds 1 ?_
  rw [rounds_succ]
  go_wp2_with fail
  refine Go.Great.bodyPost_end0 (by kernel_rfl) rfl ?_
  exact ⟨rfl, rfl⟩
theorem pdq0_calls (A : Option Addr) (c : Nat) (k : Int) (f : Value) (w : World) : Calls Try.prog 98 #[.slice A 0 c, .int .i64 0, .int .i64 0, .int .i64 k, f] w fun e w' => e = .returned (.tuple #[]) ∧ w = w' := by
  go_enter Try.func98, Try.ntmps98
  go_wp2_with fail
  refine wp_loop_rounds 1 ?_
  rw [rounds_succ]
  go_wp2_with (go_at_call 109; refine (ins0_calls _ _ _ _).mono ?_; rintro e w' ⟨rfl, rfl⟩)
  exact bodyPost_ret (v := .tuple #[]) (by simp [results, Try.results98, go_sem]) rfl ⟨rfl, rfl⟩
theorem sort0_calls (A : Option Addr) (c : Nat) (f : Value) (w : World) : Calls Try.prog 81 #[.slice A 0 c, f] w fun e w' => e = .returned (.tuple #[]) ∧ w = w' := by
  have hl := fun w => Try.bits_Len 0 w (by decide) (by decide)
  go_enter Try.func81, Try.ntmps81
  go_wp2_with (first | (go_at_call 99; refine (hl _).mono ?_; rintro e w' ⟨rfl, rfl⟩) | (go_at_call 98; refine (pdq0_calls _ _ _ _ _).mono ?_; rintro e w' ⟨rfl, rfl⟩))
  first
    | (refine Go.Great.bodyPost_end0 (by kernel_rfl) rfl ?_; exact ⟨rfl, rfl⟩)
    | (go_end0; exact ⟨rfl, rfl⟩)
end Go.Proofs.Ytnpphmgibgfjoaa.Srt
/- A region that draws its order: operations that only read, and calls that leave what was there as it was, ahead of a chain of others (a store, an append): the first part is walked once, in the text's order, in a class of worlds; the chain in each world of the class. -/
namespace Go.Proofs.Ytnpphmgibgfjoaa.QT
open Go Go.Sort Go.RowKit
section
variable {P : Program} {ops : Array Oper} {md : Region.Mode} {C : World → Prop}
/-- Whatever order is picked for the first n, then L. -/
def heads (P : Program) (md : Region.Mode) (ops : Array Oper) (C : World → Prop) (n : Nat) (L : Array Bool → Act → Prop) : Nat → Array Bool → Act → Prop
  | 0, s, a => L s a
  | f + 1, s, a => Region.ready md ops s ≠ [] ∧ ∀ i ∈ Region.ready md ops s, i < n ∧ qOp P ops C i (heads P md ops C n L f (s.setIfInBounds i true)) a
theorem any_of_heads {n g : Nat} {L : Array Bool → Act → Prop} {Q' : Exit → Act → World → Prop} (hL : ∀ s a w, C w → L s a → wpAny P md ops Q' g s a w) (f : Nat) :
    ∀ (s : Array Bool) (a : Act) (w : World), C w → heads P md ops C n L f s a → wpAny P md ops Q' (f + g) s a w := by
  induction f with
  | zero => intro s a w hw h; rw [Nat.zero_add]; exact hL _ _ _ hw h
  | succ f ih =>
    intro s a w hw h
    rw [Nat.add_right_comm]
    refine ⟨fun h0 => absurd h0 h.1, fun i hi => ?_⟩
    exact wpOp_of_qOp hw (fun a' w' hw' h' => ih _ a' w' hw' h') (h.2 i hi).2
theorem heads_first {n i : Nat} {oi : Oper} {v : Value} {L : Array Bool → Act → Prop} (hi : ops[i]? = some oi) (hsel : ∀ (j : Nat) (o : Oper) cs b, ops[j]? = some o → o.op ≠ .select cs b)
    (hs : Region.sinkB md ops n = true) (hc : Region.chainB md ops n = true) (hn : n < ops.size) (hin : i < n) (hdone : ∀ s a, L s a → ∀ j ∈ Region.ready md ops s, n ≤ j) (f : Nat) :
    ∀ (s : Array Bool) (a : Act), HeadInv md ops n s →
      (∀ j oj, ops[j]? = some oj → j ≠ i → s.getD j true = false → (∀ e ∈ oj.after, Region.binds md e = true → e.on ≠ i) → oi.apart ops oj = true) →
      i ∈ Region.ready md ops s → YieldsIn P ops C oi v a → heads P md ops C n L f (s.setIfInBounds i true) (a.put oi.dst v) → heads P md ops C n L (f + 1) s a := by
  induction f with
  | zero =>
    intro s a inv _ hr hy H
    have hu := (mem_ready.1 hr).1
    refine ⟨List.ne_nil_of_mem hr, fun j hj => ?_⟩
    have hjn : j < n := Nat.lt_of_not_le fun h => tail_waits hs hc hn inv _ i rfl hin hu j h hj
    by_cases e : j = i
    · subst e; exact ⟨hjn, hy.qOp hi H⟩
    · exact absurd (hdone _ _ H j (ready_mono hj e)) (by omega)
  | succ f ih =>
    intro s a inv hfree hr hy H
    have hu := (mem_ready.1 hr).1
    refine ⟨List.ne_nil_of_mem hr, fun j hj => ?_⟩
    have hjn : j < n := Nat.lt_of_not_le fun h => tail_waits hs hc hn inv _ i rfl hin hu j h hj
    by_cases e : j = i
    · subst e; exact ⟨hjn, hy.qOp hi H⟩
    · obtain ⟨hju, oj, hoj, hall⟩ := mem_ready.1 hj
      have hno : ∀ x ∈ oj.after, Region.binds md x = true → x.on ≠ i := fun x hx hb he => by
        have h1 := hall x hx hb
        rw [he, getD_both hu] at h1
        cases h1
      have h2 := qOp_put hoj (hfree j oj hoj e hju hno) (fun cs b => hsel i oi cs b hi) (fun cs b => hsel j oj cs b hoj) hy (H.2 j (ready_mono hj e)).2
      refine ⟨hjn, qOp_mono (fun a' h3 => ih (s.setIfInBounds j true) a' (inv.set hj hjn) (fun k ok hk hki hku hkn => ?_) (ready_mono hr (Ne.symm e)) h3.1 ?_) h2⟩
      · refine hfree k ok hk hki ?_ hkn
        by_cases ejk : j = k
        · subst ejk; exact hju
        · rwa [getD_set_ne true ejk] at hku
      · rw [Array.setIfInBounds_comm _ _ e]
        exact h3.2
theorem heads_lex {n g : Nat} {Lq : Act → Prop} (hsel : Region.noSelect ops = true) (hs : Region.sinkB md ops n = true) (hc : Region.chainB md ops n = true) (hn : n < ops.size) (l : List Oper) :
    ∀ (k : Nat) (s : Array Bool) (a : Act), (∀ j, j < l.length → l[j]? = ops[k + j]?) → k + l.length = n → HeadInv md ops n s → Region.lexHead md ops g l.length k s = true → wpQuiet P ops C Lq l a →
    heads P md ops C n (fun s' a' => Region.seqB md ops g n s' = true ∧ Lq a') l.length s a := by
  induction l with
  | nil =>
    intro k s a _ hk _ hB h
    have e : k = n := hk
    subst e
    exact ⟨hB, h⟩
  | cons o l ih =>
    intro k s a hl hk inv hB h
    have h0 : ops[k]? = some o := by have := hl 0 (Nat.zero_lt_succ _); simpa using this.symm
    simp only [List.length_cons, Region.lexHead, Bool.and_eq_true] at hB hk
    obtain ⟨⟨hr, hf⟩, hB2⟩ := hB
    have hr' : k ∈ Region.ready md ops s := by simpa using hr
    have hst : qOp P ops C k (wpQuiet P ops C Lq l) a := by unfold qOp; simp only [h0]; exact h
    obtain ⟨v, hy, hK⟩ := yieldsIn_of_qOp h0 hst
    refine heads_first h0 (Region.noSelect_spec hsel) hs hc hn (by omega) (fun s' a' hL => seqB_ready hL.1) l.length s a inv (Region.free_spec h0 hf) hr' hy ?_
    refine ih (k + 1) _ _ (fun j hj => ?_) (by omega) (inv.set hr' (by omega)) hB2 hK
    have := hl (j + 1) (by simp; omega)
    rw [show k + 1 + j = k + (j + 1) by omega]
    simpa using this
theorem wp_region_quiet_tail {id : Nat} {Q : Exit → Act → World → Prop} {a : Act} {w : World} {l : List Oper} (n : Nat) (hm : P.follows .mixedOrders = true) (hB : Region.lexTailB .any l.toArray n = true) (hC : C { w with drawn := w.drawn + 1 })
    (h : wpQuiet P l.toArray C (fun a' => ∀ w', C w' → wpList P l.toArray Q (l.drop n) a' w') (l.take n) a) : (Code.region id l.toArray true).wp P Q a w := by
  simp only [Region.lexTailB, Bool.and_eq_true, decide_eq_true_eq] at hB
  obtain ⟨⟨⟨⟨hsel, hn⟩, hs⟩, hc⟩, hlex⟩ := hB
  have hn' : n < l.length := by simpa using hn
  have htl : (l.take n).length = n := by rw [List.length_take]; omega
  have hdl : (l.drop n).length = l.toArray.size - n := by simp
  have inv0 : HeadInv .any l.toArray n (Array.replicate l.toArray.size false) :=
    ⟨by simp, fun j oj _ hl => (by rw [getD_replicate_false] at hl; cases hl), fun t _ ht => getD_in (by simpa using ht) (getD_replicate_false _ _)⟩
  have H := heads_lex (C := C) (md := .any) (g := l.toArray.size - n) hsel hs hc hn (l.take n) 0 _ a (fun j hj => by
    rw [htl] at hj
    simp [hj]) (by rw [htl]; exact Nat.zero_add n) inv0 (by rw [htl]; exact hlex) h
  refine wp_region_any hm ?_
  have := any_of_heads (Q' := Q) (g := l.toArray.size - n) (fun s a' w' hw' hL => by
    have := wpAny_of_seq (md := .any) (Q' := Q) (l.drop n) n s a' w' (fun j => by simp [List.getElem?_drop]) (by rw [hdl]; exact hL.1) (hL.2 w' hw')
    rwa [hdl] at this) _ _ _ _ hC H
  rwa [htl, show n + (l.toArray.size - n) = l.toArray.size by omega] at this
/-- .. in the class of worlds in which what was there is as it was. -/
theorem wp_region_tail {id : Nat} {Q : Exit → Act → World → Prop} {a : Act} {w : World} {l : List Oper} (n : Nat) (hm : P.follows .mixedOrders = true) (hB : Region.lexTailB .any l.toArray n = true)
    (h : wpQuiet P l.toArray (fun w' => ∃ p : Regrown, w' = grow (redrawn w p.d) p.os) (fun a' => ∀ w', (∃ p : Regrown, w' = grow (redrawn w p.d) p.os) → wpList P l.toArray Q (l.drop n) a' w') (l.take n) a) : (Code.region id l.toArray true).wp P Q a w :=
  wp_region_quiet_tail (C := fun w' => ∃ p : Regrown, w' = grow (redrawn w p.d) p.os) n hm hB ⟨⟨w.drawn + 1, #[]⟩, by rw [grow_empty]; rfl⟩ h
end
end Go.Proofs.Ytnpphmgibgfjoaa.QT
/- Groups of OSDs: the walk of crush.group. -/
namespace Go.Proofs.Ytnpphmgibgfjoaa.Grp
open Go Go.RowKit Go.Proofs.YtnpphmgibgfjoaaW.PrintWords Go.Proofs.YtnpphmgibgfjoaaW.PrintMore Mem PAll KW MixP MixW StrP AtA Srt
open CrP hiding Od
open Go.Maps (Keyed int_keyed keyOf_int_mk)
theorem rack_calls (o : Od) (w : World) : Calls Try.prog 69 #[.agg (aggO o)] w fun e w' => e = .returned (.int .i64 (keyN 1 o)) ∧ Below w.heap.size w w' := by
  have HB := Lib.hid (below_alloc (Below.refl w.heap.size w) (.cells (aggO o) 40))
  go_enter Try.func69, Try.ntmps69
  go_wp2
  go_ret
  exact ⟨rfl, HB.out⟩
theorem host_calls (o : Od) (w : World) : Calls Try.prog 68 #[.agg (aggO o)] w fun e w' => e = .returned (.int .i64 (keyN 2 o)) ∧ Below w.heap.size w w' := by
  have HB := Lib.hid (below_alloc (Below.refl w.heap.size w) (.cells (aggO o) 40))
  go_enter Try.func68, Try.ntmps68
  go_wp2
  go_ret
  exact ⟨rfl, HB.out⟩
theorem self_calls (o : Od) (w : World) : Calls Try.prog 67 #[.agg (aggO o)] w fun e w' => e = .returned (.int .i64 (keyN 3 o)) ∧ Below w.heap.size w w' := by
  have HB := Lib.hid (below_alloc (Below.refl w.heap.size w) (.cells (aggO o) 40))
  go_enter Try.func67, Try.ntmps67
  go_wp2
  go_ret
  exact ⟨rfl, HB.out⟩
theorem weight_calls (o : Od) (w : World) : Calls Try.prog 80 #[.agg (aggO o)] w fun e w' => e = .returned (.int .i64 (wOf o)) ∧ Below w.heap.size w w' := by
  have HB := Lib.hid (below_alloc (Below.refl w.heap.size w) (.cells (aggO o) 40))
  obtain ⟨b, hb⟩ : ∃ b, o.f2 = b := ⟨_, rfl⟩
  unfold wOf
  rw [hb]
  have HBB := Lib.hid hb
  cases b
  · have c2 : o.f2 = false := hb
    go_enter Try.func80, Try.ntmps80
    go_wp2
    go_ret
    exact ⟨rfl, HB.out⟩
  · have c2 : o.f2 = true := hb
    go_enter Try.func80, Try.ntmps80
    go_wp2
    go_ret
    exact ⟨rfl, HB.out⟩
/-! ### what the map of sums holds -/
def Sums (D : DW) (g : List Wd) : Prop := ∀ k : Int, Maps.has D (.int .i64 k) = (getW g k).isSome ∧ D.atKey (.int .i64 k) (.lit (.int .i64 0)) = .lit (.int .i64 ((getW g k).getD 0))
theorem sums_nil : Sums (.map []) [] := fun _ => ⟨rfl, rfl⟩
theorem sums_put {D : DW} {g : List Wd} (h : Sums D g) (hm : Go.Maps.IsMap D) (hu : Up g) (k w : Int) : Sums (D.put (.int .i64 k) (.lit (.int .i64 ((getW g k).getD 0 + w)))) (ins k w g) := by
  intro j
  rw [getW_ins k w g hu j]
  by_cases e : j = k
  · subst e
    rw [if_pos rfl, Go.Maps.has_put_same hm (by trivial), Go.Maps.atKey_put_same hm (by trivial)]
    exact ⟨rfl, rfl⟩
  · rw [if_neg e, Go.Maps.has_put_other (by intro hh; injection hh with _ hh; exact e hh), Go.Maps.atKey_put_other (by intro hh; injection hh with _ hh; exact e hh)]
    exact h j
theorem look_sum {w : World} {b n : Nat} {D : DW} {g : List Wd} (h : OM w b n D) (hs : Sums D g) (v : Int) (hv : (Lit.int .i64 v).wf = true) : (Instr.lookup 103 (.map (some b)) (.int .i64 v) false).run Try.prog w = .ok (.int .i64 ((getW g v).getD 0)) w := by
  obtain ⟨y, ps, hrun, hy⟩ := h.lookup keyI Try.underlying103 (zeroI w) (plainElem_int Try.underlying3 (by decide)) (keyOf_int_mk Try.underlying3 hv)
  obtain ⟨c, rfl, hc, _⟩ := plainElem_int_inv Try.underlying3 hy
  have e : D.atKey (.int .i64 v) (.lit (.int .i64 0)) = .lit (.int .i64 c) := congrArg Prod.fst hc
  have e2 : c = (getW g v).getD 0 := by
    have e3 := e.symm.trans (hs v).2
    simpa using e3
  rw [← e2]
  exact hrun
/-- What has been ranged over: out, of the map that reads as g; left is still to come. -/
structure Out (g : List Wd) (left : Lit → Bool) (out : List Wd) : Prop where
  mem : ∀ v ∈ out, getW g v.id = some v.wt ∧ left (.int .i64 v.id) = false
  all : ∀ k c, getW g k = some c → left (.int .i64 k) = true ∨ ∃ v ∈ out, v.id = k
  ap : ∀ i j : Nat, i < j → ∀ a b : Wd, out[i]? = some a → out[j]? = some b → a.id ≠ b.id
  has : ∀ k, left (.int .i64 k) = true → (getW g k).isSome = true
theorem Out.more {g : List Wd} {left : Lit → Bool} {out : List Wd} {x c : Int} (h : Out g left out) (hl : left (.int .i64 x) = true) (hc : getW g x = some c) : Out g (fun z => left z && !z.sameKey (.int .i64 x)) (out ++ [⟨x, c⟩]) := by
  have hn : ∀ v ∈ out, v.id ≠ x := fun v hv e => by have := (h.mem v hv).2; rw [e, hl] at this; cases this
  have hk : ∀ k : Int, (Lit.int .i64 k).sameKey (.int .i64 x) = decide (k = x) := fun k => by simp [Lit.sameKey]
  refine ⟨fun v hv => ?_, fun k d hd => ?_, fun i j hij a b ha hb => ?_, fun k hk2 => ?_⟩
  · rcases List.mem_append.1 hv with hv | hv
    · have := h.mem v hv
      exact ⟨this.1, by rw [this.2]; rfl⟩
    · obtain rfl := List.mem_singleton.1 hv
      exact ⟨hc, by rw [hk]; simp⟩
  · by_cases e : k = x
    · exact .inr ⟨⟨x, c⟩, by simp, e.symm⟩
    · rcases h.all k d hd with h1 | ⟨v, hv, e2⟩
      · exact .inl (by rw [h1, hk]; simp [e])
      · exact .inr ⟨v, List.mem_append_left _ hv, e2⟩
  · have hjl := (List.getElem?_eq_some_iff.1 hb).1
    simp only [List.length_append, List.length_singleton] at hjl
    rcases Nat.lt_or_ge j out.length with hj | hj
    · rw [List.getElem?_append_left hj] at hb
      rw [List.getElem?_append_left (by omega)] at ha
      exact h.ap i j hij a b ha hb
    · have : j = out.length := by omega
      subst this
      rw [List.getElem?_append_left hij] at ha
      have hb' : b = ⟨x, c⟩ := by simpa using hb.symm
      subst hb'
      exact hn a (List.mem_of_getElem? ha)
  · simp only [Bool.and_eq_true] at hk2
    exact h.has k hk2.1
theorem up_of {ys : List Wd} (h : ∀ i j : Nat, i < j → ∀ a b : Wd, ys[i]? = some a → ys[j]? = some b → a.id < b.id) : Up ys := by
  induction ys with
  | nil => trivial
  | cons u r ih =>
    refine ⟨fun v hv => ?_, ih (fun i j hij a b ha hb => h (i + 1) (j + 1) (by omega) a b (by simpa using ha) (by simpa using hb))⟩
    obtain ⟨j, hj, e⟩ := List.mem_iff_getElem.1 hv
    exact h 0 (j + 1) (by omega) u v rfl (by simp [hj, e])
theorem ids_nodup {ys : List Wd} (h : ∀ i j : Nat, i < j → ∀ a b : Wd, ys[i]? = some a → ys[j]? = some b → a.id ≠ b.id) : (ys.map (·.id)).Nodup := by
  induction ys with
  | nil => exact List.nodup_nil
  | cons u r ih =>
    rw [List.map_cons, List.nodup_cons]
    refine ⟨fun hm => ?_, ih (fun i j hij a b ha hb => h (i + 1) (j + 1) (by omega) a b (by simpa using ha) (by simpa using hb))⟩
    obtain ⟨v, hv, e⟩ := List.mem_map.1 hm
    obtain ⟨j, hj, e2⟩ := List.mem_iff_getElem.1 hv
    exact h 0 (j + 1) (by omega) u v rfl (by simp [hj, e2]) e.symm
theorem nodup_ids {ys : List Wd} (h : (ys.map (·.id)).Nodup) : ∀ i j : Nat, i < j → ∀ a b : Wd, ys[i]? = some a → ys[j]? = some b → a.id ≠ b.id := by
  induction ys with
  | nil => intro i j _ a b ha; simp at ha
  | cons u r ih =>
    rw [List.map_cons, List.nodup_cons] at h
    intro i j hij a b ha hb
    obtain ⟨j, rfl⟩ : ∃ q, j = q + 1 := ⟨j - 1, by omega⟩
    have hb' : r[j]? = some b := by simpa using hb
    cases i with
    | zero =>
      obtain rfl : u = a := by simpa using ha
      exact fun e => h.1 (List.mem_map.2 ⟨b, List.mem_of_getElem? hb', e.symm⟩)
    | succ i => exact ih h.2 i j (by omega) a b (by simpa using ha) hb'
/-- Sorted, it is the group. -/
theorem Out.sorted {g : List Wd} {left : Lit → Bool} {out ys : List Wd} (h : Out g left out) (hu : Up g) (hl : ∀ kl, left kl = false) (hp : ys.Perm out) (hs : ∀ i j : Nat, i < j → ∀ a b : Wd, ys[i]? = some a → ys[j]? = some b → a.id ≤ b.id) : ys = g := by
  have hn : (ys.map (·.id)).Nodup := (hp.map (·.id)).nodup_iff.2 (ids_nodup h.ap)
  have hup : Up ys := up_of (fun i j hij a b ha hb => by
    have h1 := hs i j hij a b ha hb
    have h2 := nodup_ids hn i j hij a b ha hb
    omega)
  refine up_unique hup hu (fun v => ?_)
  rw [hp.mem_iff, getW_mem hu]
  constructor
  · exact fun hv => (h.mem v hv).1
  · intro hv
    rcases h.all v.id v.wt hv with h1 | ⟨u, hu2, e⟩
    · rw [hl] at h1; cases h1
    · have := (h.mem u hu2).1
      rw [e, hv] at this
      have e2 : u = v := by cases u; cases v; simp at e this; rw [e, this]
      rw [← e2]; exact hu2
theorem sumK_range {lv : Nat} {k : Int} : ∀ {l : List Od}, (∀ o ∈ l, 0 ≤ wOf o ∧ wOf o ≤ 16777216) → 0 ≤ sumK lv k l ∧ sumK lv k l ≤ l.length * 16777216
  | [], _ => by simp [sumK]
  | o :: r, h => by
    have h1 := h o List.mem_cons_self
    have h2 := sumK_range (lv := lv) (k := k) (l := r) (fun q hq => h q (List.mem_cons_of_mem _ hq))
    simp only [sumK, List.length_cons]
    split <;> omega
theorem getW_range {lv : Nat} {k : Int} {l : List Od} (h : ∀ o ∈ l, 0 ≤ wOf o ∧ wOf o ≤ 16777216) : 0 ≤ (getW (group lv l) k).getD 0 ∧ (getW (group lv l) k).getD 0 ≤ l.length * 16777216 := by
  have hr := sumK_range (lv := lv) (k := k) h
  unfold group
  rw [getW_groupF lv l [] trivial]
  have e0 : getW [] k = none := rfl
  rw [e0]
  split
  · simp only [Option.getD_none, Int.zero_add, Option.getD_some]; exact hr
  · simp only [Option.getD_none]; omega
theorem group_snoc (lv : Nat) (l : List Od) (n : Nat) (o : Od) (ho : l[n]? = some o) : group lv (l.take (n + 1)) = ins (keyN lv o) (wOf o) (group lv (l.take n)) := by
  have hn := (List.getElem?_eq_some_iff.1 ho).1
  rw [List.take_succ_eq_append_getElem hn, (List.getElem?_eq_some_iff.1 ho).2]
  exact groupF_snoc lv [] _ o
theorem infoW : (Try.prog.info? 83).map (fun i => (i.zero, i.size, i.bytes)) = some (some (.agg #[.int .i64 0, .int .i64 0]), kW.sz, 16) := by kernel_rfl
/-- What a list of OSDs is good for. -/
structure GoodL (l : List Od) : Prop where
  len : l.length ≤ 64
  wt : ∀ o ∈ l, 0 ≤ wOf o ∧ wOf o ≤ 16777216
  wf : ∀ o ∈ l, ∀ lv, (Lit.int .i64 (keyN lv o)).wf = true
theorem GoodL.filter {l : List Od} (h : GoodL l) (p : Od → Bool) : GoodL (l.filter p) :=
  ⟨Nat.le_trans (List.length_filter_le _ _) h.len, fun o ho => h.wt o (List.mem_filter.1 ho).1, fun o ho => h.wf o (List.mem_filter.1 ho).1⟩
theorem wf_range {n : Int} (h0 : 0 ≤ n) (h1 : n ≤ 9223372036854775807) : (Lit.int .i64 n).wf = true := by
  simp [Lit.wf, IntKind.min, IntKind.max, IntKind.signed, IntKind.bits]
  omega
set_option maxHeartbeats 4000000 in
set_option maxRecDepth 100000 in
theorem group_calls1 (A : Option Addr) (c : Nat) (l : List Od) (w : World) (hx : kO.C w A l.length l) (hg : GoodL l) :
    Calls Try.prog 48 #[.slice A l.length c, .func (.func 69) #[] #[]] w fun e w' => ∃ v, e = .returned v ∧ kW.R 83 w' w.heap.size (fun _ => True) v (group 1 l) ∧ Below w.heap.size w w' := by
  have HC := Lib.hid hx
  have HG := Lib.hid hg
  have hm : l.length ≤ 9223372036854775807 := hx.2.1
  have HB0 := Lib.hid (below_alloc (Below.refl w.heap.size w) (.map #[] 0))
  have HM0 : Hid (OM (w.alloc (.map #[] 0)) w.heap.size 0 (.map [])) := Lib.hid (World.ownsMap_made w Try.prog _ _)
  have hmm := @run_makeMap Try.prog
  clear hx hg
  go_enter Try.func48, Try.ntmps48
  go_wp2_with fail
  go_loopw [14] (fun i' wr => ∃ (n : Nat) (D : DW), i' = .int .i64 n ∧ Hid (n ≤ l.length) ∧ Hid (Sums D (group 1 (l.take n))) ∧ Hid (OM wr w.heap.size n D) ∧ Hid (Below w.heap.size w wr)) (fun i' _ => (l.length - intOf i').toNat)
  case atStart => exact ⟨0, .map [], rfl, Lib.hid (Nat.zero_le _), Lib.hid sums_nil, HM0, HB0⟩
  case round =>
    obtain ⟨n, D, rfl, HN, HS, HM, HB⟩ := hrel
    clear HM0 HB0
    have hn := HN.out
    by_cases h : n < l.length
    · have hlt : decide (n < l.length) = true := decide_eq_true h
      have i0 : (0 : Int) ≤ n := by omega
      obtain ⟨ad, o, ho, hA, a0, a1, a2, a3, a4, a5, a6, a7⟩ := at_O (Kd.C_below HC.out HB.out) n h
      subst hA
      have hom := List.mem_of_getElem? ho
      have HST := Lib.hid (group_snoc 1 l n o ho)
      have hwf := HG.out.wf o hom 1
      have HWF := Lib.hid hwf
      have hwt := HG.out.wt o hom
      have hrg := getW_range (lv := 1) (k := keyN 1 o) (l := l.take n) (fun q hq => HG.out.wt q (List.mem_of_mem_take hq))
      have hln := HG.out.len
      have hlt2 := List.length_take_le n l
      obtain ⟨s, hs⟩ : ∃ s, s = (getW (group 1 (l.take n)) (keyN 1 o)).getD 0 := ⟨_, rfl⟩
      rw [← hs] at hrg
      have hsum : 0 ≤ s + wOf o ∧ s + wOf o ≤ 9223372036854775807 := by omega
      have HSW := Lib.hid (wf_range hsum.1 hsum.2)
      have kw : IntKind.i64.wrap (s + wOf o) = s + wOf o := IntWalk.i64_in _ (by omega)
      have HBA := Lib.hid (below_alloc (Below.refl wr.heap.size wr) (.cells (aggO o) 40))
      have HB1 := Lib.hid (below_alloc HB.out (.cells (aggO o) 40))
      have HM1 := Lib.hid (om_below HM.out HBA.out)
      have HO1 : Hid ((wr.alloc (.cells (aggO o) 40)).heap[wr.heap.size]? = some (.cells (aggO o) 40 (0, 0))) := Lib.hid (blk_new _ _)
      obtain ⟨w1, hw1⟩ : ∃ w1, w1 = wr.alloc (.cells (aggO o) 40) := ⟨_, rfl⟩
      have HS2 : Hid (Sums (D.put (.int .i64 (keyN 1 o)) (.lit (.int .i64 (s + wOf o)))) (group 1 (l.take (n + 1)))) := Lib.hid (by rw [HST.out, hs]; exact sums_put HS.out HM.out.isMap (group_up 1 _ [] trivial) _ _)
      clear ho hom hwt hrg hsum hln hlt2
      go_wp2_with fail
      rw [← hw1] at HB1 HM1 HO1 ⊢
      obtain ⟨g1, hg1⟩ : ∃ g1, g1 = wr.heap.size := ⟨_, rfl⟩
      rw [← hg1] at HO1 ⊢
      clear hw1 hg1 a0 a1 a2 a3 a4 a5 a6 a7 HBA HM HB
      obtain ⟨y0, y1, y2, y3, y4, y5, y6, y7⟩ := blkO HO1.out
      have z0 := cell_regrown y0
      have z1 := cell_regrown y1
      have z2 := cell_regrown y2
      have z3 := cell_regrown y3
      have z4 := cell_regrown y4
      have z5 := cell_regrown y5
      have z6 := cell_regrown y6
      have z7 := cell_regrown y7
      have T1 : Hid (∀ dd os, Calls Try.prog 69 #[.agg (aggO o)] (Sort.grow (redrawn w1 dd) os) fun e w' => e = .returned (.int .i64 (keyN 1 o)) ∧ Below (Sort.grow (redrawn w1 dd) os).heap.size (Sort.grow (redrawn w1 dd) os) w') := Lib.hid (fun dd os => rack_calls o _)
      have T2 : Hid (∀ dd os, Calls Try.prog 80 #[.agg (aggO o)] (Sort.grow (redrawn w1 dd) os) fun e w' => e = .returned (.int .i64 (wOf o)) ∧ Below (Sort.grow (redrawn w1 dd) os).heap.size (Sort.grow (redrawn w1 dd) os) w') := Lib.hid (fun dd os => weight_calls o _)
      have hrun : ∀ dd os, (Instr.lookup 103 (.map (some w.heap.size)) (.int .i64 (keyN 1 o)) false).run Try.prog (Sort.grow (redrawn w1 dd) os) = .ok (.int .i64 s) (Sort.grow (redrawn w1 dd) os) := fun dd os => by rw [hs]; exact look_sum (om_below HM1.out (below_regrown w1 dd os)) HS.out _ hwf
      generalize wOf o = wo at *
      generalize keyN 1 o = ko at *
      clear y0 y1 y2 y3 y4 y5 y6 y7 hwf hs
      refine QT.wp_region_tail 8 (by kernel_rfl) (by kernel_rfl) ?_
      simp only [List.take_succ_cons, List.take_zero, List.drop_succ_cons, List.drop_zero]
      repeat (go_big_quiet_step ((first | (go_at_call 69; with_reducible exact Calls.regrown_of (T1.out _ _)) | (go_at_call 80; with_reducible exact Calls.regrown_of (T2.out _ _)))))
      refine wpQuiet_nil ?_
      intro _ hw'
      obtain ⟨⟨dq, osq⟩, hw''⟩ := hw'
      subst hw''
      have HM2 := Lib.hid (om_below HM1.out (below_regrown w1 dq osq))
      have HB2 := Lib.hid (below_then HB1.out HB1.out.size (below_regrown w1 dq osq))
      obtain ⟨w2, hw2⟩ : ∃ w2, w2 = Sort.grow (redrawn w1 dq) osq := ⟨_, rfl⟩
      rw [← hw2] at HM2 HB2 ⊢
      clear hw2 z0 z1 z2 z3 z4 z5 z6 z7 T1 T2 hrun HM1 HB1 HO1 kw
      go_wp2_with (first | (at_mapUpdate; go_must (refine wpList_mapUpdate_own _ rfl _ _ _ 103 rfl 3 3 keyI Try.underlying103 _ w.heap.size n D rfl (by exact HM2.out) ?hn _ _ (.int .i64 ko) rfl rfl (keyOf_int_mk Try.underlying3 HWF.out) (.lit (.int .i64 (s + wo))) [] (plainElem_int Try.underlying3 HSW.out) ?_; (case hn => have := HG.out.len; simp only [maxLen]; omega)); intro w3 ho hg; have HM3 := Lib.hid ho; have HB3 := Lib.hid (HB2.out.grown hg HB2.out.size (fun k hk => by injection hk with hk; omega)); clear ho hg HM2 HB2))
      go_roundw
      case rel => exact ⟨n + 1, _, by go_num, Lib.hid (by omega), HS2, HM3, HB3⟩
      case measure => simp only [intOf]; omega
    · obtain rfl : n = l.length := by omega
      have hlt : decide (l.length < l.length) = false := decide_eq_false (by omega)
      rw [List.take_length] at HS
      have HUP := Lib.hid (group_up 1 l [] trivial)
      obtain ⟨G, hG⟩ : ∃ G, G = group 1 l := ⟨_, rfl⟩
      have HSL : Hid (Maps.size D ≤ l.length) := Lib.hid HM.out.size_le
      change Hid (Up (group 1 l)) at HUP
      rw [← hG] at HS HUP
      have HGE := Lib.hid hG
      obtain ⟨r, hr⟩ : ∃ r, r = wr.heap.size := ⟨_, rfl⟩
      obtain ⟨wo, hwo⟩ : ∃ wo, wo = wr := ⟨_, rfl⟩
      rw [← hwo] at HM HB hr ⊢
      have HRW : Hid (w.heap.size < r) := Lib.hid (by rw [hr]; exact HM.out.lt)
      clear h hn hG hwo
      go_wp2_with (first | (at_range; refine wpList_range_own _ rfl _ 103 rfl 3 3 keyI Try.underlying103 _ w.heap.size l.length D rfl HM.out ?_; intro w0 hrg0 hg0 hs0))
      go_frame
      rw [← hr] at hrg0 ⊢
      have HRG := Lib.hid hrg0
      have HB4 := Lib.hid (HB.out.grown hg0 HB.out.size (fun k hk => by cases hk))
      clear hrg0 hg0 hs0 HB HM hr
      go_loopw [8] (fun v wr => ∃ (left : Lit → Bool) (cnt : Nat) (out : List Wd), Hid (wr.ranges Try.prog 3 (plainElem Try.prog 3) w.heap.size r l.length D left cnt) ∧ Hid (Out G left out) ∧ Hid (out.length + cnt ≤ l.length) ∧ Hid (kW.R 83 wr w.heap.size (fun k => k ≠ w.heap.size ∧ k ≠ r) v out) ∧ Hid (Below w.heap.size w wr)) (fun _ wr => wr.rangeLeft w.heap.size r)
      case atStart =>
        refine ⟨Maps.has D, Maps.size D, [], HRG, Lib.hid ⟨fun v hv => absurd hv List.not_mem_nil, fun k c hk => .inl ?_, fun i j _ a b ha => by simp at ha, fun k hk => ?_⟩, Lib.hid (by have := HSL.out; simp; omega), Lib.hid (Kd.R_nil _ _ _ _ _), HB4⟩
        · rw [(HS.out k).1, hk]; rfl
        · rw [(HS.out k).1] at hk; exact hk
      case round =>
        obtain ⟨left, cnt, out, HRG', HOU, HCN, HO, HB'⟩ := hrel
        clear HRG HB4
        have HRG := Lib.hid HRG'.out
        have HB := Lib.hid HB'.out
        clear HRG' HB'
        go_wp2_with (first | (at_next; refine wpList_next_ranges_ii _ rfl _ rfl 3 3 .i64 .i64 keyI Try.underlying3 Try.underlying3 w.heap.size r l.length _ _ _ rfl HRG.out ?_ ?_))
        · intro _ hl0
          have HL0 := Lib.hid hl0
          clear hl0
          have hout : out.length ≤ 140737488355328 := by have := HCN.out; have := HG.out.len; omega
          obtain ⟨A8, c8, rfl⟩ := Kd.R_slice HO.out
          have HOT := Lib.hid (Kd.R_mono HO.out (ok' := fun _ => True) (fun _ _ => trivial))
          have HOS := Lib.hid hout
          clear hout
          rcases Nat.eq_zero_or_pos out.length with h0 | h0
          · obtain rfl := List.eq_nil_of_length_eq_zero h0
            have HGN : Hid (group 1 l = []) := Lib.hid (by rw [← HGE.out]; exact (HOU.out.sorted HUP.out HL0.out (List.Perm.refl _) (fun i j _ a b ha => by simp at ha)).symm)
            clear h0
            go_wp2_with fail
            refine (sort0_calls A8 c8 _ _).mono ?_
            rintro e w3 ⟨rfl, rfl⟩
            go_wp2_with fail
            go_ret
            refine ⟨_, rfl, ?_, HB.out⟩
            rw [HGN.out]
            exact HOT.out
          · have T := Lib.hid (sort_calls HOT.out h0 HOS.out)
            have HOB : Hid (∀ k, (Value.slice A8 out.length c8).ownBlock = some k → w.heap.size ≤ k) := Lib.hid (Kd.R_base HO.out)
            clear h0
            go_wp2_with fail
            refine T.out.mono ?_
            rintro e w3 ⟨rfl, ys, hp, hsd, hR, hg⟩
            have HYS : Hid (ys = group 1 l) := Lib.hid (by rw [← HGE.out]; exact HOU.out.sorted HUP.out HL0.out hp hsd)
            have HB3 := Lib.hid (HB.out.grown hg HB.out.size HOB.out)
            have HR3 := Lib.hid hR
            clear hp hsd hR hg T
            go_wp2_with fail
            go_ret
            refine ⟨_, rfl, ?_, HB3.out⟩
            rw [← HYS.out]
            exact HR3.out
        · intro x cc w1 cnt1 hwx hwc hlx hat hrg1 hlt1 hg1 hs1 hen
          have HLX := Lib.hid hlx
          have HGX : Hid (getW G x = some cc) := Lib.hid (by
            have h1 := (HS.out x).2
            rw [hat] at h1
            have h2 : cc = (getW G x).getD 0 := by simpa using h1
            have h3 := HOU.out.has x hlx
            cases h4 : getW G x with
            | none => rw [h4] at h3; cases h3
            | some z => rw [h4] at h2; simp at h2; rw [h2])
          have HRG1 := Lib.hid hrg1
          have HLT1 := Lib.hid hlt1
          have HB1 := Lib.hid (HB.out.grown hg1 HB.out.size (fun k hk => by injection hk with hk; have := HRW.out; omega))
          have HO1 := Lib.hid (Kd.R_grown HO.out hg1 (fun k hk e => by injection e with e; exact hk.2 e))
          clear hwx hwc hlx hat hrg1 hlt1 hg1 hs1 HB HO
          go_wp2_with (first | (at_builtin; go_must (refine Kd.R_append kW (w0 := w) w.heap.size rfl _ _ 80 83 (.agg #[.int .i64 0, .int .i64 0]) 16 rfl Try.underlying80 infoW rfl (by decide) (by decide) _ _ ⟨x, cc⟩ [.int .i64 x, .int .i64 cc] (fun k => k ≠ w.heap.size ∧ k ≠ r) (fun _ => False) rfl rfl (kW_mkM _ _ _ ⟨x, cc⟩) (fun _ hk => hk.elim) ?hf (by exact HO1.out) (by exact HB1.out) (by exact HB1.out.size) ?hl ?_; (case hf => intro k hk; have h1 := HRG1.out.lt; have h2 := HRW.out; omega); (case hl => have := HCN.out; have := HG.out.len; omega)); intro v2 w3 ho hb hg hg2; have HRG3 := Lib.hid (HRG1.out.kept hg (Kd.R_away HO1.out (fun k hk => hk.1)) (Kd.R_away HO1.out (fun k hk => hk.2))); have HO3 := Lib.hid ho; have HB3 := Lib.hid hb; clear ho hb hg hg2 HO1 HB1 HRG1))
          go_roundw
          case rel => exact ⟨_, cnt1, _, HRG3, Lib.hid (HOU.out.more HLX.out HGX.out), Lib.hid (by have := HCN.out; have := HLT1.out; rw [List.length_append, List.length_singleton]; omega), HO3, HB3⟩
          case measure => rw [HRG3.out.left_eq, HRG.out.left_eq]; exact HLT1.out
set_option maxHeartbeats 4000000 in
set_option maxRecDepth 100000 in
theorem group_calls2 (A : Option Addr) (c : Nat) (l : List Od) (w : World) (hx : kO.C w A l.length l) (hg : GoodL l) :
    Calls Try.prog 48 #[.slice A l.length c, .func (.func 68) #[] #[]] w fun e w' => ∃ v, e = .returned v ∧ kW.R 83 w' w.heap.size (fun _ => True) v (group 2 l) ∧ Below w.heap.size w w' := by
  have HC := Lib.hid hx
  have HG := Lib.hid hg
  have hm : l.length ≤ 9223372036854775807 := hx.2.1
  have HB0 := Lib.hid (below_alloc (Below.refl w.heap.size w) (.map #[] 0))
  have HM0 : Hid (OM (w.alloc (.map #[] 0)) w.heap.size 0 (.map [])) := Lib.hid (World.ownsMap_made w Try.prog _ _)
  have hmm := @run_makeMap Try.prog
  clear hx hg
  go_enter Try.func48, Try.ntmps48
  go_wp2_with fail
  go_loopw [14] (fun i' wr => ∃ (n : Nat) (D : DW), i' = .int .i64 n ∧ Hid (n ≤ l.length) ∧ Hid (Sums D (group 2 (l.take n))) ∧ Hid (OM wr w.heap.size n D) ∧ Hid (Below w.heap.size w wr)) (fun i' _ => (l.length - intOf i').toNat)
  case atStart => exact ⟨0, .map [], rfl, Lib.hid (Nat.zero_le _), Lib.hid sums_nil, HM0, HB0⟩
  case round =>
    obtain ⟨n, D, rfl, HN, HS, HM, HB⟩ := hrel
    clear HM0 HB0
    have hn := HN.out
    by_cases h : n < l.length
    · have hlt : decide (n < l.length) = true := decide_eq_true h
      have i0 : (0 : Int) ≤ n := by omega
      obtain ⟨ad, o, ho, hA, a0, a1, a2, a3, a4, a5, a6, a7⟩ := at_O (Kd.C_below HC.out HB.out) n h
      subst hA
      have hom := List.mem_of_getElem? ho
      have HST := Lib.hid (group_snoc 2 l n o ho)
      have hwf := HG.out.wf o hom 2
      have HWF := Lib.hid hwf
      have hwt := HG.out.wt o hom
      have hrg := getW_range (lv := 2) (k := keyN 2 o) (l := l.take n) (fun q hq => HG.out.wt q (List.mem_of_mem_take hq))
      have hln := HG.out.len
      have hlt2 := List.length_take_le n l
      obtain ⟨s, hs⟩ : ∃ s, s = (getW (group 2 (l.take n)) (keyN 2 o)).getD 0 := ⟨_, rfl⟩
      rw [← hs] at hrg
      have hsum : 0 ≤ s + wOf o ∧ s + wOf o ≤ 9223372036854775807 := by omega
      have HSW := Lib.hid (wf_range hsum.1 hsum.2)
      have kw : IntKind.i64.wrap (s + wOf o) = s + wOf o := IntWalk.i64_in _ (by omega)
      have HBA := Lib.hid (below_alloc (Below.refl wr.heap.size wr) (.cells (aggO o) 40))
      have HB1 := Lib.hid (below_alloc HB.out (.cells (aggO o) 40))
      have HM1 := Lib.hid (om_below HM.out HBA.out)
      have HO1 : Hid ((wr.alloc (.cells (aggO o) 40)).heap[wr.heap.size]? = some (.cells (aggO o) 40 (0, 0))) := Lib.hid (blk_new _ _)
      obtain ⟨w1, hw1⟩ : ∃ w1, w1 = wr.alloc (.cells (aggO o) 40) := ⟨_, rfl⟩
      have HS2 : Hid (Sums (D.put (.int .i64 (keyN 2 o)) (.lit (.int .i64 (s + wOf o)))) (group 2 (l.take (n + 1)))) := Lib.hid (by rw [HST.out, hs]; exact sums_put HS.out HM.out.isMap (group_up 2 _ [] trivial) _ _)
      clear ho hom hwt hrg hsum hln hlt2
      go_wp2_with fail
      rw [← hw1] at HB1 HM1 HO1 ⊢
      obtain ⟨g1, hg1⟩ : ∃ g1, g1 = wr.heap.size := ⟨_, rfl⟩
      rw [← hg1] at HO1 ⊢
      clear hw1 hg1 a0 a1 a2 a3 a4 a5 a6 a7 HBA HM HB
      obtain ⟨y0, y1, y2, y3, y4, y5, y6, y7⟩ := blkO HO1.out
      have z0 := cell_regrown y0
      have z1 := cell_regrown y1
      have z2 := cell_regrown y2
      have z3 := cell_regrown y3
      have z4 := cell_regrown y4
      have z5 := cell_regrown y5
      have z6 := cell_regrown y6
      have z7 := cell_regrown y7
      have T1 : Hid (∀ dd os, Calls Try.prog 68 #[.agg (aggO o)] (Sort.grow (redrawn w1 dd) os) fun e w' => e = .returned (.int .i64 (keyN 2 o)) ∧ Below (Sort.grow (redrawn w1 dd) os).heap.size (Sort.grow (redrawn w1 dd) os) w') := Lib.hid (fun dd os => host_calls o _)
      have T2 : Hid (∀ dd os, Calls Try.prog 80 #[.agg (aggO o)] (Sort.grow (redrawn w1 dd) os) fun e w' => e = .returned (.int .i64 (wOf o)) ∧ Below (Sort.grow (redrawn w1 dd) os).heap.size (Sort.grow (redrawn w1 dd) os) w') := Lib.hid (fun dd os => weight_calls o _)
      have hrun : ∀ dd os, (Instr.lookup 103 (.map (some w.heap.size)) (.int .i64 (keyN 2 o)) false).run Try.prog (Sort.grow (redrawn w1 dd) os) = .ok (.int .i64 s) (Sort.grow (redrawn w1 dd) os) := fun dd os => by rw [hs]; exact look_sum (om_below HM1.out (below_regrown w1 dd os)) HS.out _ hwf
      generalize wOf o = wo at *
      generalize keyN 2 o = ko at *
      clear y0 y1 y2 y3 y4 y5 y6 y7 hwf hs
      refine QT.wp_region_tail 8 (by kernel_rfl) (by kernel_rfl) ?_
      simp only [List.take_succ_cons, List.take_zero, List.drop_succ_cons, List.drop_zero]
      repeat (go_big_quiet_step ((first | (go_at_call 68; with_reducible exact Calls.regrown_of (T1.out _ _)) | (go_at_call 80; with_reducible exact Calls.regrown_of (T2.out _ _)))))
      refine wpQuiet_nil ?_
      intro _ hw'
      obtain ⟨⟨dq, osq⟩, hw''⟩ := hw'
      subst hw''
      have HM2 := Lib.hid (om_below HM1.out (below_regrown w1 dq osq))
      have HB2 := Lib.hid (below_then HB1.out HB1.out.size (below_regrown w1 dq osq))
      obtain ⟨w2, hw2⟩ : ∃ w2, w2 = Sort.grow (redrawn w1 dq) osq := ⟨_, rfl⟩
      rw [← hw2] at HM2 HB2 ⊢
      clear hw2 z0 z1 z2 z3 z4 z5 z6 z7 T1 T2 hrun HM1 HB1 HO1 kw
      go_wp2_with (first | (at_mapUpdate; go_must (refine wpList_mapUpdate_own _ rfl _ _ _ 103 rfl 3 3 keyI Try.underlying103 _ w.heap.size n D rfl (by exact HM2.out) ?hn _ _ (.int .i64 ko) rfl rfl (keyOf_int_mk Try.underlying3 HWF.out) (.lit (.int .i64 (s + wo))) [] (plainElem_int Try.underlying3 HSW.out) ?_; (case hn => have := HG.out.len; simp only [maxLen]; omega)); intro w3 ho hg; have HM3 := Lib.hid ho; have HB3 := Lib.hid (HB2.out.grown hg HB2.out.size (fun k hk => by injection hk with hk; omega)); clear ho hg HM2 HB2))
      go_roundw
      case rel => exact ⟨n + 1, _, by go_num, Lib.hid (by omega), HS2, HM3, HB3⟩
      case measure => simp only [intOf]; omega
    · obtain rfl : n = l.length := by omega
      have hlt : decide (l.length < l.length) = false := decide_eq_false (by omega)
      rw [List.take_length] at HS
      have HUP := Lib.hid (group_up 2 l [] trivial)
      obtain ⟨G, hG⟩ : ∃ G, G = group 2 l := ⟨_, rfl⟩
      have HSL : Hid (Maps.size D ≤ l.length) := Lib.hid HM.out.size_le
      change Hid (Up (group 2 l)) at HUP
      rw [← hG] at HS HUP
      have HGE := Lib.hid hG
      obtain ⟨r, hr⟩ : ∃ r, r = wr.heap.size := ⟨_, rfl⟩
      obtain ⟨wo, hwo⟩ : ∃ wo, wo = wr := ⟨_, rfl⟩
      rw [← hwo] at HM HB hr ⊢
      have HRW : Hid (w.heap.size < r) := Lib.hid (by rw [hr]; exact HM.out.lt)
      clear h hn hG hwo
      go_wp2_with (first | (at_range; refine wpList_range_own _ rfl _ 103 rfl 3 3 keyI Try.underlying103 _ w.heap.size l.length D rfl HM.out ?_; intro w0 hrg0 hg0 hs0))
      go_frame
      rw [← hr] at hrg0 ⊢
      have HRG := Lib.hid hrg0
      have HB4 := Lib.hid (HB.out.grown hg0 HB.out.size (fun k hk => by cases hk))
      clear hrg0 hg0 hs0 HB HM hr
      go_loopw [8] (fun v wr => ∃ (left : Lit → Bool) (cnt : Nat) (out : List Wd), Hid (wr.ranges Try.prog 3 (plainElem Try.prog 3) w.heap.size r l.length D left cnt) ∧ Hid (Out G left out) ∧ Hid (out.length + cnt ≤ l.length) ∧ Hid (kW.R 83 wr w.heap.size (fun k => k ≠ w.heap.size ∧ k ≠ r) v out) ∧ Hid (Below w.heap.size w wr)) (fun _ wr => wr.rangeLeft w.heap.size r)
      case atStart =>
        refine ⟨Maps.has D, Maps.size D, [], HRG, Lib.hid ⟨fun v hv => absurd hv List.not_mem_nil, fun k c hk => .inl ?_, fun i j _ a b ha => by simp at ha, fun k hk => ?_⟩, Lib.hid (by have := HSL.out; simp; omega), Lib.hid (Kd.R_nil _ _ _ _ _), HB4⟩
        · rw [(HS.out k).1, hk]; rfl
        · rw [(HS.out k).1] at hk; exact hk
      case round =>
        obtain ⟨left, cnt, out, HRG', HOU, HCN, HO, HB'⟩ := hrel
        clear HRG HB4
        have HRG := Lib.hid HRG'.out
        have HB := Lib.hid HB'.out
        clear HRG' HB'
        go_wp2_with (first | (at_next; refine wpList_next_ranges_ii _ rfl _ rfl 3 3 .i64 .i64 keyI Try.underlying3 Try.underlying3 w.heap.size r l.length _ _ _ rfl HRG.out ?_ ?_))
        · intro _ hl0
          have HL0 := Lib.hid hl0
          clear hl0
          have hout : out.length ≤ 140737488355328 := by have := HCN.out; have := HG.out.len; omega
          obtain ⟨A8, c8, rfl⟩ := Kd.R_slice HO.out
          have HOT := Lib.hid (Kd.R_mono HO.out (ok' := fun _ => True) (fun _ _ => trivial))
          have HOS := Lib.hid hout
          clear hout
          rcases Nat.eq_zero_or_pos out.length with h0 | h0
          · obtain rfl := List.eq_nil_of_length_eq_zero h0
            have HGN : Hid (group 2 l = []) := Lib.hid (by rw [← HGE.out]; exact (HOU.out.sorted HUP.out HL0.out (List.Perm.refl _) (fun i j _ a b ha => by simp at ha)).symm)
            clear h0
            go_wp2_with fail
            refine (sort0_calls A8 c8 _ _).mono ?_
            rintro e w3 ⟨rfl, rfl⟩
            go_wp2_with fail
            go_ret
            refine ⟨_, rfl, ?_, HB.out⟩
            rw [HGN.out]
            exact HOT.out
          · have T := Lib.hid (sort_calls HOT.out h0 HOS.out)
            have HOB : Hid (∀ k, (Value.slice A8 out.length c8).ownBlock = some k → w.heap.size ≤ k) := Lib.hid (Kd.R_base HO.out)
            clear h0
            go_wp2_with fail
            refine T.out.mono ?_
            rintro e w3 ⟨rfl, ys, hp, hsd, hR, hg⟩
            have HYS : Hid (ys = group 2 l) := Lib.hid (by rw [← HGE.out]; exact HOU.out.sorted HUP.out HL0.out hp hsd)
            have HB3 := Lib.hid (HB.out.grown hg HB.out.size HOB.out)
            have HR3 := Lib.hid hR
            clear hp hsd hR hg T
            go_wp2_with fail
            go_ret
            refine ⟨_, rfl, ?_, HB3.out⟩
            rw [← HYS.out]
            exact HR3.out
        · intro x cc w1 cnt1 hwx hwc hlx hat hrg1 hlt1 hg1 hs1 hen
          have HLX := Lib.hid hlx
          have HGX : Hid (getW G x = some cc) := Lib.hid (by
            have h1 := (HS.out x).2
            rw [hat] at h1
            have h2 : cc = (getW G x).getD 0 := by simpa using h1
            have h3 := HOU.out.has x hlx
            cases h4 : getW G x with
            | none => rw [h4] at h3; cases h3
            | some z => rw [h4] at h2; simp at h2; rw [h2])
          have HRG1 := Lib.hid hrg1
          have HLT1 := Lib.hid hlt1
          have HB1 := Lib.hid (HB.out.grown hg1 HB.out.size (fun k hk => by injection hk with hk; have := HRW.out; omega))
          have HO1 := Lib.hid (Kd.R_grown HO.out hg1 (fun k hk e => by injection e with e; exact hk.2 e))
          clear hwx hwc hlx hat hrg1 hlt1 hg1 hs1 HB HO
          go_wp2_with (first | (at_builtin; go_must (refine Kd.R_append kW (w0 := w) w.heap.size rfl _ _ 80 83 (.agg #[.int .i64 0, .int .i64 0]) 16 rfl Try.underlying80 infoW rfl (by decide) (by decide) _ _ ⟨x, cc⟩ [.int .i64 x, .int .i64 cc] (fun k => k ≠ w.heap.size ∧ k ≠ r) (fun _ => False) rfl rfl (kW_mkM _ _ _ ⟨x, cc⟩) (fun _ hk => hk.elim) ?hf (by exact HO1.out) (by exact HB1.out) (by exact HB1.out.size) ?hl ?_; (case hf => intro k hk; have h1 := HRG1.out.lt; have h2 := HRW.out; omega); (case hl => have := HCN.out; have := HG.out.len; omega)); intro v2 w3 ho hb hg hg2; have HRG3 := Lib.hid (HRG1.out.kept hg (Kd.R_away HO1.out (fun k hk => hk.1)) (Kd.R_away HO1.out (fun k hk => hk.2))); have HO3 := Lib.hid ho; have HB3 := Lib.hid hb; clear ho hb hg hg2 HO1 HB1 HRG1))
          go_roundw
          case rel => exact ⟨_, cnt1, _, HRG3, Lib.hid (HOU.out.more HLX.out HGX.out), Lib.hid (by have := HCN.out; have := HLT1.out; rw [List.length_append, List.length_singleton]; omega), HO3, HB3⟩
          case measure => rw [HRG3.out.left_eq, HRG.out.left_eq]; exact HLT1.out
set_option maxHeartbeats 4000000 in
set_option maxRecDepth 100000 in
theorem group_calls3 (A : Option Addr) (c : Nat) (l : List Od) (w : World) (hx : kO.C w A l.length l) (hg : GoodL l) :
    Calls Try.prog 48 #[.slice A l.length c, .func (.func 67) #[] #[]] w fun e w' => ∃ v, e = .returned v ∧ kW.R 83 w' w.heap.size (fun _ => True) v (group 3 l) ∧ Below w.heap.size w w' := by
  have HC := Lib.hid hx
  have HG := Lib.hid hg
  have hm : l.length ≤ 9223372036854775807 := hx.2.1
  have HB0 := Lib.hid (below_alloc (Below.refl w.heap.size w) (.map #[] 0))
  have HM0 : Hid (OM (w.alloc (.map #[] 0)) w.heap.size 0 (.map [])) := Lib.hid (World.ownsMap_made w Try.prog _ _)
  have hmm := @run_makeMap Try.prog
  clear hx hg
  go_enter Try.func48, Try.ntmps48
  go_wp2_with fail
  go_loopw [14] (fun i' wr => ∃ (n : Nat) (D : DW), i' = .int .i64 n ∧ Hid (n ≤ l.length) ∧ Hid (Sums D (group 3 (l.take n))) ∧ Hid (OM wr w.heap.size n D) ∧ Hid (Below w.heap.size w wr)) (fun i' _ => (l.length - intOf i').toNat)
  case atStart => exact ⟨0, .map [], rfl, Lib.hid (Nat.zero_le _), Lib.hid sums_nil, HM0, HB0⟩
  case round =>
    obtain ⟨n, D, rfl, HN, HS, HM, HB⟩ := hrel
    clear HM0 HB0
    have hn := HN.out
    by_cases h : n < l.length
    · have hlt : decide (n < l.length) = true := decide_eq_true h
      have i0 : (0 : Int) ≤ n := by omega
      obtain ⟨ad, o, ho, hA, a0, a1, a2, a3, a4, a5, a6, a7⟩ := at_O (Kd.C_below HC.out HB.out) n h
      subst hA
      have hom := List.mem_of_getElem? ho
      have HST := Lib.hid (group_snoc 3 l n o ho)
      have hwf := HG.out.wf o hom 3
      have HWF := Lib.hid hwf
      have hwt := HG.out.wt o hom
      have hrg := getW_range (lv := 3) (k := keyN 3 o) (l := l.take n) (fun q hq => HG.out.wt q (List.mem_of_mem_take hq))
      have hln := HG.out.len
      have hlt2 := List.length_take_le n l
      obtain ⟨s, hs⟩ : ∃ s, s = (getW (group 3 (l.take n)) (keyN 3 o)).getD 0 := ⟨_, rfl⟩
      rw [← hs] at hrg
      have hsum : 0 ≤ s + wOf o ∧ s + wOf o ≤ 9223372036854775807 := by omega
      have HSW := Lib.hid (wf_range hsum.1 hsum.2)
      have kw : IntKind.i64.wrap (s + wOf o) = s + wOf o := IntWalk.i64_in _ (by omega)
      have HBA := Lib.hid (below_alloc (Below.refl wr.heap.size wr) (.cells (aggO o) 40))
      have HB1 := Lib.hid (below_alloc HB.out (.cells (aggO o) 40))
      have HM1 := Lib.hid (om_below HM.out HBA.out)
      have HO1 : Hid ((wr.alloc (.cells (aggO o) 40)).heap[wr.heap.size]? = some (.cells (aggO o) 40 (0, 0))) := Lib.hid (blk_new _ _)
      obtain ⟨w1, hw1⟩ : ∃ w1, w1 = wr.alloc (.cells (aggO o) 40) := ⟨_, rfl⟩
      have HS2 : Hid (Sums (D.put (.int .i64 (keyN 3 o)) (.lit (.int .i64 (s + wOf o)))) (group 3 (l.take (n + 1)))) := Lib.hid (by rw [HST.out, hs]; exact sums_put HS.out HM.out.isMap (group_up 3 _ [] trivial) _ _)
      clear ho hom hwt hrg hsum hln hlt2
      go_wp2_with fail
      rw [← hw1] at HB1 HM1 HO1 ⊢
      obtain ⟨g1, hg1⟩ : ∃ g1, g1 = wr.heap.size := ⟨_, rfl⟩
      rw [← hg1] at HO1 ⊢
      clear hw1 hg1 a0 a1 a2 a3 a4 a5 a6 a7 HBA HM HB
      obtain ⟨y0, y1, y2, y3, y4, y5, y6, y7⟩ := blkO HO1.out
      have z0 := cell_regrown y0
      have z1 := cell_regrown y1
      have z2 := cell_regrown y2
      have z3 := cell_regrown y3
      have z4 := cell_regrown y4
      have z5 := cell_regrown y5
      have z6 := cell_regrown y6
      have z7 := cell_regrown y7
      have T1 : Hid (∀ dd os, Calls Try.prog 67 #[.agg (aggO o)] (Sort.grow (redrawn w1 dd) os) fun e w' => e = .returned (.int .i64 (keyN 3 o)) ∧ Below (Sort.grow (redrawn w1 dd) os).heap.size (Sort.grow (redrawn w1 dd) os) w') := Lib.hid (fun dd os => self_calls o _)
      have T2 : Hid (∀ dd os, Calls Try.prog 80 #[.agg (aggO o)] (Sort.grow (redrawn w1 dd) os) fun e w' => e = .returned (.int .i64 (wOf o)) ∧ Below (Sort.grow (redrawn w1 dd) os).heap.size (Sort.grow (redrawn w1 dd) os) w') := Lib.hid (fun dd os => weight_calls o _)
      have hrun : ∀ dd os, (Instr.lookup 103 (.map (some w.heap.size)) (.int .i64 (keyN 3 o)) false).run Try.prog (Sort.grow (redrawn w1 dd) os) = .ok (.int .i64 s) (Sort.grow (redrawn w1 dd) os) := fun dd os => by rw [hs]; exact look_sum (om_below HM1.out (below_regrown w1 dd os)) HS.out _ hwf
      generalize wOf o = wo at *
      generalize keyN 3 o = ko at *
      clear y0 y1 y2 y3 y4 y5 y6 y7 hwf hs
      refine QT.wp_region_tail 8 (by kernel_rfl) (by kernel_rfl) ?_
      simp only [List.take_succ_cons, List.take_zero, List.drop_succ_cons, List.drop_zero]
      repeat (go_big_quiet_step ((first | (go_at_call 67; with_reducible exact Calls.regrown_of (T1.out _ _)) | (go_at_call 80; with_reducible exact Calls.regrown_of (T2.out _ _)))))
      refine wpQuiet_nil ?_
      intro _ hw'
      obtain ⟨⟨dq, osq⟩, hw''⟩ := hw'
      subst hw''
      have HM2 := Lib.hid (om_below HM1.out (below_regrown w1 dq osq))
      have HB2 := Lib.hid (below_then HB1.out HB1.out.size (below_regrown w1 dq osq))
      obtain ⟨w2, hw2⟩ : ∃ w2, w2 = Sort.grow (redrawn w1 dq) osq := ⟨_, rfl⟩
      rw [← hw2] at HM2 HB2 ⊢
      clear hw2 z0 z1 z2 z3 z4 z5 z6 z7 T1 T2 hrun HM1 HB1 HO1 kw
      go_wp2_with (first | (at_mapUpdate; go_must (refine wpList_mapUpdate_own _ rfl _ _ _ 103 rfl 3 3 keyI Try.underlying103 _ w.heap.size n D rfl (by exact HM2.out) ?hn _ _ (.int .i64 ko) rfl rfl (keyOf_int_mk Try.underlying3 HWF.out) (.lit (.int .i64 (s + wo))) [] (plainElem_int Try.underlying3 HSW.out) ?_; (case hn => have := HG.out.len; simp only [maxLen]; omega)); intro w3 ho hg; have HM3 := Lib.hid ho; have HB3 := Lib.hid (HB2.out.grown hg HB2.out.size (fun k hk => by injection hk with hk; omega)); clear ho hg HM2 HB2))
      go_roundw
      case rel => exact ⟨n + 1, _, by go_num, Lib.hid (by omega), HS2, HM3, HB3⟩
      case measure => simp only [intOf]; omega
    · obtain rfl : n = l.length := by omega
      have hlt : decide (l.length < l.length) = false := decide_eq_false (by omega)
      rw [List.take_length] at HS
      have HUP := Lib.hid (group_up 3 l [] trivial)
      obtain ⟨G, hG⟩ : ∃ G, G = group 3 l := ⟨_, rfl⟩
      have HSL : Hid (Maps.size D ≤ l.length) := Lib.hid HM.out.size_le
      change Hid (Up (group 3 l)) at HUP
      rw [← hG] at HS HUP
      have HGE := Lib.hid hG
      obtain ⟨r, hr⟩ : ∃ r, r = wr.heap.size := ⟨_, rfl⟩
      obtain ⟨wo, hwo⟩ : ∃ wo, wo = wr := ⟨_, rfl⟩
      rw [← hwo] at HM HB hr ⊢
      have HRW : Hid (w.heap.size < r) := Lib.hid (by rw [hr]; exact HM.out.lt)
      clear h hn hG hwo
      go_wp2_with (first | (at_range; refine wpList_range_own _ rfl _ 103 rfl 3 3 keyI Try.underlying103 _ w.heap.size l.length D rfl HM.out ?_; intro w0 hrg0 hg0 hs0))
      go_frame
      rw [← hr] at hrg0 ⊢
      have HRG := Lib.hid hrg0
      have HB4 := Lib.hid (HB.out.grown hg0 HB.out.size (fun k hk => by cases hk))
      clear hrg0 hg0 hs0 HB HM hr
      go_loopw [8] (fun v wr => ∃ (left : Lit → Bool) (cnt : Nat) (out : List Wd), Hid (wr.ranges Try.prog 3 (plainElem Try.prog 3) w.heap.size r l.length D left cnt) ∧ Hid (Out G left out) ∧ Hid (out.length + cnt ≤ l.length) ∧ Hid (kW.R 83 wr w.heap.size (fun k => k ≠ w.heap.size ∧ k ≠ r) v out) ∧ Hid (Below w.heap.size w wr)) (fun _ wr => wr.rangeLeft w.heap.size r)
      case atStart =>
        refine ⟨Maps.has D, Maps.size D, [], HRG, Lib.hid ⟨fun v hv => absurd hv List.not_mem_nil, fun k c hk => .inl ?_, fun i j _ a b ha => by simp at ha, fun k hk => ?_⟩, Lib.hid (by have := HSL.out; simp; omega), Lib.hid (Kd.R_nil _ _ _ _ _), HB4⟩
        · rw [(HS.out k).1, hk]; rfl
        · rw [(HS.out k).1] at hk; exact hk
      case round =>
        obtain ⟨left, cnt, out, HRG', HOU, HCN, HO, HB'⟩ := hrel
        clear HRG HB4
        have HRG := Lib.hid HRG'.out
        have HB := Lib.hid HB'.out
        clear HRG' HB'
        go_wp2_with (first | (at_next; refine wpList_next_ranges_ii _ rfl _ rfl 3 3 .i64 .i64 keyI Try.underlying3 Try.underlying3 w.heap.size r l.length _ _ _ rfl HRG.out ?_ ?_))
        · intro _ hl0
          have HL0 := Lib.hid hl0
          clear hl0
          have hout : out.length ≤ 140737488355328 := by have := HCN.out; have := HG.out.len; omega
          obtain ⟨A8, c8, rfl⟩ := Kd.R_slice HO.out
          have HOT := Lib.hid (Kd.R_mono HO.out (ok' := fun _ => True) (fun _ _ => trivial))
          have HOS := Lib.hid hout
          clear hout
          rcases Nat.eq_zero_or_pos out.length with h0 | h0
          · obtain rfl := List.eq_nil_of_length_eq_zero h0
            have HGN : Hid (group 3 l = []) := Lib.hid (by rw [← HGE.out]; exact (HOU.out.sorted HUP.out HL0.out (List.Perm.refl _) (fun i j _ a b ha => by simp at ha)).symm)
            clear h0
            go_wp2_with fail
            refine (sort0_calls A8 c8 _ _).mono ?_
            rintro e w3 ⟨rfl, rfl⟩
            go_wp2_with fail
            go_ret
            refine ⟨_, rfl, ?_, HB.out⟩
            rw [HGN.out]
            exact HOT.out
          · have T := Lib.hid (sort_calls HOT.out h0 HOS.out)
            have HOB : Hid (∀ k, (Value.slice A8 out.length c8).ownBlock = some k → w.heap.size ≤ k) := Lib.hid (Kd.R_base HO.out)
            clear h0
            go_wp2_with fail
            refine T.out.mono ?_
            rintro e w3 ⟨rfl, ys, hp, hsd, hR, hg⟩
            have HYS : Hid (ys = group 3 l) := Lib.hid (by rw [← HGE.out]; exact HOU.out.sorted HUP.out HL0.out hp hsd)
            have HB3 := Lib.hid (HB.out.grown hg HB.out.size HOB.out)
            have HR3 := Lib.hid hR
            clear hp hsd hR hg T
            go_wp2_with fail
            go_ret
            refine ⟨_, rfl, ?_, HB3.out⟩
            rw [← HYS.out]
            exact HR3.out
        · intro x cc w1 cnt1 hwx hwc hlx hat hrg1 hlt1 hg1 hs1 hen
          have HLX := Lib.hid hlx
          have HGX : Hid (getW G x = some cc) := Lib.hid (by
            have h1 := (HS.out x).2
            rw [hat] at h1
            have h2 : cc = (getW G x).getD 0 := by simpa using h1
            have h3 := HOU.out.has x hlx
            cases h4 : getW G x with
            | none => rw [h4] at h3; cases h3
            | some z => rw [h4] at h2; simp at h2; rw [h2])
          have HRG1 := Lib.hid hrg1
          have HLT1 := Lib.hid hlt1
          have HB1 := Lib.hid (HB.out.grown hg1 HB.out.size (fun k hk => by injection hk with hk; have := HRW.out; omega))
          have HO1 := Lib.hid (Kd.R_grown HO.out hg1 (fun k hk e => by injection e with e; exact hk.2 e))
          clear hwx hwc hlx hat hrg1 hlt1 hg1 hs1 HB HO
          go_wp2_with (first | (at_builtin; go_must (refine Kd.R_append kW (w0 := w) w.heap.size rfl _ _ 80 83 (.agg #[.int .i64 0, .int .i64 0]) 16 rfl Try.underlying80 infoW rfl (by decide) (by decide) _ _ ⟨x, cc⟩ [.int .i64 x, .int .i64 cc] (fun k => k ≠ w.heap.size ∧ k ≠ r) (fun _ => False) rfl rfl (kW_mkM _ _ _ ⟨x, cc⟩) (fun _ hk => hk.elim) ?hf (by exact HO1.out) (by exact HB1.out) (by exact HB1.out.size) ?hl ?_; (case hf => intro k hk; have h1 := HRG1.out.lt; have h2 := HRW.out; omega); (case hl => have := HCN.out; have := HG.out.len; omega)); intro v2 w3 ho hb hg hg2; have HRG3 := Lib.hid (HRG1.out.kept hg (Kd.R_away HO1.out (fun k hk => hk.1)) (Kd.R_away HO1.out (fun k hk => hk.2))); have HO3 := Lib.hid ho; have HB3 := Lib.hid hb; clear ho hb hg hg2 HO1 HB1 HRG1))
          go_roundw
          case rel => exact ⟨_, cnt1, _, HRG3, Lib.hid (HOU.out.more HLX.out HGX.out), Lib.hid (by have := HCN.out; have := HLT1.out; rw [List.length_append, List.length_singleton]; omega), HO3, HB3⟩
          case measure => rw [HRG3.out.left_eq, HRG.out.left_eq]; exact HLT1.out
end Go.Proofs.Ytnpphmgibgfjoaa.Grp
/- slices.Clone, IndexFunc, DeleteFunc at OSDs. -/
namespace Go.Proofs.Ytnpphmgibgfjoaa.Sl
open Go Go.RowKit Go.Proofs.YtnpphmgibgfjoaaW.PrintWords Go.Proofs.YtnpphmgibgfjoaaW.PrintMore Mem PAll KW MixP MixW StrP AtA Srt Grp
open CrP hiding Od
theorem infoO : (Try.prog.info? 40).map (fun i => (i.zero, i.size, i.bytes)) = some (some (.agg #[.int .i64 0, .bool false, .bool false, .int .i64 0, .int .i64 0, .int .i64 0, .int .i64 0, .int .i64 0]), kO.sz, 56) := by kernel_rfl
theorem zeroO (w : World) : (zeroValue 40).run Try.prog w = .ok (.agg #[.int .i64 0, .bool false, .bool false, .int .i64 0, .int .i64 0, .int .i64 0, .int .i64 0, .int .i64 0]) w := by kernel_rfl
theorem kO_any {w w1 : World} {base base1 : Nat} {ok ok1 : Nat → Prop} {x : Od} {cs : List Value} (h : kO.M w base ok x cs) : kO.M w1 base1 ok1 x cs := by
  rw [k40_openM h]
  exact k40_mkM _ _ _ x
/-- clear(s) of n > 0 elements. -/
theorem run_clear_k {P : Program} (w : World) (t e ty : TypeId) (z : Value) (ht : P.underlying t = some (.slice e)) (hv : ∀ w, (zeroValue e).run P w = .ok z w) (b o n c : Nat) (hn : 0 < n)
    (h1 : ∀ v ∈ (Builtin.zeroCells z.cells n).toList, v.oneCell' = true) (hc : ∀ j, j < n * z.cells.size → (w.cell? ⟨b, o + j, none⟩).isSome = true) (hf : ∀ j, j < n * z.cells.size → w.frozen? ⟨b, o + j, none⟩ = false) :
    (Builtin.clear_ #[t] ty #[.slice (some ⟨b, o, none⟩) n c]).run P w = .ok (.tuple #[]) (w.setCells b o (Builtin.zeroCells z.cells n).toList) := by
  have hl : (Builtin.zeroCells z.cells n).toList.length = n * z.cells.size := by rw [Array.length_toList, size_zeroCells]
  have hst := run_storeCells_cells (P := P) b o (Builtin.zeroCells z.cells n).toList 0 w (by rw [hl]; simpa using hc) (by rw [hl]; simpa using hf) h1
  simp only [Nat.add_zero] at hst
  obtain ⟨m, rfl⟩ : ∃ m, n = m + 1 := ⟨n - 1, by omega⟩
  simp [Builtin.clear_, run_underlying ht, hv, hst]
theorem zeros_one (n : Nat) : ∀ v ∈ (Builtin.zeroCells (Value.agg #[.int .i64 0, .bool false, .bool false, .int .i64 0, .int .i64 0, .int .i64 0, .int .i64 0, .int .i64 0]).cells n).toList, v.oneCell' = true := by
  intro v hv
  simp only [Builtin.zeroCells, Array.toList_map, List.mem_map] at hv
  obtain ⟨i, _, rfl⟩ := hv
  have hs : (Value.agg #[.int .i64 0, .bool false, .bool false, .int .i64 0, .int .i64 0, .int .i64 0, .int .i64 0, .int .i64 0]).cells.size = 8 := rfl
  rw [hs]
  have : i % 8 < 8 := Nat.mod_lt _ (by decide)
  match i % 8, this with
  | 0, _ => rfl
  | 1, _ => rfl
  | 2, _ => rfl
  | 3, _ => rfl
  | 4, _ => rfl
  | 5, _ => rfl
  | 6, _ => rfl
  | 7, _ => rfl
/-- Behind clear(v[m:]) v[:m] is what it was. -/
theorem O_clear {W : World} {base g n cap m : Nat} {xs : List Od} (h : kO.R 40 W base (fun _ => True) (.slice (some ⟨g, 0, none⟩) n cap) xs) (hm : m < n) :
    ∃ w1, (∀ (ty c : Nat), (Builtin.clear_ #[24] ty #[.slice (some ⟨g, m * 8, none⟩) (n - m) c]).run Try.prog W = .ok (.tuple #[]) w1) ∧ kO.R 40 w1 base (fun _ => True) (.slice (some ⟨g, 0, none⟩) m cap) (xs.take m) ∧ W.grownBy w1 (some g) := by
  obtain ⟨hn, _, _⟩ := Kd.R_reads' h
  subst hn
  obtain ⟨_, inner, ho, hr⟩ := h
  rcases ho.2 with ⟨h0, _⟩ | ⟨g', cap', cur, hv, hg, hh, hnc, hcap, hsz, ht⟩
  · cases h0
  cases hv
  have e8 : kO.sz = 8 := rfl
  rw [e8] at hsz ht
  have hz : (Value.agg #[.int .i64 0, .bool false, .bool false, .int .i64 0, .int .i64 0, .int .i64 0, .int .i64 0, .int .i64 0]).cells.size = 8 := rfl
  have hlen : (Builtin.zeroCells (Value.agg #[.int .i64 0, .bool false, .bool false, .int .i64 0, .int .i64 0, .int .i64 0, .int .i64 0, .int .i64 0]).cells (xs.length - m)).toList.length = (xs.length - m) * 8 := by rw [Array.length_toList, size_zeroCells, hz]
  have hrun := fun (ty c : Nat) => run_clear_k (P := Try.prog) W 24 40 ty _ Try.underlying24 zeroO g (m * 8) (xs.length - m) c (by omega) (zeros_one _) (fun j hj => by
    rw [hz] at hj
    rw [blk_cell hh, Array.getElem?_eq_getElem (by omega)]; rfl) (fun j _ => blk_frozen hh _)
  obtain ⟨cur', h3, h4, h5⟩ := setCells_row (Builtin.zeroCells (Value.agg #[.int .i64 0, .bool false, .bool false, .int .i64 0, .int .i64 0, .int .i64 0, .int .i64 0, .int .i64 0]).cells (xs.length - m)).toList (m * 8) W cur hh (by rw [hlen]; omega)
  obtain ⟨s1, s2, s3, s4⟩ := setCells_same g (Builtin.zeroCells (Value.agg #[.int .i64 0, .bool false, .bool false, .int .i64 0, .int .i64 0, .int .i64 0, .int .i64 0, .int .i64 0]).cells (xs.length - m)).toList (m * 8) W
  have hin := ho.1
  rw [e8] at hin
  refine ⟨_, hrun, ⟨fun _ _ => trivial, inner.take (m * 8), ⟨by rw [List.length_take, List.length_take, e8]; omega, .inr ⟨g, cap, cur', by rw [List.length_take, Nat.min_eq_left (by omega)], hg, h3, by rw [List.length_take]; omega, hcap, by rw [h4, hsz, e8], ?_⟩⟩, ⟨by rw [List.length_take, List.length_take, e8]; omega, fun j p hj => ?_⟩⟩, ⟨s1, s2, s3, by rw [s4]; exact Nat.le_refl _, fun k _ hk => setCells_far _ _ k (fun he => hk (by rw [he]))⟩⟩
  · have e9 : (xs.take m).length = m := by rw [List.length_take]; omega
    rw [e9, e8, h5, List.append_assoc, List.take_append_of_le_length (by rw [List.length_take, Array.length_toList]; omega), List.take_take, Nat.min_self, ← ht, List.take_take, Nat.min_eq_left (by omega)]
  · have hjm : j < m := by
      have := (List.getElem?_eq_some_iff.1 hj).1
      rw [List.length_take] at this; omega
    rw [List.getElem?_take_of_lt hjm] at hj
    have := hr.2 j p hj
    rw [e8] at this ⊢
    rw [List.drop_take, List.take_take, Nat.min_eq_left (by omega)]
    exact kO_any this
set_option maxRecDepth 100000 in
theorem clone_calls (A : Option Addr) (c : Nat) (l : List Od) (w : World) (hx : kO.C w A l.length l) (hl : l.length ≤ 64) :
    Calls Try.prog 76 #[.slice A l.length c] w fun e w' => ∃ v, e = .returned v ∧ kO.R 40 w' w.heap.size (fun _ => True) v l ∧ Below w.heap.size w w' := by
  have HC := Lib.hid hx
  have HL := Lib.hid hl
  have HB0 := Lib.hid (Below.refl w.heap.size w)
  cases A with
  | none =>
    have h0 : l = [] := by
      rcases Nat.eq_zero_or_pos l.length with h | h
      · exact List.eq_nil_of_length_eq_zero h
      · obtain ⟨ad, e, _⟩ := hx.2.2 h; cases e
    subst h0
    clear hx hl HC
    have hq := fun w => Lib.run_eql_slice_nil (P := Try.prog) w 24 40 none 0 c 0 0 Try.underlying24
    go_enter Try.func76, Try.ntmps76
    go_wp2_with fail
    go_ret
    exact ⟨_, rfl, Kd.R_nil _ _ _ _ _, HB0.out⟩
  | some ad =>
    clear hx hl
    have hq := fun w => Lib.run_eql_slice_nil (P := Try.prog) w 24 40 (some ad) l.length c 0 0 Try.underlying24
    have HB1 := Lib.hid (below_alloc HB0.out (.cells #[] 40))
    have HO1 : Hid (kO.R 40 (w.alloc (.cells #[] 40)) w.heap.size (fun _ => True) (.slice (some ⟨w.heap.size, 0, none⟩) 0 0) []) := Lib.hid ⟨fun _ _ => trivial, OwnRow.lit w w.heap.size (ps := []) (inner := []) (Reps.none _ _) (Nat.le_refl _) (Nat.zero_le _)⟩
    go_enter Try.func76, Try.ntmps76
    go_wp2_with (first | (at_builtin; go_must (refine Kd.R_append_rows kO (w0 := w) w.heap.size rfl _ _ 24 40 (.agg #[.int .i64 0, .bool false, .bool false, .int .i64 0, .int .i64 0, .int .i64 0, .int .i64 0, .int .i64 0]) 56 rfl Try.underlying24 infoO rfl (by decide) (by decide) _ [] l (some ad) l.length c (fun _ => True) (fun _ => False) rfl rfl HO1.out (Kd.C_alloc HC.out _) (fun y cs hk => by rw [k40_open hk]; exact k40_mkM _ _ _ y) (fun _ hk => hk.elim) (fun _ _ => trivial) HB1.out HB1.out.size ?hl ?_; (case hl => have := HL.out; simp only [List.length_nil]; omega); intro v3 w3 ho hb hg hg2; rw [List.nil_append] at ho; have HO3 := Lib.hid ho; have HB3 := Lib.hid hb; clear ho hb hg hg2 HO1 HB1)))
    go_ret
    exact ⟨_, rfl, HO3.out, HB3.out⟩
/-! ### with a function that tells which go -/
abbrev cv (p q r : Nat) : Value := .func (.func 77) #[] #[.pointer (some ⟨p, 0, none⟩), .pointer (some ⟨q, 0, none⟩), .pointer (some ⟨r, 0, none⟩)]
def Tells (w0 : World) (p q r : Nat) (del : Od → Bool) : Prop := ∀ (W : World) (o : Od), Below w0.heap.size w0 W → Calls Try.prog 77 #[.agg (aggO o), .pointer (some ⟨p, 0, none⟩), .pointer (some ⟨q, 0, none⟩), .pointer (some ⟨r, 0, none⟩)] W fun e w' => e = .returned (.bool (del o)) ∧ Below W.heap.size W w'
def FirstOf (del : Od → Bool) (l : List Od) (r : Int) : Prop := (r = -1 ∧ ∀ o ∈ l, del o = false) ∨ ∃ i : Nat, r = i ∧ i < l.length ∧ (∀ o ∈ l.take i, del o = false) ∧ ∃ o, l[i]? = some o ∧ del o = true
set_option maxHeartbeats 1600000 in
theorem index_calls (p q r : Nat) (del : Od → Bool) (A : Option Addr) (c : Nat) (l : List Od) (w0 w : World) (hf : Tells w0 p q r del) (hx : kO.C w A l.length l) (hb : Below w0.heap.size w0 w) :
    Calls Try.prog 91 #[.slice A l.length c, cv p q r] w fun e w' => ∃ n : Int, e = .returned (.int .i64 n) ∧ FirstOf del l n ∧ Below w.heap.size w w' := by
  have HC := Lib.hid hx
  have HF := Lib.hid hf
  have HW := Lib.hid hb
  have hm : l.length ≤ 9223372036854775807 := hx.2.1
  have HB0 := Lib.hid (Below.refl w.heap.size w)
  clear hf hx hb
  go_enter Try.func91, Try.ntmps91
  go_wp2_with fail
  go_loopw [8] (fun i' wr => ∃ (n : Nat), i' = .int .i64 n ∧ Hid (n ≤ l.length ∧ ∀ o ∈ l.take n, del o = false) ∧ Hid (Below w.heap.size w wr)) (fun i' _ => (l.length - intOf i').toNat)
  case atStart => exact ⟨0, rfl, Lib.hid ⟨Nat.zero_le _, fun o ho => by rw [List.take_zero] at ho; exact absurd ho List.not_mem_nil⟩, HB0⟩
  case round =>
    obtain ⟨n, rfl, HN, HB⟩ := hrel
    have hn := HN.out.1
    by_cases h : n < l.length
    · have hlt : decide (n < l.length) = true := decide_eq_true h
      have i0 : (0 : Int) ≤ n := by omega
      obtain ⟨ad, o, ho, hA, a0, a1, a2, a3, a4, a5, a6, a7⟩ := at_O (Kd.C_below HC.out HB.out) n h
      subst hA
      have HQ := Lib.hid ho
      have T := Lib.hid (HF.out wr o (below_then HW.out HW.out.size HB.out))
      clear ho
      go_wp2_with fail
      refine T.out.mono ?_
      rintro e w1 ⟨rfl, hb⟩
      have HB1 := Lib.hid (below_then HB.out HB.out.size hb)
      clear hb T HB
      cases hl : del o
      · have HLK := Lib.hid hl
        clear hl
        go_wp2_with fail
        go_roundw
        case rel =>
          refine ⟨n + 1, by go_num, Lib.hid ⟨by omega, fun z hz => ?_⟩, HB1⟩
          rw [List.take_succ_eq_append_getElem h, (List.getElem?_eq_some_iff.1 HQ.out).2] at hz
          rcases List.mem_append.1 hz with hz | hz
          · exact HN.out.2 z hz
          · rw [List.mem_singleton.1 hz]; exact HLK.out
        case measure => simp only [intOf]; omega
      · have HLK := Lib.hid hl
        clear hl
        go_wp2_with fail
        go_ret
        exact ⟨n, rfl, .inr ⟨n, rfl, h, HN.out.2, o, HQ.out, HLK.out⟩, HB1.out⟩
    · obtain rfl : n = l.length := by omega
      have hlt : decide (l.length < l.length) = false := decide_eq_false (by omega)
      go_wp2_with fail
      go_ret
      exact ⟨-1, rfl, .inl ⟨rfl, by have := HN.out.2; rwa [List.take_length] at this⟩, HB.out⟩
/-- While they go: the first k are kept, those from j on are as they were. -/
structure Mid (del : Od → Bool) (l xs : List Od) (k j : Nat) : Prop where
  len : xs.length = l.length
  kj : k < j
  jn : j ≤ l.length
  kept : xs.take k = (l.take j).filter fun o => !del o
  rest : xs.drop j = l.drop j
theorem Mid.start {del : Od → Bool} {l : List Od} {i : Nat} {o : Od} (h : ∀ o ∈ l.take i, del o = false) (ho : l[i]? = some o) (hd : del o = true) : Mid del l l i (i + 1) := by
  have hi := (List.getElem?_eq_some_iff.1 ho).1
  refine ⟨rfl, Nat.lt_succ_self _, hi, ?_, rfl⟩
  rw [List.take_succ_eq_append_getElem hi, (List.getElem?_eq_some_iff.1 ho).2, List.filter_append, List.filter_eq_self.2 (fun z hz => by rw [h z hz]; rfl)]
  simp [hd]
theorem Mid.at {del : Od → Bool} {l xs : List Od} {k j : Nat} (h : Mid del l xs k j) : xs[j]? = l[j]? := by
  have e := h.rest
  have e2 : (xs.drop j)[0]? = (l.drop j)[0]? := by rw [e]
  simpa [List.getElem?_drop] using e2
theorem drop_one {α : Type} {xs : List α} {j : Nat} : xs.drop (j + 1) = (xs.drop j).drop 1 := by rw [List.drop_drop]
theorem Mid.keep {del : Od → Bool} {l xs : List Od} {k j : Nat} {o : Od} (h : Mid del l xs k j) (ho : l[j]? = some o) (hd : del o = false) : Mid del l (xs.set k o) (k + 1) (j + 1) := by
  have hj := (List.getElem?_eq_some_iff.1 ho).1
  have hkj := h.kj
  have hl := h.len
  refine ⟨by rw [List.length_set]; exact hl, by omega, hj, ?_, ?_⟩
  · have hks : k < (xs.set k o).length := by rw [List.length_set]; omega
    rw [List.take_succ_eq_append_getElem hks, List.take_succ_eq_append_getElem hj, (List.getElem?_eq_some_iff.1 ho).2, List.filter_append, List.take_set_of_le (Nat.le_refl k), h.kept]
    simp [hd]
  · rw [List.drop_set_of_lt (by omega), drop_one, h.rest, ← drop_one]
theorem Mid.skip {del : Od → Bool} {l xs : List Od} {k j : Nat} {o : Od} (h : Mid del l xs k j) (ho : l[j]? = some o) (hd : del o = true) : Mid del l xs k (j + 1) := by
  have hj := (List.getElem?_eq_some_iff.1 ho).1
  have hkj := h.kj
  refine ⟨h.len, by omega, hj, ?_, by rw [drop_one, h.rest, ← drop_one]⟩
  rw [List.take_succ_eq_append_getElem hj, (List.getElem?_eq_some_iff.1 ho).2, List.filter_append, h.kept]
  simp [hd]
set_option maxHeartbeats 4000000 in
set_option maxRecDepth 100000 in
theorem delete_calls (p q r : Nat) (del : Od → Bool) (v : Value) (l : List Od) (w0 w : World) (hf : Tells w0 p q r del) (hx : kO.R 40 w w0.heap.size (fun _ => True) v l) (hb : Below w0.heap.size w0 w) (hl : l.length ≤ 64) :
    Calls Try.prog 75 #[v, cv p q r] w fun e w' => ∃ v', e = .returned v' ∧ kO.R 40 w' w0.heap.size (fun _ => True) v' (l.filter fun o => !del o) ∧ Below w0.heap.size w0 w' := by
  have HF := Lib.hid hf
  have HW := Lib.hid hb
  have HX := Lib.hid hx
  have HL := Lib.hid hl
  have hm : l.length ≤ 9223372036854775807 := by omega
  obtain ⟨A, c, rfl⟩ := Kd.R_slice hx
  have T := Lib.hid (index_calls p q r del A c l w0 w hf (Kd.R_reads' hx).2.2 hb)
  clear hf hx hb hl
  go_enter Try.func75, Try.ntmps75
  go_wp2_with fail
  refine T.out.mono ?_
  rintro e w1 ⟨n, rfl, hn, hb⟩
  have HB1 := Lib.hid (below_then HW.out HW.out.size hb)
  have HX1 := Lib.hid (Kd.R_below HX.out hb)
  clear hb T HX HW
  rcases hn with ⟨rfl, hall⟩ | ⟨i, rfl, hi, hfirst, o, ho, hdel⟩
  · have HE : Hid ((l.filter fun o => !del o) = l) := Lib.hid (List.filter_eq_self.2 (fun o ho => by rw [hall o ho]; rfl))
    clear hall
    go_wp2_with fail
    go_ret
    refine ⟨_, rfl, ?_, HB1.out⟩
    rw [HE.out]
    exact HX1.out
  · have HS := Lib.hid (Mid.start hfirst ho hdel)
    obtain ⟨g, cap, hv, hbg, _, _⟩ := Kd.R_form HX1.out (by omega)
    injection hv with hA hlen hcp
    subst hA hcp
    have hc1 : l.length ≤ c := (Kd.R_reads' HX1.out).2.1
    have hne : ((i : Int) == -1) = false := by rw [beq_eq_false_iff_ne]; omega
    have HBG : Hid (w0.heap.size ≤ g) := Lib.hid hbg
    clear hfirst ho hdel hlen hbg
    go_wp2_with fail
    go_loopw [5, 6] (fun k' j' wr => ∃ (k j : Nat) (xs : List Od), k' = .int .i64 k ∧ j' = .int .i64 j ∧ Hid (Mid del l xs k j) ∧ Hid (kO.R 40 wr w0.heap.size (fun _ => True) (.slice (some ⟨g, 0, none⟩) l.length c) xs) ∧ Hid (Below w0.heap.size w0 wr)) (fun _ j' _ => (l.length - intOf j').toNat)
    case atStart => exact ⟨i, i + 1, l, rfl, by go_num, HS, HX1, HB1⟩
    case round =>
      obtain ⟨k, j, xs, rfl, rfl, HM, HX', HB'⟩ := hrel
      clear HX1 HB1
      have HX := Lib.hid HX'.out
      have HB := Lib.hid HB'.out
      clear HX' HB'
      have hlx := HM.out.len
      have hkj := HM.out.kj
      have hjn := HM.out.jn
      have HC := Lib.hid (Kd.R_reads' HX.out).2.2
      by_cases h : j < l.length
      · have hlt : decide (j < l.length) = true := decide_eq_true h
        have i0 : (0 : Int) ≤ j := by omega
        have k0 : (0 : Int) ≤ k := by omega
        have k1 : (k : Int) < l.length := by omega
        obtain ⟨ad, o, ho, hA, a0, a1, a2, a3, a4, a5, a6, a7⟩ := at_O HC.out j (by omega)
        injection hA with hA
        subst hA
        simp only [add_plain] at a0 a1 a2 a3 a4 a5 a6 a7
        rw [HM.out.at] at ho
        have HO := Lib.hid ho
        have HBA := Lib.hid (below_alloc (Below.refl wr.heap.size wr) (.cells (aggO o) 40))
        have HB1 := Lib.hid (below_alloc HB.out (.cells (aggO o) 40))
        have HX1 := Lib.hid (Kd.R_alloc HX.out (.cells (aggO o) 40))
        have HQ1 : Hid ((wr.alloc (.cells (aggO o) 40)).heap[wr.heap.size]? = some (.cells (aggO o) 40 (0, 0))) := Lib.hid (blk_new _ _)
        have T := Lib.hid (HF.out (wr.alloc (.cells (aggO o) 40)) o HB1.out)
        clear ho HX HB HBA HC
        go_wp2_with fail
        refine T.out.mono ?_
        rintro e w2 ⟨rfl, hb⟩
        have HB2 := Lib.hid (below_then HB1.out HB1.out.size hb)
        have HX2 := Lib.hid (Kd.R_below HX1.out hb)
        have HQ2 := Lib.hid (blk_below HQ1.out hb)
        clear hb T HB1 HX1 HQ1 a0 a1 a2 a3 a4 a5 a6 a7
        cases hd : del o
        · have HD := Lib.hid hd
          obtain ⟨y0, y1, y2, y3, y4, y5, y6, y7⟩ := blkO HQ2.out
          obtain ⟨ad2, o2, ho2, hA2, b0, b1, b2, b3, b4, b5, b6, b7⟩ := at_O (Kd.R_reads' HX2.out).2.2 k (by omega)
          injection hA2 with hA2
          subst hA2
          rw [add_plain] at b0 b1 b2 b3 b4 b5 b6 b7
          have hcells : ∀ (jj : Nat) u, [Value.int .i64 o2.f0, .bool o2.f1, .bool o2.f2, .int .i64 o2.f3, .int .i64 o2.f4, .int .i64 o2.f5, .int .i64 o2.f6, .int .i64 o2.f7][jj]? = some u → w2.cell? ⟨g, (k : Int).toNat * kO.sz + jj, none⟩ = some u := by
            intro jj u hu
            rw [show (k : Int).toNat * kO.sz + jj = k * 8 + jj from rfl]
            match jj, hu with
            | 0, hu => obtain rfl := Option.some.inj hu; exact b0
            | 1, hu => obtain rfl := Option.some.inj hu; exact b1
            | 2, hu => obtain rfl := Option.some.inj hu; exact b2
            | 3, hu => obtain rfl := Option.some.inj hu; exact b3
            | 4, hu => obtain rfl := Option.some.inj hu; exact b4
            | 5, hu => obtain rfl := Option.some.inj hu; exact b5
            | 6, hu => obtain rfl := Option.some.inj hu; exact b6
            | 7, hu => obtain rfl := Option.some.inj hu; exact b7
            | jj + 8, hu => cases hu
          have HCE := Lib.hid hcells
          clear hd hcells ho2 b0 b1 b2 b3 b4 b5 b6 b7
          go_wp2_with (first | ((with_reducible refine gate_store (t := 40) (p := 33) (v := .tmp 32) rfl ?_); go_must (refine Kd.R_store kO (w0 := w0) w0.heap.size rfl rfl 40 _ _ rfl 40 (k : Int) 0 xs o (.agg (aggO o)) (aggO o).toList [.int .i64 o2.f0, .bool o2.f1, .bool o2.f2, .int .i64 o2.f3, .int .i64 o2.f4, .int .i64 o2.f5, .int .i64 o2.f6, .int .i64 o2.f7] (fun _ => True) (fun _ => False) rfl rfl rfl rfl (by kernel_rfl) (by simp [Value.oneCell']) HX2.out k0 k1 rfl HCE.out (Nat.le_refl 8) (k40_mkM _ _ _ o) (fun _ hk => hk.elim) HB2.out ?_; intro w3 ho hb hg; have HX3 := Lib.hid ho; have HB3 := Lib.hid hb; clear ho hb hg HX2 HB2 HQ2 y0 y1 y2 y3 y4 y5 y6 y7 HCE)))
          have HX4 := Lib.hid (show kO.R 40 w3 w0.heap.size (fun _ => True) (.slice (some ⟨g, 0, none⟩) l.length c) (xs.set k o) from HX3.out)
          clear HX3
          go_wp2_with fail
          go_roundw
          case rel => exact ⟨k + 1, j + 1, xs.set k o, by go_num, by go_num, Lib.hid (HM.out.keep HO.out HD.out), HX4, HB3⟩
          case measure => simp only [intOf]; omega
        · have HD := Lib.hid hd
          clear hd
          go_wp2_with fail
          go_roundw
          case rel => exact ⟨k, j + 1, xs, rfl, by go_num, Lib.hid (HM.out.skip HO.out HD.out), HX2, HB2⟩
          case measure => simp only [intOf]; omega
      · obtain rfl : j = l.length := by omega
        have hlt : decide (l.length < l.length) = false := decide_eq_false (by omega)
        have hkj' : k < l.length := hkj
        obtain ⟨w2, hrun, h2, h3⟩ := O_clear HX.out (m := k) hkj'
        have HX2 := Lib.hid h2
        have HB2 := Lib.hid (pw_below_grown HB.out _ HB.out.size h3 (fun z hz => by cases hz; exact HBG.out))
        have k0 : (0 : Int) ≤ k := by omega
        clear h2 h3 HX HB HC
        go_wp2_with fail
        go_ret
        have hkk := HM.out.kept
        rw [List.take_length] at hkk
        refine ⟨.slice (some ⟨g, 0, none⟩) k c, ?_, by rw [← hkk]; exact HX2.out, HB2.out⟩
        rfl
end Go.Proofs.Ytnpphmgibgfjoaa.Sl
/- Straws: what the program's functions, and the reference's, come to. -/
namespace Go.Proofs.Ytnpphmgibgfjoaa.StrW
open Go.RowKit Go.Proofs.YtnpphmgibgfjoaaW.PrintWords KW MixP MixW StrP

/-- A block that was made stays. -/
theorem box_cell {W w1 : World} {cs : Array Value} {t : TypeId} (h : Below (W.alloc (.cells cs t)).heap.size (W.alloc (.cells cs t)) w1) (i : Nat) {v : Value} (hv : cs[i]? = some v) : w1.cell? ⟨W.heap.size, i, none⟩ = some v :=
  (blk_cell (blk_below (blk_new W (.cells cs t)) h) i).trans hv
theorem draws_calls (a b : Int) (w : World) :
    Calls Try.prog 104 #[.agg #[.int .i64 a, .int .i64 b]] w fun e w' => e = .returned (.bool (drB ⟨a, b⟩)) ∧ Below w.heap.size w w' := by
  have HB := Lib.hid (Below.refl w.heap.size w)
  by_cases h1 : 1 ≤ b
  · have e1 : drB ⟨a, b⟩ = decide (b ≤ 1073741824) := by unfold drB; simp [h1]
    rw [e1]
    clear e1
    go_enter Try.func104, Try.ntmps104
    go_wp2
    go_ret
    exact ⟨rfl, below_alloc HB.out _⟩
  · have e1 : drB ⟨a, b⟩ = false := by unfold drB; simp [h1]
    rw [e1]
    clear e1
    go_enter Try.func104, Try.ntmps104
    go_wp2
    go_ret
    exact ⟨rfl, below_alloc HB.out _⟩
theorem h3_lot (x id r : Int) : wrap64 (wrap64 (IntKind.u16.wrap (h3I x (id % 4294967296) r)) + 1) = ((lot x id r : Nat) : Int) := by
  rw [IntKind.wrap_u16]
  unfold lot
  generalize h3I x (id % 4294967296) r = h
  unfold wrap64
  omega
theorem drV_no {x r : Int} {w : Wd} (h : drB w = false) : drV x r w = 0 := by
  unfold drV; rw [if_neg (by rw [h]; decide)]
theorem drV_yes {x r : Int} {w : Wd} (h : drB w = true) : drV x r w = numer x w.id r / w.wt := by
  unfold drV; rw [if_pos h]
theorem draw_calls (a b x r : Int) (w : World) :
    Calls Try.prog 95 #[.agg #[.int .i64 a, .int .i64 b], .int .u32 x, .int .u32 r] w fun e w' => e = .returned (.tuple #[.int .i64 (drV x r ⟨a, b⟩), .bool (drB ⟨a, b⟩)]) ∧ Below w.heap.size w w' := by
  cases hd : drB ⟨a, b⟩ with
  | false =>
    have e1 : drV x r ⟨a, b⟩ = 0 := drV_no hd
    rw [e1]
    clear e1
    have HD := Lib.hid hd
    clear hd
    go_enter Try.func95, Try.ntmps95
    go_wp2_with fail
    refine (draws_calls _ _ _).mono ?_
    rintro e w1 ⟨rfl, hb⟩
    have HB := Lib.hid (below_then (below_alloc (Below.refl _ _) _) (below_alloc (Below.refl _ _) _).size hb)
    clear hb
    rw [HD.out]
    go_wp2
    go_ret2
    exact ⟨rfl, HB.out⟩
  | true =>
    have hv : drV x r ⟨a, b⟩ = numer x a r / b := drV_yes hd
    have hwt : 1 ≤ b := ((drB_iff _).1 hd).1
    have HD := Lib.hid hd
    have HV := Lib.hid hv
    clear hd hv
    have hl := logn_le (lot_pos x a r) (lot_le x a r)
    have HL := Lib.hid (lot_le x a r)
    have HP : Hid (1 ≤ lot x a r) := Lib.hid (by have := lot_pos x a r; omega)
    have HT := Lib.hid (h3_lot x a r)
    go_enter Try.func95, Try.ntmps95
    go_wp2_with fail
    refine (draws_calls _ _ _).mono ?_
    rintro e w1 ⟨rfl, hb⟩
    rw [HD.out]
    have c0 := box_cell hb 0 rfl
    have c1 := box_cell hb 1 rfl
    have HB := Lib.hid (below_then (below_alloc (Below.refl _ _) _) (below_alloc (Below.refl _ _) _).size hb)
    clear hb
    go_wp2_with fail
    refine (hash3_calls _ _ _ _).mono ?_
    rintro e w2 ⟨rfl, rfl⟩
    go_wp2_with fail
    rw [HT.out]
    refine (log_some _ _ HP.out HL.out).mono ?_
    rintro e w3 ⟨rfl, rfl⟩
    clear HT
    generalize hg : logn (lot x a r) = g at *
    have HG := Lib.hid hg
    clear hg
    go_wp2
    go_ret2
    have e : drV x r ⟨a, b⟩ = (268435456 - (g : Int)) * 65536 / b := by rw [HV.out]; unfold numer; rw [HG.out]
    rw [e]
    exact ⟨rfl, HB.out⟩
/-- The state behind the first i. -/
def St (x r : Int) (l : List Wd) (i : Nat) (at_ least : Int) : Prop := chs x r (l.drop i) i (at_, least) = chs x r l 0 (-1, 0)
theorem st_start (x r : Int) (l : List Wd) : St x r l 0 (-1) 0 := by unfold St; rw [List.drop_zero]; rfl
theorem st_step {x r : Int} {l : List Wd} {i : Nat} {a v : Int} {w : Wd} (h : St x r l i a v) (hw : l[i]? = some w) : St x r l (i + 1) (sstep x r i w (a, v)).1 (sstep x r i w (a, v)).2 := by
  obtain ⟨hl, hw⟩ := List.getElem?_eq_some_iff.1 hw
  unfold St at *
  rw [← h, List.drop_eq_getElem_cons hl, hw]
  rfl
theorem st_end {x r : Int} {l : List Wd} {i : Nat} {a v : Int} (h : St x r l i a v) (hi : l.length ≤ i) : pick x r l = a := by
  unfold St at h
  unfold pick
  rw [← h, List.drop_of_length_le hi]
  rfl
theorem step_yes {x r i : Int} {w : Wd} {a v : Int} (h : drB w = true) (h1 : a < 0 ∨ drV x r w < v) : sstep x r i w (a, v) = (i, drV x r w) := by
  unfold sstep; rw [if_pos (by simp [h, h1])]
theorem step_no {x r i : Int} {w : Wd} {a v : Int} (h : drB w = false ∨ (¬ a < 0 ∧ ¬ drV x r w < v)) : sstep x r i w (a, v) = (a, v) := by
  unfold sstep
  rw [if_neg]
  rcases h with h | ⟨h1, h2⟩
  · simp [h]
  · simp [h1, h2]
set_option maxHeartbeats 400000 in
theorem choose_calls (A : Option Addr) (c : Nat) (l : List Wd) (x r : Int) (w : World) (hc : kW.C w A l.length l) :
    Calls Try.prog 74 #[.slice A l.length c, .int .u32 x, .int .u32 r] w fun e w' => e = .returned (.int .i64 (pick x r l)) ∧ Below w.heap.size w w' := by
  have HC := Lib.hid hc
  have hm : l.length ≤ 9223372036854775807 := hc.2.1
  clear hc
  go_enter Try.func74, Try.ntmps74
  go_wp2
  go_loopw [7, 8, 15] (fun a v i wr => ∃ (ai vi : Int) (k : Nat), a = .int .i64 ai ∧ v = .int .i64 vi ∧ i = .int .i64 k ∧ k ≤ l.length ∧ Hid (St x r l k ai vi) ∧ Hid (Below w.heap.size w wr)) (fun _ _ i _ => l.length - (intOf i).toNat)
  case atStart => exact ⟨_, _, 0, rfl, rfl, rfl, Nat.zero_le _, Lib.hid (st_start x r l), Lib.hid (Below.refl _ _)⟩
  case round =>
    obtain ⟨a, v, k, rfl, rfl, rfl, hk, HS, HB⟩ := hrel
    by_cases h : k < l.length
    · obtain ⟨ad, u, hu, rfl, c0, c1⟩ := at_W (Kd.C_below HC.out HB.out) k h
      have HU := Lib.hid hu
      have hk1 : decide (k < l.length) = true := decide_eq_true h
      have i0 : (0 : Int) ≤ k := by omega
      clear hu
      go_wp2_with fail
      refine (draw_calls _ _ _ _ _).mono ?_
      rintro e w1 ⟨rfl, hb⟩
      have hB := Lib.hid (below_then (below_alloc HB.out _) (below_alloc HB.out _).size hb)
      clear hb HB c0 c1
      have HB := hB
      clear hB
      by_cases hd : drB u = true
      · by_cases h1 : a < 0
        · have HN := Lib.hid (st_step HS.out HU.out)
          rw [step_yes hd (.inl h1)] at HN
          have e1 := Lib.hid hd
          have t1 : decide (a < 0) = true := decide_eq_true h1
          clear hd h1
          rw [show (⟨u.id, u.wt⟩ : Wd) = u from rfl, e1.out]
          go_wp2_with fail
          go_roundw
          case rel => exact ⟨_, _, k + 1, rfl, rfl, by go_num, by omega, HN, HB⟩
          case measure => simp [intOf]; omega
        · by_cases h2 : drV x r u < v
          · have HN := Lib.hid (st_step HS.out HU.out)
            rw [step_yes hd (.inr h2)] at HN
            have e1 := Lib.hid hd
            have t1 : decide (a < 0) = false := decide_eq_false h1
            have t2 : decide (drV x r u < v) = true := decide_eq_true h2
            clear hd h1 h2
            rw [show (⟨u.id, u.wt⟩ : Wd) = u from rfl, e1.out]
            go_wp2_with fail
            go_roundw
            case rel => exact ⟨_, _, k + 1, rfl, rfl, by go_num, by omega, HN, HB⟩
            case measure => simp [intOf]; omega
          · have HN := Lib.hid (st_step HS.out HU.out)
            rw [step_no (.inr ⟨h1, h2⟩)] at HN
            have e1 := Lib.hid hd
            have t1 : decide (a < 0) = false := decide_eq_false h1
            have t2 : decide (drV x r u < v) = false := decide_eq_false h2
            clear hd h1 h2
            rw [show (⟨u.id, u.wt⟩ : Wd) = u from rfl, e1.out]
            go_wp2_with fail
            go_roundw
            case rel => exact ⟨_, _, k + 1, rfl, rfl, by go_num, by omega, HN, HB⟩
            case measure => simp [intOf]; omega
      · have hd : drB u = false := by cases h : drB u with | true => exact absurd h hd | false => rfl
        have HN := Lib.hid (st_step HS.out HU.out)
        rw [step_no (.inl hd)] at HN
        have e1 := Lib.hid hd
        clear hd
        rw [show (⟨u.id, u.wt⟩ : Wd) = u from rfl, e1.out]
        go_wp2_with fail
        go_roundw
        case rel => exact ⟨_, _, k + 1, rfl, rfl, by go_num, by omega, HN, HB⟩
        case measure => simp [intOf]; omega
    · have HE := Lib.hid (st_end HS.out (by omega))
      have hk1 : decide (k < l.length) = false := decide_eq_false h
      clear h
      go_wp2
      go_ret
      rw [HE.out]
      exact ⟨rfl, HB.out⟩
end Go.Proofs.Ytnpphmgibgfjoaa.StrW
/- Descents: the walk of crush.descend. -/
namespace Go.Proofs.Ytnpphmgibgfjoaa.Dsc
open Go Go.RowKit Go.Proofs.YtnpphmgibgfjoaaW.PrintWords Go.Proofs.YtnpphmgibgfjoaaW.PrintMore Mem PAll KW MixP MixW StrP StrW AtA Srt Grp Sl
open CrP hiding Od
theorem cell_alloc {W : World} {a : Addr} {v : Value} (h : W.cell? a = some v) (o : Obj) : (W.alloc o).cell? a = some v := Lib.cell?_alloc_some o h
set_option maxHeartbeats 1600000 in
theorem tells1 (W : World) (p q r : Nat) (A : Option Addr) (c n : Nat) (g : List Wd) (v : Wd) (o : Od) (hp : W.cell? ⟨p, 0, none⟩ = some (.func (.func 69) #[] #[])) (hq : W.cell? ⟨q, 0, none⟩ = some (.slice A g.length c)) (hr : W.cell? ⟨r, 0, none⟩ = some (.int .i64 n)) (hg : kW.C W A g.length g) (hv : g[n]? = some v) :
    Calls Try.prog 77 #[.agg (aggO o), .pointer (some ⟨p, 0, none⟩), .pointer (some ⟨q, 0, none⟩), .pointer (some ⟨r, 0, none⟩)] W fun e w' => e = .returned (.bool (!decide (keyN 1 o = v.id))) ∧ Below W.heap.size W w' := by
  have hn := (List.getElem?_eq_some_iff.1 hv).1
  have hm : g.length ≤ 9223372036854775807 := hg.2.1
  have HB1 := Lib.hid (below_alloc (Below.refl W.heap.size W) (.cells (aggO o) 40))
  have HO1 : Hid ((W.alloc (.cells (aggO o) 40)).heap[W.heap.size]? = some (.cells (aggO o) 40 (0, 0))) := Lib.hid (blk_new _ _)
  obtain ⟨ad, u, hu, rfl, a0, a1⟩ := at_W (Kd.C_alloc hg (.cells (aggO o) 40)) n hn
  obtain rfl : v = u := Option.some.inj (hv.symm.trans hu)
  have hp1 := cell_alloc hp (.cells (aggO o) 40)
  have hq1 := cell_alloc hq (.cells (aggO o) 40)
  have hr1 := cell_alloc hr (.cells (aggO o) 40)
  have hlt : decide (n < g.length) = true := decide_eq_true hn
  have i0 : (0 : Int) ≤ n := by omega
  have i1 : (n : Int) < g.length := by omega
  clear hu hv hg hp hq hr
  obtain ⟨y0, y1, y2, y3, y4, y5, y6, y7⟩ := blkO HO1.out
  obtain ⟨w1, hw1⟩ : ∃ w1, w1 = W.alloc (.cells (aggO o) 40) := ⟨_, rfl⟩
  go_enter Try.func77, Try.ntmps77
  go_wp2_with fail
  rw [← hw1] at y0 y1 y2 y3 y4 y5 y6 y7 hp1 hq1 hr1 a0 a1 HB1 ⊢
  have z0 := cell_regrown y0
  have z1 := cell_regrown y1
  have z2 := cell_regrown y2
  have z3 := cell_regrown y3
  have z4 := cell_regrown y4
  have z5 := cell_regrown y5
  have z6 := cell_regrown y6
  have z7 := cell_regrown y7
  have zp := cell_regrown hp1
  have zq := cell_regrown hq1
  have zr := cell_regrown hr1
  have za := cell_regrown a0
  have T : Hid (∀ dd os, Calls Try.prog 69 #[.agg (aggO o)] (Sort.grow (redrawn w1 dd) os) fun e w' => e = .returned (.int .i64 (keyN 1 o)) ∧ Below (Sort.grow (redrawn w1 dd) os).heap.size (Sort.grow (redrawn w1 dd) os) w') := Lib.hid (fun dd os => rack_calls o _)
  clear y0 y1 y2 y3 y4 y5 y6 y7 hp1 hq1 hr1 a0 a1 hw1 HO1
  obtain ⟨ko, hko⟩ : ∃ ko, ko = keyN 1 o := ⟨_, rfl⟩
  rw [← hko] at T
  have HK := Lib.hid hko
  clear hko
  refine wp_region_quiet_below (by kernel_rfl) (by kernel_rfl) ?_
  repeat (go_big_quiet_step ((go_at_call 69; exact Calls.regrown_of (T.out _ _))))
  refine wpQuiet_nil ?_
  intro _ hw'
  obtain ⟨⟨dq, osq⟩, hw''⟩ := hw'
  subst hw''
  have HB2 := Lib.hid (below_then HB1.out HB1.out.size (below_regrown w1 dq osq))
  go_wp2_with fail
  go_ret
  refine ⟨?_, HB2.out⟩
  rw [← HK.out]
  exact congrArg (fun b => Ending.returned (.bool b)) (by rw [bne]; cases h : (ko == v.id) <;> simp at h <;> simp [h])
set_option maxHeartbeats 1600000 in
theorem tells2 (W : World) (p q r : Nat) (A : Option Addr) (c n : Nat) (g : List Wd) (v : Wd) (o : Od) (hp : W.cell? ⟨p, 0, none⟩ = some (.func (.func 68) #[] #[])) (hq : W.cell? ⟨q, 0, none⟩ = some (.slice A g.length c)) (hr : W.cell? ⟨r, 0, none⟩ = some (.int .i64 n)) (hg : kW.C W A g.length g) (hv : g[n]? = some v) :
    Calls Try.prog 77 #[.agg (aggO o), .pointer (some ⟨p, 0, none⟩), .pointer (some ⟨q, 0, none⟩), .pointer (some ⟨r, 0, none⟩)] W fun e w' => e = .returned (.bool (!decide (keyN 2 o = v.id))) ∧ Below W.heap.size W w' := by
  have hn := (List.getElem?_eq_some_iff.1 hv).1
  have hm : g.length ≤ 9223372036854775807 := hg.2.1
  have HB1 := Lib.hid (below_alloc (Below.refl W.heap.size W) (.cells (aggO o) 40))
  have HO1 : Hid ((W.alloc (.cells (aggO o) 40)).heap[W.heap.size]? = some (.cells (aggO o) 40 (0, 0))) := Lib.hid (blk_new _ _)
  obtain ⟨ad, u, hu, rfl, a0, a1⟩ := at_W (Kd.C_alloc hg (.cells (aggO o) 40)) n hn
  obtain rfl : v = u := Option.some.inj (hv.symm.trans hu)
  have hp1 := cell_alloc hp (.cells (aggO o) 40)
  have hq1 := cell_alloc hq (.cells (aggO o) 40)
  have hr1 := cell_alloc hr (.cells (aggO o) 40)
  have hlt : decide (n < g.length) = true := decide_eq_true hn
  have i0 : (0 : Int) ≤ n := by omega
  have i1 : (n : Int) < g.length := by omega
  clear hu hv hg hp hq hr
  obtain ⟨y0, y1, y2, y3, y4, y5, y6, y7⟩ := blkO HO1.out
  obtain ⟨w1, hw1⟩ : ∃ w1, w1 = W.alloc (.cells (aggO o) 40) := ⟨_, rfl⟩
  go_enter Try.func77, Try.ntmps77
  go_wp2_with fail
  rw [← hw1] at y0 y1 y2 y3 y4 y5 y6 y7 hp1 hq1 hr1 a0 a1 HB1 ⊢
  have z0 := cell_regrown y0
  have z1 := cell_regrown y1
  have z2 := cell_regrown y2
  have z3 := cell_regrown y3
  have z4 := cell_regrown y4
  have z5 := cell_regrown y5
  have z6 := cell_regrown y6
  have z7 := cell_regrown y7
  have zp := cell_regrown hp1
  have zq := cell_regrown hq1
  have zr := cell_regrown hr1
  have za := cell_regrown a0
  have T : Hid (∀ dd os, Calls Try.prog 68 #[.agg (aggO o)] (Sort.grow (redrawn w1 dd) os) fun e w' => e = .returned (.int .i64 (keyN 2 o)) ∧ Below (Sort.grow (redrawn w1 dd) os).heap.size (Sort.grow (redrawn w1 dd) os) w') := Lib.hid (fun dd os => host_calls o _)
  clear y0 y1 y2 y3 y4 y5 y6 y7 hp1 hq1 hr1 a0 a1 hw1 HO1
  obtain ⟨ko, hko⟩ : ∃ ko, ko = keyN 2 o := ⟨_, rfl⟩
  rw [← hko] at T
  have HK := Lib.hid hko
  clear hko
  refine wp_region_quiet_below (by kernel_rfl) (by kernel_rfl) ?_
  repeat (go_big_quiet_step ((go_at_call 68; exact Calls.regrown_of (T.out _ _))))
  refine wpQuiet_nil ?_
  intro _ hw'
  obtain ⟨⟨dq, osq⟩, hw''⟩ := hw'
  subst hw''
  have HB2 := Lib.hid (below_then HB1.out HB1.out.size (below_regrown w1 dq osq))
  go_wp2_with fail
  go_ret
  refine ⟨?_, HB2.out⟩
  rw [← HK.out]
  exact congrArg (fun b => Ending.returned (.bool b)) (by rw [bne]; cases h : (ko == v.id) <;> simp at h <;> simp [h])
set_option maxHeartbeats 1600000 in
theorem tells3 (W : World) (p q r : Nat) (A : Option Addr) (c n : Nat) (g : List Wd) (v : Wd) (o : Od) (hp : W.cell? ⟨p, 0, none⟩ = some (.func (.func 67) #[] #[])) (hq : W.cell? ⟨q, 0, none⟩ = some (.slice A g.length c)) (hr : W.cell? ⟨r, 0, none⟩ = some (.int .i64 n)) (hg : kW.C W A g.length g) (hv : g[n]? = some v) :
    Calls Try.prog 77 #[.agg (aggO o), .pointer (some ⟨p, 0, none⟩), .pointer (some ⟨q, 0, none⟩), .pointer (some ⟨r, 0, none⟩)] W fun e w' => e = .returned (.bool (!decide (keyN 3 o = v.id))) ∧ Below W.heap.size W w' := by
  have hn := (List.getElem?_eq_some_iff.1 hv).1
  have hm : g.length ≤ 9223372036854775807 := hg.2.1
  have HB1 := Lib.hid (below_alloc (Below.refl W.heap.size W) (.cells (aggO o) 40))
  have HO1 : Hid ((W.alloc (.cells (aggO o) 40)).heap[W.heap.size]? = some (.cells (aggO o) 40 (0, 0))) := Lib.hid (blk_new _ _)
  obtain ⟨ad, u, hu, rfl, a0, a1⟩ := at_W (Kd.C_alloc hg (.cells (aggO o) 40)) n hn
  obtain rfl : v = u := Option.some.inj (hv.symm.trans hu)
  have hp1 := cell_alloc hp (.cells (aggO o) 40)
  have hq1 := cell_alloc hq (.cells (aggO o) 40)
  have hr1 := cell_alloc hr (.cells (aggO o) 40)
  have hlt : decide (n < g.length) = true := decide_eq_true hn
  have i0 : (0 : Int) ≤ n := by omega
  have i1 : (n : Int) < g.length := by omega
  clear hu hv hg hp hq hr
  obtain ⟨y0, y1, y2, y3, y4, y5, y6, y7⟩ := blkO HO1.out
  obtain ⟨w1, hw1⟩ : ∃ w1, w1 = W.alloc (.cells (aggO o) 40) := ⟨_, rfl⟩
  go_enter Try.func77, Try.ntmps77
  go_wp2_with fail
  rw [← hw1] at y0 y1 y2 y3 y4 y5 y6 y7 hp1 hq1 hr1 a0 a1 HB1 ⊢
  have z0 := cell_regrown y0
  have z1 := cell_regrown y1
  have z2 := cell_regrown y2
  have z3 := cell_regrown y3
  have z4 := cell_regrown y4
  have z5 := cell_regrown y5
  have z6 := cell_regrown y6
  have z7 := cell_regrown y7
  have zp := cell_regrown hp1
  have zq := cell_regrown hq1
  have zr := cell_regrown hr1
  have za := cell_regrown a0
  have T : Hid (∀ dd os, Calls Try.prog 67 #[.agg (aggO o)] (Sort.grow (redrawn w1 dd) os) fun e w' => e = .returned (.int .i64 (keyN 3 o)) ∧ Below (Sort.grow (redrawn w1 dd) os).heap.size (Sort.grow (redrawn w1 dd) os) w') := Lib.hid (fun dd os => self_calls o _)
  clear y0 y1 y2 y3 y4 y5 y6 y7 hp1 hq1 hr1 a0 a1 hw1 HO1
  obtain ⟨ko, hko⟩ : ∃ ko, ko = keyN 3 o := ⟨_, rfl⟩
  rw [← hko] at T
  have HK := Lib.hid hko
  clear hko
  refine wp_region_quiet_below (by kernel_rfl) (by kernel_rfl) ?_
  repeat (go_big_quiet_step ((go_at_call 67; exact Calls.regrown_of (T.out _ _))))
  refine wpQuiet_nil ?_
  intro _ hw'
  obtain ⟨⟨dq, osq⟩, hw''⟩ := hw'
  subst hw''
  have HB2 := Lib.hid (below_then HB1.out HB1.out.size (below_regrown w1 dq osq))
  go_wp2_with fail
  go_ret
  refine ⟨?_, HB2.out⟩
  rw [← HK.out]
  exact congrArg (fun b => Ending.returned (.bool b)) (by rw [bne]; cases h : (ko == v.id) <;> simp at h <;> simp [h])

def fnL (lv : Nat) : Nat := if lv = 1 then 69 else if lv = 2 then 68 else 67
abbrev fvL (lv : Nat) : Value := .func (.func (fnL lv)) #[] #[]
theorem group_any (lv : Nat) (h : lv = 1 ∨ lv = 2 ∨ lv = 3) (A : Option Addr) (c : Nat) (l : List Od) (w : World) (hx : kO.C w A l.length l) (hg : GoodL l) :
    Calls Try.prog 48 #[.slice A l.length c, fvL lv] w fun e w' => ∃ v, e = .returned v ∧ kW.R 83 w' w.heap.size (fun _ => True) v (group lv l) ∧ Below w.heap.size w w' := by
  rcases h with rfl | rfl | rfl
  · exact group_calls1 A c l w hx hg
  · exact group_calls2 A c l w hx hg
  · exact group_calls3 A c l w hx hg
theorem tells_any (lv : Nat) (h : lv = 1 ∨ lv = 2 ∨ lv = 3) (W : World) (p q r : Nat) (A : Option Addr) (c n : Nat) (g : List Wd) (v : Wd) (o : Od) (hp : W.cell? ⟨p, 0, none⟩ = some (fvL lv)) (hq : W.cell? ⟨q, 0, none⟩ = some (.slice A g.length c)) (hr : W.cell? ⟨r, 0, none⟩ = some (.int .i64 n)) (hg : kW.C W A g.length g) (hv : g[n]? = some v) :
    Calls Try.prog 77 #[.agg (aggO o), .pointer (some ⟨p, 0, none⟩), .pointer (some ⟨q, 0, none⟩), .pointer (some ⟨r, 0, none⟩)] W fun e w' => e = .returned (.bool (!decide (keyN lv o = v.id))) ∧ Below W.heap.size W w' := by
  rcases h with rfl | rfl | rfl
  · exact tells1 W p q r A c n g v o hp hq hr hg hv
  · exact tells2 W p q r A c n g v o hp hq hr hg hv
  · exact tells3 W p q r A c n g v o hp hq hr hg hv
def lvls (x r : Int) : Nat → List Od → Option (List Od)
  | 0, l => some l
  | n + 1, l => (lvls x r n l).bind (lvl x r ((n + 1 : Nat)))
theorem lvl_ne {x r : Int} {lv : Nat} {l l' : List Od} (h : lvl x r lv l = some l') : l' ≠ [] := by
  obtain ⟨v, hv, _, rfl⟩ := lvl_some h
  obtain ⟨⟨o, ho, e⟩, _⟩ := (group_mem lv l v).1 hv
  exact List.ne_nil_of_mem (List.mem_filter.2 ⟨ho, decide_eq_true e⟩)
theorem lvls_none {x r : Int} {l l' : List Od} {n : Nat} (h : lvls x r n l = some l') (hn : lvl x r (n + 1) l' = none) (h3 : n < 3) : lvls x r 3 l = none := by
  have e : lvls x r (n + 1) l = none := by
    show (lvls x r n l).bind (lvl x r ((n + 1 : Nat))) = none
    rw [h]; exact hn
  have e2 : ∀ k, lvls x r (n + 1 + k) l = none := by
    intro k
    induction k with
    | zero => exact e
    | succ k ih =>
      show (lvls x r (n + 1 + k) l).bind _ = none
      rw [ih]; rfl
  have := e2 (2 - n)
  rwa [show n + 1 + (2 - n) = 3 by omega] at this
def put8 (w : World) (g : Nat) (o : Od) : World := (((((((w.setCell ⟨g, 0, none⟩ (.int .i64 o.f0)).setCell ⟨g, 1, none⟩ (.bool o.f1)).setCell ⟨g, 2, none⟩ (.bool o.f2)).setCell ⟨g, 3, none⟩ (.int .i64 o.f3)).setCell ⟨g, 4, none⟩ (.int .i64 o.f4)).setCell ⟨g, 5, none⟩ (.int .i64 o.f5)).setCell ⟨g, 6, none⟩ (.int .i64 o.f6)).setCell ⟨g, 7, none⟩ (.int .i64 o.f7)
theorem put8_arr (q o : Od) : ((((((((aggO q).setIfInBounds 0 (.int .i64 o.f0)).setIfInBounds 1 (.bool o.f1)).setIfInBounds 2 (.bool o.f2)).setIfInBounds 3 (.int .i64 o.f3)).setIfInBounds 4 (.int .i64 o.f4)).setIfInBounds 5 (.int .i64 o.f5)).setIfInBounds 6 (.int .i64 o.f6)).setIfInBounds 7 (.int .i64 o.f7) = aggO o := by
  simp [aggO]
theorem put8_blk {w : World} {g : Nat} {q : Od} (h : w.heap[g]? = some (.cells (aggO q) 40 (0, 0))) (o : Od) : (put8 w g o).heap[g]? = some (.cells (aggO o) 40 (0, 0)) := by
  rw [← put8_arr q o]
  exact blk_set (blk_set (blk_set (blk_set (blk_set (blk_set (blk_set (blk_set h 0 _) 1 _) 2 _) 3 _) 4 _) 5 _) 6 _) 7 _
theorem put8_below {B g : Nat} {w0 w : World} (h : Below B w0 w) (hg : B ≤ g) (o : Od) : Below B w0 (put8 w g o) :=
  (((((((h.setCell hg _).setCell hg _).setCell hg _).setCell hg _).setCell hg _).setCell hg _).setCell hg _).setCell hg _
theorem desc_lvls (x r : Int) (l : List Od) : desc x r l = (lvls x r 3 l).bind List.head? := rfl
def zeroA : Array Value := #[.int .i64 0, .bool false, .bool false, .int .i64 0, .int .i64 0, .int .i64 0, .int .i64 0, .int .i64 0]
def descV : Option Od → Value
  | some o => .tuple #[.agg (aggO o), .bool true]
  | none => .tuple #[.agg zeroA, .bool false]
set_option maxHeartbeats 4000000 in
set_option maxRecDepth 100000 in
theorem descend_calls (A : Option Addr) (c : Nat) (l : List Od) (x r : Int) (w : World) (hx : kO.C w A l.length l) (hg : GoodL l) :
    Calls Try.prog 42 #[.slice A l.length c, .int .u32 x, .int .u32 r] w fun e w' => e = .returned (descV (desc x r l)) ∧ Below w.heap.size w w' := by
  have HC := Lib.hid hx
  have HG := Lib.hid hg
  have HB0 := Lib.hid (below_alloc (below_alloc (Below.refl w.heap.size w) (.cells zeroA 40)) (.cells #[fvL 1, fvL 2, fvL 3] 72))
  clear hx hg
  go_enter Try.func42, Try.ntmps42
  go_wp2_with fail
  go_loopw [0, 14] (fun l0' i' wr => ∃ (n : Nat) (A' : Option Addr) (c' : Nat) (l' : List Od), l0' = .slice A' l'.length c' ∧ i' = .int .i64 n ∧ Hid (n ≤ 3) ∧ Hid (lvls x r n l = some l') ∧ Hid (GoodL l') ∧ Hid (kO.C wr A' l'.length l') ∧ Hid (wr.heap[w.heap.size]? = some (.cells (aggO ⟨0, false, false, 0, 0, 0, 0, 0⟩) 40 (0, 0))) ∧ Hid (wr.heap[w.heap.size + 1]? = some (.cells #[fvL 1, fvL 2, fvL 3] 72 (0, 0))) ∧ Hid (Below w.heap.size w wr)) (fun _ i' _ => (3 - intOf i').toNat)
  case atStart => exact ⟨0, A, c, l, rfl, rfl, Lib.hid (by omega), Lib.hid rfl, HG, Lib.hid (Kd.C_alloc (Kd.C_alloc HC.out _) _), Lib.hid (blk_below (blk_new _ _) (below_alloc (Below.refl _ _) _)), Lib.hid (by have h := blk_new (w.alloc (.cells zeroA 40)) (.cells #[fvL 1, fvL 2, fvL 3] 72); simp only [World.alloc, Array.size_push] at h ⊢; exact h), HB0⟩
  case round =>
    obtain ⟨n, A', c', l', rfl, rfl, HN, HLV, HG', HC', HRB, HFB, HB⟩ := hrel
    clear HC HG HB0
    have hn := HN.out
    by_cases h : n < 3
    · have hlt : decide ((n : Int) < 3) = true := decide_eq_true (by omega)
      have i0 : (0 : Int) ≤ n := by omega
      have i1 : (n : Int) < 3 := by omega
      have hlv : n + 1 = 1 ∨ n + 1 = 2 ∨ n + 1 = 3 := by omega
      have HLV3 := Lib.hid hlv
      have hn3 : Hid (n < 3) := Lib.hid h
      obtain ⟨kf, hfv⟩ : ∃ kf, kf = fnL (n + 1) := ⟨_, rfl⟩
      have hcf : wr.cell? ⟨w.heap.size + 1, n, none⟩ = some (.func (.func kf) #[] #[]) := by
        rw [blk_cell HFB.out, hfv]
        rcases hlv with h1 | h1 | h1
        · obtain rfl : n = 0 := by omega
          rfl
        · obtain rfl : n = 1 := by omega
          rfl
        · obtain rfl : n = 2 := by omega
          rfl
      have HFV := Lib.hid hfv
      have HBA := Lib.hid (below_alloc (Below.refl wr.heap.size wr) (.cells #[.func (.func kf) #[] #[]] 72))
      have HP1 : Hid ((wr.alloc (.cells #[.func (.func kf) #[] #[]] 72)).heap[wr.heap.size]? = some (.cells #[.func (.func kf) #[] #[]] 72 (0, 0))) := Lib.hid (blk_new _ _)
      have HB1 := Lib.hid (below_then HB.out HB.out.size HBA.out)
      have HC1 := Lib.hid (Kd.C_below HC'.out HBA.out)
      have HRB1 := Lib.hid (blk_below HRB.out HBA.out)
      have HFB1 := Lib.hid (blk_below HFB.out HBA.out)
      obtain ⟨w1, hw1⟩ : ∃ w1, w1 = wr.alloc (.cells #[.func (.func kf) #[] #[]] 72) := ⟨_, rfl⟩
      have T := Lib.hid (group_any (n + 1) hlv A' c' l' w1 (by rw [hw1]; exact HC1.out) HG'.out)
      rw [show fvL (n + 1) = .func (.func kf) #[] #[] by rw [hfv]] at T
      clear hfv hlv h
      go_wp2_with fail
      rw [← hw1] at HP1 HB1 HC1 HRB1 HFB1 ⊢
      obtain ⟨p, hp⟩ : ∃ p, p = wr.heap.size := ⟨_, rfl⟩
      rw [← hp] at HP1 ⊢
      clear hw1 hp hcf HBA HB HC' HRB HFB
      refine T.out.mono ?_
      rintro e w2 ⟨v, rfl, hR, hb⟩
      obtain ⟨GA, gc, rfl⟩ := Kd.R_slice hR
      have HGC := Lib.hid (Kd.R_reads' hR).2.2
      have HP2 := Lib.hid (blk_below HP1.out hb)
      have HB2 := Lib.hid (below_then HB1.out HB1.out.size hb)
      have HC2 := Lib.hid (Kd.C_below HC1.out hb)
      have HRB2 := Lib.hid (blk_below HRB1.out hb)
      have HFB2 := Lib.hid (blk_below HFB1.out hb)
      clear hR hb T HP1 HB1 HC1 HRB1 HFB1
      obtain ⟨G, hG⟩ : ∃ G, G = group (n + 1) l' := ⟨_, rfl⟩
      rw [← hG] at HGC ⊢
      have HGE := Lib.hid hG
      clear hG
      have HBA := Lib.hid (below_alloc (Below.refl w2.heap.size w2) (.cells #[.slice GA G.length gc] 80))
      have HQ3 : Hid ((w2.alloc (.cells #[.slice GA G.length gc] 80)).heap[w2.heap.size]? = some (.cells #[.slice GA G.length gc] 80 (0, 0))) := Lib.hid (blk_new _ _)
      have HP3 := Lib.hid (blk_below HP2.out HBA.out)
      have HB3 := Lib.hid (below_then HB2.out HB2.out.size HBA.out)
      have HC3 := Lib.hid (Kd.C_below HC2.out HBA.out)
      have HGC3 := Lib.hid (Kd.C_below HGC.out HBA.out)
      have HRB3 := Lib.hid (blk_below HRB2.out HBA.out)
      have HFB3 := Lib.hid (blk_below HFB2.out HBA.out)
      obtain ⟨w3, hw3⟩ : ∃ w3, w3 = w2.alloc (.cells #[.slice GA G.length gc] 80) := ⟨_, rfl⟩
      go_upto_region 5 with fail
      rw [← hw3] at HQ3 HP3 HB3 HC3 HGC3 HRB3 HFB3 ⊢
      obtain ⟨q, hq⟩ : ∃ q, q = w2.heap.size := ⟨_, rfl⟩
      rw [← hq] at HQ3 ⊢
      clear hw3 hq HBA HP2 HB2 HC2 HGC HRB2 HFB2
      go_cut [11] from 15 to 37 (fun s11 wx => ∃ R, s11 = .pointer (some ⟨R, 0, none⟩) ∧ wx.heap[R]? = some (.cells #[.int .i64 (pick (h2I x ((n : Int) + 1)) r G)] 3 (0, 0)) ∧ Below w3.heap.size w3 wx)
      case first =>
        have hcq := blk_cell HQ3.out 0
        have hcq2 := cell_alloc hcq (.cells #[.int .i64 0] 3)
        have kw : IntKind.i64.wrap ((n : Int) + 1) = (n : Int) + 1 := IntWalk.i64_in _ (by omega)
        have ku : IntKind.u32.wrap ((n : Int) + 1) = (n : Int) + 1 := by
          have h1 : (n : Int) + 1 = 1 ∨ (n : Int) + 1 = 2 ∨ (n : Int) + 1 = 3 := by omega
          rcases h1 with h | h | h <;> rw [h] <;> rfl
        go_region_with (first | (go_at_call 65; refine (hash2_calls _ _ _).mono ?_; rintro e w5 ⟨rfl, rfl⟩) | (go_at_call 74; refine (choose_calls GA gc G _ _ _ (by first | exact HGC3.out | exact Kd.C_alloc HGC3.out _)).mono ?_; rintro e w5 ⟨rfl, hb⟩; (first | (have HW5 : Hid (Below w3.heap.size w3 w5) := Lib.hid (below_then (below_drew (Below.refl _ _)) (Nat.le_refl _) hb)) | (have hz : w5.heap[w3.heap.size]? = some (.cells #[.int .i64 0] 3 (0, 0)) := blk_below (by exact blk_new w3 (.cells #[.int .i64 0] 3)) hb; have HZ := Lib.hid hz; have hzc := blk_cell hz 0; have hzf := blk_frozen hz 0; have HW5 : Hid (Below w3.heap.size w3 w5) := Lib.hid (below_then (below_drew (below_alloc (Below.refl _ _) _)) (below_drew (below_alloc (Below.refl _ _) _)).size hb); clear hz)); clear hb))
        all_goals (go_wp2_with fail; go_meet; (first | exact ⟨w3.heap.size, rfl, blk_put HZ.out 0 _ rfl, HW5.out.setCell (Nat.le_refl _) _⟩ | exact ⟨w5.heap.size, rfl, blk_new _ _, below_alloc HW5.out _⟩))
      case rest =>
        obtain ⟨R, rfl, hR, hb⟩ := hcut
        have HR4 := Lib.hid hR
        have HQ4 := Lib.hid (blk_below HQ3.out hb)
        have HP4 := Lib.hid (blk_below HP3.out hb)
        have HB4 := Lib.hid (below_then HB3.out HB3.out.size hb)
        have HC4 := Lib.hid (Kd.C_below HC3.out hb)
        have HGC4 := Lib.hid (Kd.C_below HGC3.out hb)
        have HRB4 := Lib.hid (blk_below HRB3.out hb)
        have HFB4 := Lib.hid (blk_below HFB3.out hb)
        clear hR hb HQ3 HP3 HB3 HC3 HGC3 HRB3 HFB3
        have hcr := blk_cell HR4.out 0
        obtain ⟨pv, hpv⟩ : ∃ pv, pv = pick (h2I x ((n : Int) + 1)) r G := ⟨_, rfl⟩
        have HBE := Lib.hid (pick_best (h2I x ((n : Int) + 1)) r G)
        rw [← hpv] at HR4 hcr HBE
        have HPV := Lib.hid hpv
        clear hpv
        by_cases hneg : pv < 0
        · have hd : decide (pv < 0) = true := decide_eq_true hneg
          have HNE := Lib.hid hneg
          obtain ⟨y0, y1, y2, y3, y4, y5, y6, y7⟩ := blkO (o := ⟨0, false, false, 0, 0, 0, 0, 0⟩) HRB4.out
          have f0 := blk_frozen HRB4.out 0
          have f1 := blk_frozen HRB4.out 1
          have f2 := blk_frozen HRB4.out 2
          have f3 := blk_frozen HRB4.out 3
          have f4 := blk_frozen HRB4.out 4
          have f5 := blk_frozen HRB4.out 5
          have f6 := blk_frozen HRB4.out 6
          have f7 := blk_frozen HRB4.out 7
          clear hneg
          have HF := Lib.hid (put8_blk HRB4.out ⟨0, false, false, 0, 0, 0, 0, 0⟩)
          have HBF := Lib.hid (put8_below HB4.out (Nat.le_refl _) ⟨0, false, false, 0, 0, 0, 0, 0⟩)
          obtain ⟨wf, hwf⟩ : ∃ wf, wf = put8 wc w.heap.size ⟨0, false, false, 0, 0, 0, 0, 0⟩ := ⟨_, rfl⟩
          rw [← hwf] at HF HBF
          simp only [put8] at hwf
          go_wp2_with fail
          rw [← hwf]
          clear hwf
          clear y0 y1 y2 y3 y4 y5 y6 y7 f0 f1 f2 f3 f4 f5 f6 f7
          refine bodyPost_ret (results_ct rfl _ _ w.heap.size 40 (aggO ⟨0, false, false, 0, 0, 0, 0, 0⟩) (0, 0) _ rfl HF.out Try.underlying40 rfl (by kernel_rfl)) rfl ?_
          refine ⟨?_, HBF.out⟩
          rw [desc_lvls, lvls_none HLV.out (by unfold lvl; rw [← HGE.out, if_pos]; rw [show (((n + 1 : Nat)) : Int) = (n : Int) + 1 from by omega, ← HPV.out]; exact HNE.out) hn3.out]
          rfl
        · have hd : decide (pv < 0) = false := decide_eq_false hneg
          have HNE := Lib.hid hneg
          clear hneg
          have T := Lib.hid (clone_calls A' c' l' wc HC4.out HG'.out.len)
          go_wp2_with fail
          refine T.out.mono ?_
          rintro e w5 ⟨v5, rfl, hR5, hb5⟩
          have HT : Hid (∃ i : Nat, ∃ vv, pv = i ∧ G[i]? = some vv) := Lib.hid (by
            have := best_range HBE.out
            have := HNE.out
            obtain ⟨i, hi⟩ := Int.eq_ofNat_of_zero_le (show 0 ≤ pv by omega)
            exact ⟨i, G[i]'(by omega), hi, List.getElem?_eq_getElem _⟩)
          obtain ⟨i, vv, hi, hvv⟩ := HT.out
          subst hi
          have HT2 : Hid (Tells wc p q R fun o => !decide (keyN (n + 1) o = vv.id)) := Lib.hid (fun W o hb => tells_any (n + 1) HLV3.out W p q R GA gc i G vv o (by rw [blk_cell (blk_below HP4.out hb) 0, HFV.out]; rfl) (by rw [blk_cell (blk_below HQ4.out hb) 0]; rfl) (by rw [blk_cell (blk_below HR4.out hb) 0]; rfl) (Kd.C_below HGC4.out hb) hvv)
          have T2 := Lib.hid (delete_calls p q R _ v5 l' wc w5 HT2.out hR5 hb5 HG'.out.len)
          clear T HT hR5 hb5
          go_wp2_with fail
          refine T2.out.mono ?_
          rintro e w6 ⟨v6, rfl, hR6, hb6⟩
          simp only [Bool.not_not] at hR6
          obtain ⟨A6, c6, rfl⟩ := Kd.R_slice hR6
          have HC6 := Lib.hid (Kd.R_reads' hR6).2.2
          have HRB6 := Lib.hid (blk_below HRB4.out hb6)
          have HFB6 := Lib.hid (blk_below HFB4.out hb6)
          have HB6 := Lib.hid (below_then HB4.out HB4.out.size hb6)
          have HLN : Hid (lvls x r (n + 1) l = some (l'.filter fun o => decide (keyN (n + 1) o = vv.id))) := Lib.hid (by
            show (lvls x r n l).bind (lvl x r ((n + 1 : Nat))) = _
            rw [HLV.out]
            show lvl x r (n + 1) l' = _
            unfold lvl
            rw [← HGE.out, show (((n + 1 : Nat)) : Int) = (n : Int) + 1 from by omega, ← HPV.out, if_neg (by omega), show ((i : Nat) : Int).toNat = i from rfl, List.getD_eq_getElem?_getD, hvv]
            rfl)
          clear hR6 hb6 T2 HT2 HP4 HQ4 HR4 HB4 HC4 HGC4 HRB4 HFB4 hcr
          go_wp2_with fail
          go_roundw
          case rel =>
            exact ⟨n + 1, A6, c6, l'.filter fun o => decide (keyN (n + 1) o = vv.id), rfl, by go_num, Lib.hid (by omega), HLN, Lib.hid (HG'.out.filter _), HC6, HRB6, HFB6, HB6⟩
          case measure => simp only [intOf]; omega
    · obtain rfl : n = 3 := by omega
      have hne := lvl_ne (lv := 3) (l := ((lvls x r 2 l).getD [])) (x := x) (r := r) (l' := l') (by
        have e := HLV.out
        cases h2 : lvls x r 2 l with
        | none => rw [show lvls x r 3 l = (lvls x r 2 l).bind (lvl x r 3) from rfl, h2] at e; cases e
        | some m => rw [show lvls x r 3 l = (lvls x r 2 l).bind (lvl x r 3) from rfl, h2] at e; exact e)
      have hpos : 0 < l'.length := List.length_pos_iff.2 hne
      have hlt : decide ((3 : Int) < 3) = false := decide_eq_false (by omega)
      have hlt2 : decide (0 < l'.length) = true := decide_eq_true hpos
      obtain ⟨ad, o, ho, rfl, a0, a1, a2, a3, a4, a5, a6, a7⟩ := at_O HC'.out 0 hpos
      have had : ad.add (0 * 8) = ad := by cases ad; rfl
      rw [had] at a0 a1 a2 a3 a4 a5 a6 a7
      have HO := Lib.hid ho
      obtain ⟨y0, y1, y2, y3, y4, y5, y6, y7⟩ := blkO (o := ⟨0, false, false, 0, 0, 0, 0, 0⟩) HRB.out
      have f0 := blk_frozen HRB.out 0
      have f1 := blk_frozen HRB.out 1
      have f2 := blk_frozen HRB.out 2
      have f3 := blk_frozen HRB.out 3
      have f4 := blk_frozen HRB.out 4
      have f5 := blk_frozen HRB.out 5
      have f6 := blk_frozen HRB.out 6
      have f7 := blk_frozen HRB.out 7
      have HF := Lib.hid (put8_blk HRB.out o)
      have HBF := Lib.hid (put8_below HB.out (Nat.le_refl _) o)
      obtain ⟨wf, hwf⟩ : ∃ wf, wf = put8 wr w.heap.size o := ⟨_, rfl⟩
      rw [← hwf] at HF HBF
      simp only [put8] at hwf
      have HNN := Lib.hid hne
      clear hne ho h
      go_wp2_with fail
      rw [← hwf]
      clear hwf
      refine bodyPost_ret (results_ct rfl _ _ w.heap.size 40 (aggO o) (0, 0) _ rfl HF.out Try.underlying40 rfl (by kernel_rfl)) rfl ?_
      refine ⟨?_, HBF.out⟩
      rw [desc_lvls, HLV.out]
      show _ = Ending.returned (descV l'.head?)
      rw [List.head?_eq_getElem?, HO.out]
      rfl
end Go.Proofs.Ytnpphmgibgfjoaa.Dsc
/- atlas.Check as one contract; the functions of layer 17 that lie over it. -/
namespace Go.Proofs.Ytnpphmgibgfjoaa.AtB
open Go Go.RowKit Go.Proofs.YtnpphmgibgfjoaaW.PrintWords Go.Proofs.YtnpphmgibgfjoaaW.PrintMore Mem PAll KW MixP MixW StrP StrW AtA Srt Grp Sl Dsc
open CrP hiding Od
/-- What every OSD of a list is good for: the numbers are Go's. -/
def WfL (l : List Od) : Prop := ∀ o ∈ l, (Lit.int .i64 o.f0).wf = true ∧ (Lit.int .i64 o.f6).wf = true ∧ (Lit.int .i64 o.f7).wf = true
theorem check_calls (ep k m p d : Int) (A : Option Addr) (c : Nat) (l : List Od) (w : World) (hx : kO.C w A l.length l) (hwf : WfL l) :
    Calls Try.prog 40 #[.agg (boxM ep k m p d A c l)] w fun e w' => e = .returned (.int .i64 (if mayB ep k m p d l = true then 0 else 1)) ∧ Below w.heap.size w w' := by
  cases h0 : winB ep 1048576 with
  | false =>
    have e : mayB ep k m p d l = false := by unfold mayB; rw [h0]; rfl
    rw [e]; exact check_ep ep k m p d A c l w h0
  | true =>
    cases h1 : poolB k m p d with
    | false =>
      have e : mayB ep k m p d l = false := by unfold mayB; rw [h0, h1]; rfl
      rw [e]; exact check_pool ep k m p d A c l w h0 h1
    | true =>
      by_cases h2 : l.length ≤ 64
      · have e : mayB ep k m p d l = goodB l := by unfold mayB; rw [h0, h1, decide_eq_true h2]; rfl
        rw [e]
        refine (check_loop ep k m p d A c l w h0 h1 h2 hx (fun o ho => (hwf o ho).2.1) (fun o ho => (hwf o ho).2.2)).mono ?_
        rintro e w1 ⟨rfl, hb⟩
        exact ⟨rfl, hb⟩
      · have e : mayB ep k m p d l = false := by unfold mayB; rw [h0, h1, decide_eq_false h2]; rfl
        rw [e]; exact check_many ep k m p d A c l w h0 h1 (by omega) hx.2.1
theorem may_good {ep k m p d : Int} {l : List Od} (h : mayB ep k m p d l = true) : l.length ≤ 64 ∧ goodB l = true := by
  unfold mayB at h
  simp only [Bool.and_eq_true, decide_eq_true_eq] at h
  exact ⟨h.2.2.1, h.2.2.2⟩
theorem osd_ranges {o : Od} (h : osdB o = true) : (0 ≤ o.f0 ∧ o.f0 ≤ 999) ∧ (0 ≤ o.f6 ∧ o.f6 ≤ 999) ∧ (0 ≤ o.f7 ∧ o.f7 ≤ 999) ∧ (0 ≤ o.f3 ∧ o.f3 ≤ 16777216) := by
  unfold osdB winB at h
  simp only [Bool.and_eq_true, decide_eq_true_eq] at h
  omega
theorem may_osd {ep k m p d : Int} {l : List Od} (h : mayB ep k m p d l = true) : ∀ o ∈ l, osdB o = true := by
  intro o ho
  obtain ⟨i, hi, e⟩ := List.mem_iff_getElem.1 ho
  exact ((goodB_iff.1 (may_good h).2) i o hi (by rw [List.getElem?_eq_getElem hi, e])).1
theorem may_goodL {ep k m p d : Int} {l : List Od} (h : mayB ep k m p d l = true) : GoodL l := by
  refine ⟨(may_good h).1, fun o ho => ?_, fun o ho lv => ?_⟩
  · have := osd_ranges (may_osd h o ho)
    unfold wOf
    split <;> omega
  · have := osd_ranges (may_osd h o ho)
    unfold keyN
    split
    · exact wf_range (by omega) (by omega)
    · split <;> exact wf_range (by omega) (by omega)
end Go.Proofs.Ytnpphmgibgfjoaa.AtB
/- crush.of and crush.Room. -/
namespace Go.Proofs.Ytnpphmgibgfjoaa.Roo
open Go Go.RowKit Go.Proofs.YtnpphmgibgfjoaaW.PrintWords Go.Proofs.YtnpphmgibgfjoaaW.PrintMore Mem PAll KW MixP MixW StrP StrW AtA Srt Grp Sl Dsc AtB
open CrP hiding Od
theorem eql_func_nil (w : World) (f : Fn) (a b : Array Value) : (binOp .eql 72 (.func f a b) .nilFunc).run Try.prog w = .ok (.bool false) w := by
  have h : ∀ d : Nat, (Op.equalIn (d + 1) 72 (.func f a b) .nilFunc).run Try.prog w = .ok false w := fun d => by
    simp [Op.equalIn, run_underlying Try.underlying72]
  simp only [binOp]
  simp [Op.equal, Op.maxDepth, h 9999]
def domL (d : Int) : Nat := if d = 0 then 3 else if d = 1 then 2 else 1
def domB (d : Int) : Bool := d == 0 || d == 1 || d == 2
def ofV (d : Int) : Value := if domB d = true then fvL (domL d) else .nilFunc
theorem of_calls (d : Int) (w : World) : Calls Try.prog 39 #[.int .i64 d] w fun e w' => e = .returned (ofV d) ∧ w = w' := by
  unfold ofV domB domL
  by_cases h0 : d = 0
  · subst h0
    go_enter Try.func39, Try.ntmps39
    go_wp2_with fail
    go_ret
    exact ⟨rfl, rfl⟩
  · by_cases h1 : d = 1
    · subst h1
      go_enter Try.func39, Try.ntmps39
      go_wp2_with fail
      go_ret
      exact ⟨rfl, rfl⟩
    · by_cases h2 : d = 2
      · subst h2
        go_enter Try.func39, Try.ntmps39
        go_wp2_with fail
        go_ret
        exact ⟨rfl, rfl⟩
      · have b0 : (d == 0) = false := beq_eq_false_iff_ne.2 h0
        have b1 : (d == 1) = false := beq_eq_false_iff_ne.2 h1
        have b2 : (d == 2) = false := beq_eq_false_iff_ne.2 h2
        have HE : Hid ((if (d == 0 || d == 1 || d == 2) = true then fvL (if d = 0 then 3 else if d = 1 then 2 else 1) else .nilFunc) = Value.nilFunc) := Lib.hid (by rw [b0, b1, b2]; rfl)
        rw [HE.out]
        clear HE h0 h1 h2
        go_enter Try.func39, Try.ntmps39
        go_wp2_with fail
        go_ret
        exact ⟨rfl, rfl⟩
theorem domL_any (d : Int) : domL d = 1 ∨ domL d = 2 ∨ domL d = 3 := by
  unfold domL
  split
  · exact .inr (.inr rfl)
  · split
    · exact .inr (.inl rfl)
    · exact .inl rfl
end Go.Proofs.Ytnpphmgibgfjoaa.Roo
/- slices.Repeat of one hole. -/
namespace Go.Proofs.Ytnpphmgibgfjoaa.Rep
open Go Go.RowKit Go.Proofs.YtnpphmgibgfjoaaW.PrintWords Go.Proofs.YtnpphmgibgfjoaaW.PrintMore Mem PAll AtA
abbrev holes (n k : Nat) : Array Value := (List.replicate k (Value.int .i64 (-1)) ++ List.replicate (n - k) (Value.int .i64 0)).toArray
theorem made_holes (n : Nat) : madeCells (Value.int .i64 0).cells n = holes n 0 := by
  have h := toList_madeCells_one (Value.int .i64 0) n
  rw [← Array.toArray_toList (xs := madeCells (Value.int .i64 0).cells n)]
  show ((madeCells #[Value.int .i64 0] n).toList).toArray = _
  rw [h]
  simp [holes]
theorem infoI : (Try.prog.info? 3).map (fun i => (i.zero, i.size, i.bytes)) = some (some (.int .i64 0), 1, 8) := by kernel_rfl
theorem make_run (n : Nat) (hn : n ≤ 32) (w : World) : (Instr.makeSlice 33 (.int .i64 n) (.int .i64 n)).run Try.prog w = .ok (.slice (some ⟨w.heap.size, 0, none⟩) n n) (w.alloc (.cells (holes n 0) 3)) := by
  have hi := infoI
  cases h : Try.prog.info? 3 with
  | none => rw [h] at hi; cases hi
  | some i =>
    rw [h] at hi
    simp only [Option.map_some, Option.some.injEq, Prod.mk.injEq] at hi
    have e := run_makeSlice (P := Try.prog) (w := w) 33 3 i (.int .i64 0) Try.underlying33 h hi.1 .i64 .i64 (n : Int) (n : Int) (by omega) (Int.le_refl _) (by rw [hi.2.1]; simp; omega) (by rw [hi.2.2]; omega) (by omega)
    rw [hi.2.1] at e
    simp only [Int.toNat_natCast, Nat.mul_one] at e
    rw [e, made_holes]
theorem copy_hole {W : World} {g n k m : Nat} (hh : W.heap[g]? = some (.cells (holes n k) 3 (0, 0))) (hkm : k + m ≤ n) (a : Addr) (ha : ∀ j, j < m → W.cell? (a.add j) = some (.int .i64 (-1))) (sl sc dc : Nat) (hm : m = Nat.min sl (n - k)) (ty : TypeId) :
    (Builtin.copy_ #[33, 33] ty #[.slice (some ⟨g, k, none⟩) (n - k) dc, .slice (some a) sl sc]).run Try.prog W = .ok (.int .i64 m) (W.setRow g (holes n (k + m))) := by
  have hsz : (holes n k).size = n := by simp; omega
  have e := run_copy_row (P := Try.prog) W 33 33 ty 3 g k (n - k) dc a sl sc (holes n k) 3 (List.replicate m (.int .i64 (-1))) Try.underlying33 (by have := infoI; cases h : Try.prog.info? 3 with | none => rw [h] at this; cases this | some i => rw [h] at this; simp only [Option.map_some, Option.some.injEq, Prod.mk.injEq] at this; simp [this.2.1]) hh (by simpa using hm)
    (fun j v hj => by
      have hjm : j < m := by have := (List.getElem?_eq_some_iff.1 hj).1; simpa using this
      rw [List.getElem?_replicate, if_pos hjm] at hj
      rw [ha j hjm, hj]) (by rw [hsz, List.length_replicate]; exact hkm) (fun v hv => by rw [List.eq_of_mem_replicate hv]; rfl)
  rw [e]
  have e2 : ((holes n k).toList.take k ++ List.replicate m (Value.int .i64 (-1)) ++ (holes n k).toList.drop (k + (List.replicate m (Value.int .i64 (-1))).length)).toArray = holes n (k + m) := by
    refine congrArg List.toArray ?_
    simp only [List.length_replicate]
    rw [List.take_left' (by simp), List.drop_append, List.drop_replicate, List.drop_replicate]
    simp only [List.length_replicate]
    rw [show k - (k + m) = 0 by omega, List.replicate_zero, List.nil_append, show n - k - (k + m - k) = n - (k + m) by omega, ← List.replicate_append_replicate]
  rw [e2]
  simp [goInt]
set_option maxHeartbeats 1600000 in
set_option maxRecDepth 100000 in
theorem repeat_calls (g0 n : Nat) (w : World) (hg : w.heap[g0]? = some (.cells #[.int .i64 (-1)] 3 (0, 0))) (hn : 1 ≤ n) (hn2 : n ≤ 32) :
    Calls Try.prog 41 #[.slice (some ⟨g0, 0, none⟩) 1 1, .int .i64 n] w fun e w' => ∃ g, e = .returned (.slice (some ⟨g, 0, none⟩) n n) ∧ w.heap.size ≤ g ∧ w'.heap[g]? = some (.cells (Array.replicate n (.int .i64 (-1))) 3 (0, 0)) ∧ Below w.heap.size w w' := by
  have HG := Lib.hid hg
  have HN := Lib.hid hn
  have HN2 := Lib.hid hn2
  have T := Lib.hid (Try.bits_Mul 1 n (by decide) (by omega) w)
  rw [show 1 * n / 18446744073709551616 = 0 by omega, show 1 * n % 18446744073709551616 = n by omega] at T
  have k1 : IntKind.u64.wrap 1 = 1 := rfl
  have k2 : IntKind.u64.wrap (n : Int) = n := by rw [IntKind.wrap_u64]; omega
  have k3 : IntKind.i64.wrap (n : Int) = n := IntWalk.i64_in _ (by omega)
  have d1 : decide ((n : Int) < 0) = false := decide_eq_false (by omega)
  have d2 : decide (9223372036854775807 < (n : Int)) = false := decide_eq_false (by omega)
  clear hg hn hn2
  go_enter Try.func41, Try.ntmps41
  go_wp2_with fail
  refine T.out.mono ?_
  rintro e w1 ⟨rfl, rfl⟩
  clear T
  have hmk := make_run n HN2.out w1
  have HH1 : Hid ((w1.alloc (.cells (holes n 0) 3)).heap[w1.heap.size]? = some (.cells (holes n 0) 3 (0, 0))) := Lib.hid (blk_new _ _)
  have HB1 := Lib.hid (below_alloc (Below.refl w1.heap.size w1) (.cells (holes n 0) 3))
  have hcp := fun ty => copy_hole HH1.out (k := 0) (m := 1) (by have := HN.out; omega) ⟨g0, 0, none⟩ (fun j hj => by
    obtain rfl : j = 0 := by omega
    exact blk_cell (blk_below HG.out HB1.out) 0) 1 1 n (by rw [Nat.sub_zero]; exact (Nat.min_eq_left HN.out).symm) ty
  rw [Nat.sub_zero, Nat.zero_add] at hcp
  have HH2 := Lib.hid (setRow_heap _ w1.heap.size (holes n 0) (holes n 1) 3 (0, 0) HH1.out)
  have HB2 := Lib.hid (below_setRow HB1.out (Nat.le_refl _) (holes n 1))
  go_wp2_with fail
  obtain ⟨g, hg⟩ : ∃ g, g = w1.heap.size := ⟨_, rfl⟩
  obtain ⟨w2, hw2⟩ : ∃ w2, w2 = (w1.alloc (.cells (holes n 0) 3)).setRow w1.heap.size (holes n 1) := ⟨_, rfl⟩
  rw [← hw2] at HH2 HB2 ⊢
  rw [← hg] at HH2 ⊢
  have HGE := Lib.hid hg
  clear hw2 hg hcp hmk HH1 HB1
  go_loopw [8] (fun v8 wr => ∃ k : Nat, v8 = .int .i64 k ∧ Hid (1 ≤ k ∧ k ≤ n) ∧ Hid (wr.heap[g]? = some (.cells (holes n k) 3 (0, 0))) ∧ Hid (Below w1.heap.size w1 wr)) (fun v8 _ => (n - intOf v8).toNat)
  case atStart => exact ⟨1, rfl, Lib.hid ⟨Nat.le_refl _, HN.out⟩, HH2, HB2⟩
  case round =>
    obtain ⟨k, rfl, HK, HH, HB⟩ := hrel
    clear HH2 HB2
    have hk := HK.out
    by_cases h : k < n
    · have hlt : decide ((k : Int) < (n : Int)) = true := decide_eq_true (by omega)
      have hlt2 : decide (k < n) = true := decide_eq_true h
      have k0 : (0 : Int) ≤ k := by omega
      have kn : (k : Int) ≤ n := by omega
      obtain ⟨m, hm⟩ : ∃ m, m = Nat.min k (n - k) := ⟨_, rfl⟩
      have hm1 : 1 ≤ m ∧ m ≤ k ∧ k + m ≤ n := by
        have := Nat.min_le_left k (n - k)
        have := Nat.min_le_right k (n - k)
        have e : Nat.min k (n - k) = min k (n - k) := rfl
        omega
      have hcp := fun ty => copy_hole (W := wr.drew) (g := g) (n := n) (k := k) (m := m) HH.out hm1.2.2 ⟨g, 0, none⟩ (fun j hj => by
        have e : wr.drew.cell? ⟨g, j, none⟩ = (holes n k)[j]? := blk_cell (w := wr.drew) HH.out j
        rw [add_plain, e]
        simp only [holes, List.getElem?_toArray]
        rw [List.getElem?_append_left (by simp; omega), List.getElem?_replicate, if_pos (by omega)]) k n (n - k) hm ty
      have kw : IntKind.i64.wrap ((k : Int) + m) = (k : Int) + m := IntWalk.i64_in _ (by have := HN2.out; omega)
      have HM := Lib.hid hm1
      have hnk : ¬ n = k := by omega
      clear hm hm1 h
      go_wp2_with fail
      go_region_with fail
      all_goals (go_wp2_with fail; go_roundw)
      case rel =>
        have hm1 := HM.out
        have hge : w1.heap.size ≤ g := by rw [HGE.out]; exact Nat.le_refl _
        (repeat apply Exists.intro)
        exact ⟨⟨k + m, by go_num, Lib.hid (by omega), Lib.hid (setRow_heap _ g (holes n k) (holes n (k + m)) 3 (0, 0) HH.out), Lib.hid (below_setRow (below_drew HB.out) hge _)⟩, rfl⟩
      case measure =>
        have hm1 := HM.out
        have e1 : ((n : Int) - (k + m)).toNat < ((n : Int) - k).toNat := by omega
        first
          | exact e1
          | (have e2 : ((n : Int) - IntKind.i64.wrap ((k : Int) + m)).toNat < ((n : Int) - k).toNat := by rw [kw]; exact e1
             exact e2)
    · obtain rfl : k = n := by omega
      have hlt : decide ((k : Int) < (k : Int)) = false := decide_eq_false (by omega)
      have hlt2 : decide (k < k) = false := decide_eq_false (by omega)
      go_wp2_with fail
      go_ret
      refine ⟨g, rfl, by rw [HGE.out]; exact Nat.le_refl _, ?_, HB.out⟩
      have e := HH.out
      rw [show holes k k = Array.replicate k (.int .i64 (-1)) by simp [holes]] at e
      exact e
end Go.Proofs.Ytnpphmgibgfjoaa.Rep
