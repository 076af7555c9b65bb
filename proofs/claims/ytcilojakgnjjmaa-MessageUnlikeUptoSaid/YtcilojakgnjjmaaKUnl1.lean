import Derived.Test.YtcilojakgnjjmaaRows
import Derived.Test.YtcilojakgnjjmaaWWords
import Derived.SizedLaws
import Derived.ChangeArms
import Derived.Deep.Slices
import Derived.Test.YtcilojakgnjjmaaPAllx1
import Derived.Test.YtcilojakgnjjmaaPAllx2
import Derived.Test.YtcilojakgnjjmaaPAllx3
import Derived.WalkKit
import Derived.WalkSpells
import Derived.Lib.Hide
import Derived.Deep.DeepMust
import Derived.Lib.LazyBuf
import Derived.ArgAppend
import Derived.Test.YtcilojakgnjjmaaProg
import Derived.BigQuiet
import Derived.Deep.RegionWith
import Derived.Lib.ConvBytes
import Derived.Laws.BytesArg
import Derived.Laws.BitsLemmas
import Derived.Laws.Bits64
import Derived.Laws.BitsAllLaws
import Derived.Test.YtcilojakgnjjmaaWLast
import Derived.Test.YtcilojakgnjjmaaWMore
import Derived.Defers
import Derived.Recover
/- Merged texts, one behind the other: Open, MeP, MeM, MeN, Mem, WireP, UvW, MeA, MeT, VrW, MeS, MeU, MeE, Stb, MeV, MeX, MeC, MeK, MeW, MeQ, MeR. -/
/- How an argument that is read as data is told by a kind of the words: what a row's proof needs of each type. -/
namespace Go.Proofs.Ytcilojakgnjjmaa.Opns
open Go.RowKit Go.Proofs.YtcilojakgnjjmaaW.PrintWords Go.Deep

theorem one_le {H : Type} (d : DataW H) : 1 ≤ Rows.uptoBulk d := by
  cases d with
  | lit l => cases l <;> simp [Rows.uptoBulk]
  | nil => simp [Rows.uptoBulk]
  | ptr d => simp [Rows.uptoBulk]
  | slice elems spare => simp [Rows.uptoBulk]
  | agg parts => simp [Rows.uptoBulk]
  | iface t d => simp [Rows.uptoBulk]
  | map entries => simp [Rows.uptoBulk]
  | held h => simp [Rows.uptoBulk]
theorem mem_all {H : Type} {P : Program} {e : TypeId} {x : DataW H} {n : Nat} : ∀ {xs : List (DataW H)}, x ∈ xs → n ∈ x.weights P e → n ∈ DataW.weightsAll P e xs
  | [], hx, _ => by cases hx
  | y :: r, hx, hn => by
    simp only [DataW.weightsAll, List.mem_append]
    rcases List.mem_cons.1 hx with rfl | hx
    · exact .inl hn
    · exact .inr (mem_all hx hn)

/-- What is read at type t is of kind d: good, and of no more bulk than its reading. -/
structure Opens {α : Type} (t : TypeId) (d : Kd α) (good : α → Prop) (bulk : α → Nat) : Prop where
  out : ∀ {H : Type} (enc : TypeId × Value → H) (w : World) (fuel : Nat) (cs : List Value) (y : DataW H) (ps : List MemPlace),
    DataW.trod enc Try.prog w 0 (fun _ => true) true fuel t cs = some (y, ps) → (∀ m ∈ y.weights Try.prog t, m ≤ reachBytes) → ∃ x, d.K w x cs ∧ good x ∧ bulk x ≤ Rows.uptoBulk y

theorem Opens.imp {α : Type} {t : TypeId} {d : Kd α} {good good' : α → Prop} {bulk bulk' : α → Nat} (h : Opens t d good bulk) (hg : ∀ x, good x → good' x) (hb : ∀ x, bulk' x ≤ bulk x) : Opens t d good' bulk' := by
  refine ⟨?_⟩
  intro H enc w fuel cs y ps h1 hw
  obtain ⟨x, a, b, c⟩ := h.out enc w fuel cs y ps h1 hw
  exact ⟨x, a, hg x b, Nat.le_trans (hb x) c⟩
theorem opens_int {t : TypeId} {k : IntKind} (ht : Try.prog.underlying t = some (.int k)) : Opens t (Kd.int k) (fun n => (Lit.int k n).wf = true) (fun _ => 1) := by
  refine ⟨?_⟩
  intro H enc w fuel cs y ps h _
  obtain ⟨n, rfl, hx, hw⟩ := DataW.trod_int ht h
  exact ⟨n, rfl, hw, one_le _⟩
theorem opens_bool {t : TypeId} (ht : Try.prog.underlying t = some .bool) : Opens t Kd.bool (fun _ => True) (fun _ => 1) := by
  refine ⟨?_⟩
  intro H enc w fuel cs y ps h _
  obtain ⟨n, rfl, hx⟩ := DataW.trod_bool ht h
  exact ⟨n, rfl, trivial, one_le _⟩
theorem opens_string {t : TypeId} (ht : Try.prog.underlying t = some .string) : Opens t Kd.string (fun s => s.size ≤ reachBytes) (fun s => s.size + 1) := by
  refine ⟨?_⟩
  intro H enc w fuel cs y ps h hw
  obtain ⟨n, rfl, hx, _⟩ := DataW.trod_string ht h
  obtain ⟨rfl, rfl⟩ := Prod.mk.inj hx
  refine ⟨n, rfl, ?_, ?_⟩
  · have := hw n.data.toList.length (by simp [DataW.weights])
    rwa [data_length] at this
  · simp only [Rows.uptoBulk]
    rw [data_length]
    exact Nat.le_refl _
def lbulk {α : Type} (b : α → Nat) (xs : List α) : Nat := (xs.map b).foldr (· + ·) 0
theorem lbulk_cons {α : Type} (b : α → Nat) (x : α) (xs : List α) : lbulk b (x :: xs) = b x + lbulk b xs := rfl
theorem lbulk_ge {α : Type} (b : α → Nat) {x : α} {xs : List α} (h : x ∈ xs) : b x ≤ lbulk b xs := by
  induction xs with
  | nil => cases h
  | cons y r ih =>
    rw [lbulk_cons]
    rcases List.mem_cons.1 h with rfl | h
    · omega
    · have := ih h; omega
theorem lbulk_len {α : Type} (b : α → Nat) (hb : ∀ x, 1 ≤ b x) (xs : List α) : xs.length ≤ lbulk b xs := by
  induction xs with
  | nil => simp
  | cons y r ih => rw [lbulk_cons, List.length_cons]; have := hb y; omega
theorem lbulk_le {α : Type} {H : Type} (b : α → Nat) : ∀ (xs : List α) (ys : List (DataW H)), xs.length = ys.length → (∀ (i : Nat) (x : α) (y : DataW H), xs[i]? = some x → ys[i]? = some y → b x ≤ Rows.uptoBulk y) → lbulk b xs ≤ Rows.uptoBulkAll ys
  | [], _, _, _ => by simp [lbulk]
  | x :: xs, [], h, _ => by simp at h
  | x :: xs, y :: ys, h, k => by
    rw [lbulk_cons]
    simp only [Rows.uptoBulkAll]
    have h1 := k 0 x y rfl rfl
    have h2 := lbulk_le b xs ys (by simpa using h) (fun i a c ha hc => k (i + 1) a c (by simpa using ha) (by simpa using hc))
    omega
theorem opens_slice {α : Type} [Inhabited α] {t e : TypeId} {d : Kd α} {good : α → Prop} {bulk : α → Nat} {B : Nat} (ht : Try.prog.underlying t = some (.slice e)) (hc : Try.prog.cellsOf e = d.sz) (hB : Try.prog.bytesOf e = B) (he : Opens e d good bulk) :
    Opens t (Kd.slice e d) (fun xs => (∀ x ∈ xs, good x) ∧ xs.length * B ≤ reachBytes) (fun xs => lbulk bulk xs + 1) := by
  refine ⟨?_⟩
  intro H enc w fuel cs y ps h hw
  rcases open_slice ht h with ⟨rfl, hx⟩ | ⟨a, len, cap, m, n, D, Pl, rfl, _, hl, hm, hmm, hx, hel⟩
  · obtain ⟨rfl, rfl⟩ := Prod.mk.inj hx
    exact ⟨[], ⟨none, 0, rfl, Nat.le_refl _, rfl, Nat.zero_le _, fun h0 => absurd h0 (Nat.lt_irrefl 0)⟩, ⟨fun x hx => (List.not_mem_nil hx).elim, by show ([] : List α).length * B ≤ _; rw [List.length_nil, Nat.zero_mul]; exact Nat.zero_le _⟩, one_le _⟩
  · have e1 : y = _ := congrArg Prod.fst hx
    clear hx
    subst e1
    have hlm : len ≤ m := by rw [hmm]; exact hl
    have hws : ∀ i, i < len → ∀ q ∈ (D i).weights Try.prog e, q ≤ reachBytes := by
      intro i hi q hq
      refine hw q ?_
      simp only [DataW.weights, ht, List.mem_cons, List.mem_append]
      exact .inr (.inl (mem_all (List.mem_map.2 ⟨i, List.mem_range.2 hi, rfl⟩) hq))
    obtain ⟨X, hX⟩ := choose_lt (α := α) (n := len) (p := fun i x => ∃ cs', w.cells? 0 (a.add (i * Try.prog.cellsOf e)) (Try.prog.cellsOf e) = some cs' ∧ d.K w x cs' ∧ good x ∧ bulk x ≤ Rows.uptoBulk (D i)) (fun i hi => by
      obtain ⟨cs', h1, h2⟩ := hel i (by omega)
      obtain ⟨x, h3, h4, h5⟩ := he.out enc w n cs' (D i) (Pl i) h2 (hws i hi)
      exact ⟨x, cs', h1, h3, h4, h5⟩)
    have hlen : ((List.range len).map X).length = len := by simp
    refine ⟨(List.range len).map X, ⟨some a, cap, by rw [hlen], by rw [hlen]; exact hl, hlen.trans hlen.symm, by rw [hlen]; unfold maxLen at hm; omega, fun _ => ⟨a, rfl, fun j p hj => ?_⟩⟩, ⟨fun x hx => ?_, ?_⟩, ?_⟩
    · have hj' : j < len := by
        have := (List.getElem?_eq_some_iff.1 hj).1
        simpa using this
      obtain ⟨cs', h1, h3, _, _⟩ := hX j hj'
      have hp : p = X j := by simp [hj'] at hj; exact hj.symm
      subst hp
      obtain ⟨_, hcl, hcell⟩ := World.cells?_some h1
      rw [hc] at hcl hcell
      refine ⟨cs', hcl, h3, fun i u hu => ?_⟩
      have hi : i < d.sz := by rw [← hcl]; exact (List.getElem?_eq_some_iff.1 hu).1
      have := hcell i hi
      rw [hu, Go.Deep.add_add] at this
      exact this
    · obtain ⟨i, hi, rfl⟩ := List.mem_map.1 hx
      exact (hX i (List.mem_range.1 hi)).choose_spec.2.2.1
    · rw [hlen]
      have := hw ((((List.range len).map D).length + ((List.range (m - len)).map fun j => D (len + j)).length) * Try.prog.bytesOf e) (by simp only [DataW.weights, ht]; exact List.mem_cons_self)
      rw [hB] at this
      refine Nat.le_trans (Nat.mul_le_mul_right _ ?_) this
      simp
    · have := lbulk_le (H := H) bulk ((List.range len).map X) ((List.range len).map D) (by simp) (fun i x y hx hy => by
        have hi : i < len := by
          have := (List.getElem?_eq_some_iff.1 hx).1
          simpa using this
        simp [hi] at hx hy
        rw [← hx, ← hy]
        exact (hX i hi).choose_spec.2.2.2)
      simp only [Rows.uptoBulk]
      omega
/-- Fields in line, from a place on. -/
structure OpensF {α : Type} (fs : List Field) (off : Nat) (d : Kd α) (good : α → Prop) (bulk : α → Nat) : Prop where
  out : ∀ {H : Type} (enc : TypeId × Value → H) (w : World) (n : Nat) (cs : List Value) (xs : List (DataW H × List MemPlace)), cs.length = off + d.sz → xs.length = fs.length →
    (∀ (i : Nat) (f : Field), fs[i]? = some f → DataW.trod enc Try.prog w 0 (fun _ => true) true n f.type ((cs.drop f.offset).take (Try.prog.cellsOf f.type)) = xs[i]?) →
    (∀ m ∈ DataW.weightsEach Try.prog (fs.map (·.type)) (xs.map (·.1)), m ≤ reachBytes) → ∃ x, d.K w x (cs.drop off) ∧ good x ∧ bulk x ≤ Rows.uptoBulkAll (xs.map (·.1))
theorem opensF_one {α : Type} {f : Field} {d : Kd α} {good : α → Prop} {bulk : α → Nat} (hc : Try.prog.cellsOf f.type = d.sz) (he : Opens f.type d good bulk) : OpensF [f] f.offset d good bulk := by
  refine ⟨?_⟩
  intro H enc w n cs xs hl hxl hx hw
  obtain ⟨⟨y, ps⟩, rfl⟩ : ∃ x, xs = [x] := by
    match xs, hxl with
    | [x], _ => exact ⟨x, rfl⟩
  have h1 := hx 0 f rfl
  have hcut : (cs.drop f.offset).take (Try.prog.cellsOf f.type) = cs.drop f.offset := List.take_of_length_le (by rw [List.length_drop, hc]; omega)
  rw [hcut] at h1
  obtain ⟨x, k1, k2, k3⟩ := he.out enc w n _ y ps h1 (fun m hm => hw m (by simp [DataW.weightsEach]; exact hm))
  exact ⟨x, k1, k2, by simp only [List.map_cons, List.map_nil, Rows.uptoBulkAll]; omega⟩
theorem opensF_cons {α β : Type} {f : Field} {fs : List Field} {off : Nat} {d : Kd α} {d2 : Kd β} {good : α → Prop} {good2 : β → Prop} {bulk : α → Nat} {bulk2 : β → Nat} (hc : Try.prog.cellsOf f.type = d.sz) (ho : off = f.offset + d.sz)
    (he : Opens f.type d good bulk) (hf : OpensF fs off d2 good2 bulk2) : OpensF (f :: fs) f.offset (Kd.pair d d2) (fun x => good x.1 ∧ good2 x.2) (fun x => bulk x.1 + bulk2 x.2) := by
  refine ⟨?_⟩
  intro H enc w n cs xs hl hxl hx hw
  obtain ⟨⟨y, ps⟩, r, rfl⟩ : ∃ x r, xs = x :: r := by
    match xs, hxl with
    | x :: r, _ => exact ⟨x, r, rfl⟩
  have hl' : cs.length = f.offset + (d.sz + d2.sz) := hl
  have h1 := hx 0 f rfl
  rw [hc] at h1
  obtain ⟨x, k1, k2, k3⟩ := he.out enc w n _ y ps h1 (fun m hm => hw m (by simp only [List.map_cons, DataW.weightsEach, List.mem_append]; exact .inl hm))
  obtain ⟨x2, j1, j2, j3⟩ := hf.out enc w n cs r (by omega) (by simpa using hxl) (fun i g hg => by have := hx (i + 1) g (by simpa using hg); simpa using this)
    (fun m hm => hw m (by simp only [List.map_cons, DataW.weightsEach, List.mem_append]; exact .inr hm))
  refine ⟨(x, x2), ⟨_, _, ?_, k1, j1⟩, ⟨k2, j2⟩, by simp only [List.map_cons, Rows.uptoBulkAll]; omega⟩
  rw [ho, ← List.drop_drop]
  exact (List.take_append_drop d.sz (cs.drop f.offset)).symm
theorem opens_struct {α β : Type} {t : TypeId} {fs : Array Field} {d : Kd α} {good : α → Prop} {bulk : α → Nat} {g : β → α} {gi : α → β} (hg : ∀ x, g (gi x) = x) (ht : Try.prog.underlying t = some (.struct fs)) (hc : Try.prog.cellsOf t = d.sz)
    (hf : OpensF fs.toList 0 d good bulk) : Opens t (Kd.iso d g) (fun x => good (g x)) (fun x => bulk (g x) + 1) := by
  refine ⟨?_⟩
  intro H enc w fuel cs y ps h hw
  obtain ⟨xs, n, rfl, hx, hl, hxl, hel⟩ := DataW.trod_struct ht h
  obtain ⟨rfl, rfl⟩ := Prod.mk.inj hx
  obtain ⟨x, k1, k2, k3⟩ := hf.out enc w n cs xs (by rw [hl, hc]; omega) (by simpa using hxl) (fun i f hi => hel i f (by simpa using hi)) (fun m hm => hw m (by simp only [DataW.weights, ht]; exact hm))
  refine ⟨gi x, ?_, by show good (g (gi x)); rw [hg]; exact k2, by show bulk (g (gi x)) + 1 ≤ _; rw [hg]; simp only [Rows.uptoBulk]; omega⟩
  show d.K w (g (gi x)) cs
  rw [hg]
  exact k1
theorem two_of {α : Type} : ∀ {xs : List α}, xs.length = 2 → ∃ a b, xs = [a, b]
  | [a, b], _ => ⟨a, b, rfl⟩
  | [], h => by simp at h
  | [_], h => by simp at h
  | _ :: _ :: _ :: _, h => by simp at h
/-- An array of two. -/
theorem opens_array2 {α : Type} {t e : TypeId} {d : Kd α} {good : α → Prop} {bulk : α → Nat} (ht : Try.prog.underlying t = some (.array 2 e)) (hc : Try.prog.cellsOf t = d.sz + d.sz) (he : Try.prog.cellsOf e = d.sz)
    (h1 : Opens e d good bulk) : Opens t (Kd.pair d d) (fun x => good x.1 ∧ good x.2) (fun x => bulk x.1 + bulk x.2 + 1) := by
  refine ⟨?_⟩
  intro H enc w fuel cs y ps h hw
  cases fuel with
  | zero => simp [DataW.trod] at h
  | succ m =>
    unfold DataW.trod at h
    rw [ht] at h
    simp only at h
    split at h
    · rename_i hl
      obtain ⟨xs, hxs, hx⟩ := Option.map_eq_some_iff.1 h
      have e1 := (congrArg Prod.fst hx).symm
      clear hx
      subst e1
      have hlen := mapM_some_length hxs
      have g0 := mapM_some_get hxs 0 0 rfl
      have g1 := mapM_some_get hxs 1 1 rfl
      obtain ⟨⟨y0, p0⟩, ⟨y1, p1⟩, rfl⟩ := two_of (xs := xs) (by simpa using hlen)
      rw [hc] at hl
      rw [he, Nat.zero_mul] at g0
      rw [he, Nat.one_mul] at g1
      simp only [DataW.weights, ht, DataW.weightsAll, List.map_cons, List.map_nil, List.mem_append] at hw
      obtain ⟨x0, a1, a2, a3⟩ := h1.out enc w m _ y0 p0 g0 (fun q hq => hw q (.inl hq))
      obtain ⟨x1, b1, b2, b3⟩ := h1.out enc w m _ y1 p1 g1 (fun q hq => hw q (.inr (.inl hq)))
      rw [List.take_of_length_le (by rw [List.length_drop]; omega)] at b1
      refine ⟨(x0, x1), ⟨_, _, ?_, a1, b1⟩, ⟨a2, b2⟩, by simp only [Rows.uptoBulk, List.map_cons, List.map_nil, Rows.uptoBulkAll]; omega⟩
      exact (List.take_append_drop d.sz cs).symm
    · cases h
end Go.Proofs.Ytcilojakgnjjmaa.Opns
namespace Go.Proofs.Ytcilojakgnjjmaa.Opns
open Go.RowKit Go.Proofs.YtcilojakgnjjmaaW.PrintWords Go.Deep
theorem okw_struct {P : Program} {w : World} {r : Reach} {base : Nat} {t : TypeId} {v : Value} {fs : Array Field} (ht : P.underlying t = some (.struct fs)) (h : Value.okWide P w r base t v) : ∃ cs, v = .agg cs := by
  simp only [Value.okWide, ht] at h
  obtain ⟨cs, rfl, _⟩ := h
  exact ⟨cs, rfl⟩
theorem okw_array {P : Program} {w : World} {r : Reach} {base : Nat} {t e : TypeId} {n : Nat} {v : Value} (ht : P.underlying t = some (.array n e)) (h : Value.okWide P w r base t v) : ∃ cs, v = .agg cs := by
  simp only [Value.okWide, ht] at h
  obtain ⟨cs, rfl, _⟩ := h
  exact ⟨cs, rfl⟩
section
variable {H : Type} {enc : TypeId × Value → H} {W : World} {t : TypeId} {y : DataW H} {ps : List MemPlace}
theorem arg_slice {α : Type} {e : TypeId} {d : Kd α} {good : List α → Prop} {bulk : List α → Nat} {a : Option Addr} {len cap : Nat} (ho : Opens t (Kd.slice e d) good bulk)
    (h : DataW.Trod enc Try.prog W 0 (fun _ => true) true t (.slice a len cap) y ps) (hw : ∀ m ∈ y.weights Try.prog t, m ≤ reachBytes) :
    ∃ x : List α, len = x.length ∧ x.length ≤ cap ∧ d.C W a x.length x ∧ good x ∧ bulk x ≤ Rows.uptoBulk y := by
  obtain ⟨fuel, hf⟩ := h
  obtain ⟨x, hk, hg, hb⟩ := ho.out enc W fuel _ y ps hf hw
  obtain ⟨A, c, he, hl, hc⟩ := hk
  have he' : [Value.slice a len cap] = [.slice A x.length c] := he
  injection he' with he' _
  injection he' with h1 h2 h3
  subst h1 h2 h3
  exact ⟨x, rfl, hl, hc, hg, hb⟩
theorem arg_agg {α : Type} {d : Kd α} {good : α → Prop} {bulk : α → Nat} {cs : Array Value} (ho : Opens t d good bulk)
    (h : DataW.Trod enc Try.prog W 0 (fun _ => true) true t (.agg cs) y ps) (hw : ∀ m ∈ y.weights Try.prog t, m ≤ reachBytes) :
    ∃ x : α, d.K W x cs.toList ∧ good x ∧ bulk x ≤ Rows.uptoBulk y := by
  obtain ⟨fuel, hf⟩ := h
  exact ho.out enc W fuel _ y ps hf hw
theorem weigh {ts : List TypeId} {ds : List (DataW H)} {j : Nat} (hsz : (DataW.weightsEach Try.prog ts ds).all (· ≤ reachBytes) = true) (ht : ts[j]? = some t) (hd : ds[j]? = some y) : ∀ m ∈ y.weights Try.prog t, m ≤ reachBytes := by
  intro m hm
  have := List.all_eq_true.1 hsz m (DataW.weights_mem_each ht hd m hm)
  exact of_decide_eq_true this
theorem bulk_mem {ds : List (DataW H)} {j : Nat} (hk : Rows.uptoSmall H ds = true) (hd : ds[j]? = some y) : Rows.uptoBulk y ≤ 1048576 := by
  have h : Rows.uptoBulkAll ds ≤ 1048576 := of_decide_eq_true hk
  have : ∀ (l : List (DataW H)) (j : Nat), l[j]? = some y → Rows.uptoBulk y ≤ Rows.uptoBulkAll l := by
    intro l
    induction l with
    | nil => intro j h; simp at h
    | cons x r ih =>
      intro j h
      simp only [Rows.uptoBulkAll]
      cases j with
      | zero => obtain rfl := Option.some.inj h; omega
      | succ j => have := ih j (by simpa using h); omega
  exact Nat.le_trans (this ds j hd) h
end
end Go.Proofs.Ytcilojakgnjjmaa.Opns
/- Values: which may be. -/
namespace Go.Proofs.Ytcilojakgnjjmaa.MeP
open Go Go.RowKit Go.Proofs.YtcilojakgnjjmaaW.PrintWords PAll
abbrev V := S24
abbrev kV : Kd V := k24
/-- Has the text no byte? -/
def nt (s : ByteArray) : Bool := s.toList == []
/-- What a value's parts must be, its list's elements not looked at. -/
def sh (v : V) : Bool :=
  if v.f0 = 0 then v.f1 == 0 && (nt v.f2 && decide (v.f3.length = 0))
  else if v.f0 = 1 then (v.f1 == 0 || v.f1 == 1) && (nt v.f2 && decide (v.f3.length = 0))
  else if v.f0 = 2 then nt v.f2 && decide (v.f3.length = 0)
  else if v.f0 = 3 ∨ v.f0 = 4 then v.f1 == 0 && decide (v.f3.length = 0)
  else if v.f0 = 5 then v.f1 == 0 && nt v.f2
  else false
/-- May a value, so deep at most, be? -/
def mayN : Nat → V → Bool
  | 0, v => sh v && !(v.f0 == 5)
  | d + 1, v => sh v && (!(v.f0 == 5) || v.f3.all (mayN d))
theorem mayN_sh {d : Nat} {v : V} (h : mayN d v = true) : sh v = true := by
  cases d with
  | zero => unfold mayN at h; rw [Bool.and_eq_true] at h; exact h.1
  | succ d => unfold mayN at h; rw [Bool.and_eq_true] at h; exact h.1
theorem mayN_leaf {d : Nat} {v : V} (h : v.f0 ≠ 5) : mayN d v = sh v := by
  have e : (v.f0 == 5) = false := beq_eq_false_iff_ne.2 h
  cases d <;> (unfold mayN; rw [e]; simp)
theorem mayN_list {d : Nat} {v : V} (h : v.f0 = 5) (hm : mayN d v = true) : ∃ n, d = n + 1 ∧ ∀ x ∈ v.f3, mayN n x = true := by
  cases d with
  | zero => unfold mayN at hm; rw [h] at hm; simp at hm
  | succ d =>
    unfold mayN at hm
    rw [h] at hm
    simp only [Bool.and_eq_true, Bool.or_eq_true, List.all_eq_true] at hm
    refine ⟨d, rfl, fun x hx => ?_⟩
    rcases hm.2 with h2 | h2
    · cases h2
    · exact h2 x hx
end Go.Proofs.Ytcilojakgnjjmaa.MeP
/- Which values may be: the program's answer. -/
set_option linter.unusedSimpArgs false
set_option linter.unusedVariables false
namespace Go.Proofs.Ytcilojakgnjjmaa.MeM
open Go Go.RowKit Go.Proofs.YtcilojakgnjjmaaW.PrintWords Go.Proofs.YtcilojakgnjjmaaW.PrintLast Go.Proofs.YtcilojakgnjjmaaW.PrintMore PAll MeP
set_option maxHeartbeats 8000000 in
set_option maxRecDepth 100000 in
theorem k0_calls (f1 : Int) (f2 : ByteArray) (A : Option Addr) (c : Nat) (f3 : List V) (deep : Int) (w : World) :
    Calls Try.prog 28 #[.agg #[.int .i64 0, .int .i64 f1, .string f2, .slice A f3.length c], .int .i64 deep] w fun e w' => e = .returned (.bool (sh ⟨0, f1, f2, f3⟩)) ∧ Below w.heap.size w w' := by
  have HB := Lib.hid (below_alloc (below_alloc (Below.refl w.heap.size w) (.cells #[.int .i64 0, .int .i64 f1, .string f2, .slice A f3.length c] 24)) (.cells #[.int .i64 deep] 3))
  have HV : Hid (((w.alloc (.cells #[.int .i64 0, .int .i64 f1, .string f2, .slice A f3.length c] 24)).alloc (.cells #[.int .i64 deep] 3)).heap[w.heap.size]? = some (.cells #[.int .i64 0, .int .i64 f1, .string f2, .slice A f3.length c] 24 (0, 0))) := Lib.hid (blk_below (blk_new _ _) (below_alloc (Below.refl _ _) _))
  have hll : decide (f3.length = 0) = !(decide (0 < f3.length)) := by rw [Bool.eq_iff_iff]; simp only [decide_eq_true_eq, Bool.not_eq_true', decide_eq_false_iff_not]; omega
  have c0 := blk_cell HV.out 0
  have c1 := blk_cell HV.out 1
  have c2 := blk_cell HV.out 2
  have c3 := blk_cell HV.out 3
  rw [show sh ⟨0, f1, f2, f3⟩ = ((f1 == 0) && ((f2.toList == []) && decide (f3.length = 0))) from rfl, hll]
  have m0 : (f1 != 0) = !(f1 == 0) := rfl
  clear hll
  cases b0 : (f1 == 0) <;> cases bt : (f2.toList == []) <;> cases bl : decide (0 < f3.length)
  all_goals
    rw [b0] at m0
    simp only [Bool.not_true, Bool.not_false] at m0
    go_enter Try.func28, Try.ntmps28
    go_wp2_with fail
    go_ret
    exact ⟨rfl, HB.out⟩
set_option maxHeartbeats 8000000 in
set_option maxRecDepth 100000 in
theorem k1_calls (f1 : Int) (f2 : ByteArray) (A : Option Addr) (c : Nat) (f3 : List V) (deep : Int) (w : World) :
    Calls Try.prog 28 #[.agg #[.int .i64 1, .int .i64 f1, .string f2, .slice A f3.length c], .int .i64 deep] w fun e w' => e = .returned (.bool (sh ⟨1, f1, f2, f3⟩)) ∧ Below w.heap.size w w' := by
  have HB := Lib.hid (below_alloc (below_alloc (Below.refl w.heap.size w) (.cells #[.int .i64 1, .int .i64 f1, .string f2, .slice A f3.length c] 24)) (.cells #[.int .i64 deep] 3))
  have HV : Hid (((w.alloc (.cells #[.int .i64 1, .int .i64 f1, .string f2, .slice A f3.length c] 24)).alloc (.cells #[.int .i64 deep] 3)).heap[w.heap.size]? = some (.cells #[.int .i64 1, .int .i64 f1, .string f2, .slice A f3.length c] 24 (0, 0))) := Lib.hid (blk_below (blk_new _ _) (below_alloc (Below.refl _ _) _))
  have hll : decide (f3.length = 0) = !(decide (0 < f3.length)) := by rw [Bool.eq_iff_iff]; simp only [decide_eq_true_eq, Bool.not_eq_true', decide_eq_false_iff_not]; omega
  have c0 := blk_cell HV.out 0
  have c1 := blk_cell HV.out 1
  have c2 := blk_cell HV.out 2
  have c3 := blk_cell HV.out 3
  rw [show sh ⟨1, f1, f2, f3⟩ = (((f1 == 0) || (f1 == 1)) && ((f2.toList == []) && decide (f3.length = 0))) from rfl, hll]
  have m0 : (f1 != 0) = !(f1 == 0) := rfl
  clear hll
  cases b0 : (f1 == 0) <;> cases b1 : (f1 == 1) <;> cases bt : (f2.toList == []) <;> cases bl : decide (0 < f3.length)
  all_goals
    rw [b0] at m0
    simp only [Bool.not_true, Bool.not_false] at m0
    go_enter Try.func28, Try.ntmps28
    go_wp2_with fail
    go_ret
    exact ⟨rfl, HB.out⟩
set_option maxHeartbeats 8000000 in
set_option maxRecDepth 100000 in
theorem k2_calls (f1 : Int) (f2 : ByteArray) (A : Option Addr) (c : Nat) (f3 : List V) (deep : Int) (w : World) :
    Calls Try.prog 28 #[.agg #[.int .i64 2, .int .i64 f1, .string f2, .slice A f3.length c], .int .i64 deep] w fun e w' => e = .returned (.bool (sh ⟨2, f1, f2, f3⟩)) ∧ Below w.heap.size w w' := by
  have HB := Lib.hid (below_alloc (below_alloc (Below.refl w.heap.size w) (.cells #[.int .i64 2, .int .i64 f1, .string f2, .slice A f3.length c] 24)) (.cells #[.int .i64 deep] 3))
  have HV : Hid (((w.alloc (.cells #[.int .i64 2, .int .i64 f1, .string f2, .slice A f3.length c] 24)).alloc (.cells #[.int .i64 deep] 3)).heap[w.heap.size]? = some (.cells #[.int .i64 2, .int .i64 f1, .string f2, .slice A f3.length c] 24 (0, 0))) := Lib.hid (blk_below (blk_new _ _) (below_alloc (Below.refl _ _) _))
  have hll : decide (f3.length = 0) = !(decide (0 < f3.length)) := by rw [Bool.eq_iff_iff]; simp only [decide_eq_true_eq, Bool.not_eq_true', decide_eq_false_iff_not]; omega
  have c0 := blk_cell HV.out 0
  have c1 := blk_cell HV.out 1
  have c2 := blk_cell HV.out 2
  have c3 := blk_cell HV.out 3
  rw [show sh ⟨2, f1, f2, f3⟩ = ((f2.toList == []) && decide (f3.length = 0)) from rfl, hll]
  have m0 : (f1 != 0) = !(f1 == 0) := rfl
  clear hll
  cases b0 : (f1 == 0) <;> cases bt : (f2.toList == []) <;> cases bl : decide (0 < f3.length)
  all_goals
    rw [b0] at m0
    simp only [Bool.not_true, Bool.not_false] at m0
    go_enter Try.func28, Try.ntmps28
    go_wp2_with fail
    go_ret
    exact ⟨rfl, HB.out⟩
set_option maxHeartbeats 8000000 in
set_option maxRecDepth 100000 in
theorem k3_calls (f1 : Int) (f2 : ByteArray) (A : Option Addr) (c : Nat) (f3 : List V) (deep : Int) (w : World) :
    Calls Try.prog 28 #[.agg #[.int .i64 3, .int .i64 f1, .string f2, .slice A f3.length c], .int .i64 deep] w fun e w' => e = .returned (.bool (sh ⟨3, f1, f2, f3⟩)) ∧ Below w.heap.size w w' := by
  have HB := Lib.hid (below_alloc (below_alloc (Below.refl w.heap.size w) (.cells #[.int .i64 3, .int .i64 f1, .string f2, .slice A f3.length c] 24)) (.cells #[.int .i64 deep] 3))
  have HV : Hid (((w.alloc (.cells #[.int .i64 3, .int .i64 f1, .string f2, .slice A f3.length c] 24)).alloc (.cells #[.int .i64 deep] 3)).heap[w.heap.size]? = some (.cells #[.int .i64 3, .int .i64 f1, .string f2, .slice A f3.length c] 24 (0, 0))) := Lib.hid (blk_below (blk_new _ _) (below_alloc (Below.refl _ _) _))
  have hll : decide (f3.length = 0) = !(decide (0 < f3.length)) := by rw [Bool.eq_iff_iff]; simp only [decide_eq_true_eq, Bool.not_eq_true', decide_eq_false_iff_not]; omega
  have c0 := blk_cell HV.out 0
  have c1 := blk_cell HV.out 1
  have c2 := blk_cell HV.out 2
  have c3 := blk_cell HV.out 3
  rw [show sh ⟨3, f1, f2, f3⟩ = ((f1 == 0) && decide (f3.length = 0)) from rfl, hll]
  have m0 : (f1 != 0) = !(f1 == 0) := rfl
  clear hll
  cases b0 : (f1 == 0) <;> cases bt : (f2.toList == []) <;> cases bl : decide (0 < f3.length)
  all_goals
    rw [b0] at m0
    simp only [Bool.not_true, Bool.not_false] at m0
    go_enter Try.func28, Try.ntmps28
    go_wp2_with fail
    go_ret
    exact ⟨rfl, HB.out⟩
set_option maxHeartbeats 8000000 in
set_option maxRecDepth 100000 in
theorem k4_calls (f1 : Int) (f2 : ByteArray) (A : Option Addr) (c : Nat) (f3 : List V) (deep : Int) (w : World) :
    Calls Try.prog 28 #[.agg #[.int .i64 4, .int .i64 f1, .string f2, .slice A f3.length c], .int .i64 deep] w fun e w' => e = .returned (.bool (sh ⟨4, f1, f2, f3⟩)) ∧ Below w.heap.size w w' := by
  have HB := Lib.hid (below_alloc (below_alloc (Below.refl w.heap.size w) (.cells #[.int .i64 4, .int .i64 f1, .string f2, .slice A f3.length c] 24)) (.cells #[.int .i64 deep] 3))
  have HV : Hid (((w.alloc (.cells #[.int .i64 4, .int .i64 f1, .string f2, .slice A f3.length c] 24)).alloc (.cells #[.int .i64 deep] 3)).heap[w.heap.size]? = some (.cells #[.int .i64 4, .int .i64 f1, .string f2, .slice A f3.length c] 24 (0, 0))) := Lib.hid (blk_below (blk_new _ _) (below_alloc (Below.refl _ _) _))
  have hll : decide (f3.length = 0) = !(decide (0 < f3.length)) := by rw [Bool.eq_iff_iff]; simp only [decide_eq_true_eq, Bool.not_eq_true', decide_eq_false_iff_not]; omega
  have c0 := blk_cell HV.out 0
  have c1 := blk_cell HV.out 1
  have c2 := blk_cell HV.out 2
  have c3 := blk_cell HV.out 3
  rw [show sh ⟨4, f1, f2, f3⟩ = ((f1 == 0) && decide (f3.length = 0)) from rfl, hll]
  have m0 : (f1 != 0) = !(f1 == 0) := rfl
  clear hll
  cases b0 : (f1 == 0) <;> cases bt : (f2.toList == []) <;> cases bl : decide (0 < f3.length)
  all_goals
    rw [b0] at m0
    simp only [Bool.not_true, Bool.not_false] at m0
    go_enter Try.func28, Try.ntmps28
    go_wp2_with fail
    go_ret
    exact ⟨rfl, HB.out⟩
set_option maxHeartbeats 8000000 in
set_option maxRecDepth 100000 in
theorem kx_calls (f0 f1 : Int) (f2 : ByteArray) (A : Option Addr) (c : Nat) (f3 : List V) (deep : Int) (w : World) (hk : f0 < 0 ∨ 6 ≤ f0) :
    Calls Try.prog 28 #[.agg #[.int .i64 f0, .int .i64 f1, .string f2, .slice A f3.length c], .int .i64 deep] w fun e w' => e = .returned (.bool (sh ⟨f0, f1, f2, f3⟩)) ∧ Below w.heap.size w w' := by
  have HB := Lib.hid (below_alloc (below_alloc (Below.refl w.heap.size w) (.cells #[.int .i64 f0, .int .i64 f1, .string f2, .slice A f3.length c] 24)) (.cells #[.int .i64 deep] 3))
  have HV : Hid (((w.alloc (.cells #[.int .i64 f0, .int .i64 f1, .string f2, .slice A f3.length c] 24)).alloc (.cells #[.int .i64 deep] 3)).heap[w.heap.size]? = some (.cells #[.int .i64 f0, .int .i64 f1, .string f2, .slice A f3.length c] 24 (0, 0))) := Lib.hid (blk_below (blk_new _ _) (below_alloc (Below.refl _ _) _))
  have c0 := blk_cell HV.out 0
  have c1 := blk_cell HV.out 1
  have c2 := blk_cell HV.out 2
  have c3 := blk_cell HV.out 3
  have es : sh ⟨f0, f1, f2, f3⟩ = false := by
    unfold sh
    rw [if_neg (by simp only; omega), if_neg (by simp only; omega), if_neg (by simp only; omega), if_neg (by simp only; omega), if_neg (by simp only; omega)]
  rw [es]
  have e1 : (f0 == 1) = false := beq_eq_false_iff_ne.2 (by omega)
  have e2 : (f0 == 2) = false := beq_eq_false_iff_ne.2 (by omega)
  have e3 : (f0 == 3) = false := beq_eq_false_iff_ne.2 (by omega)
  have e4 : (f0 == 4) = false := beq_eq_false_iff_ne.2 (by omega)
  have e5 : (f0 == 5) = false := beq_eq_false_iff_ne.2 (by omega)
  clear es
  rcases hk with hk | hk
  · have d1 : decide (f0 < 0) = true := decide_eq_true hk
    have d2 : decide (6 ≤ f0) = false := decide_eq_false (by omega)
    clear hk
    go_enter Try.func28, Try.ntmps28
    go_wp2_with fail
    go_ret
    exact ⟨rfl, HB.out⟩
  · have d1 : decide (f0 < 0) = false := decide_eq_false (by omega)
    have d2 : decide (6 ≤ f0) = true := decide_eq_true hk
    clear hk
    go_enter Try.func28, Try.ntmps28
    go_wp2_with fail
    go_ret
    exact ⟨rfl, HB.out⟩
end Go.Proofs.Ytcilojakgnjjmaa.MeM
/- Which values may be: lists; Check. -/
set_option linter.unusedSimpArgs false
set_option linter.unusedVariables false
namespace Go.Proofs.Ytcilojakgnjjmaa.MeN
open Go Go.RowKit Go.Proofs.YtcilojakgnjjmaaW.PrintWords Go.Proofs.YtcilojakgnjjmaaW.PrintLast Go.Proofs.YtcilojakgnjjmaaW.PrintMore PAll MeP MeM
/-- A value's cells. -/
abbrev aggV (x : V) (A : Option Addr) (c : Nat) : Array Value := #[.int .i64 x.f0, .int .i64 x.f1, .string x.f2, .slice A x.f3.length c]
theorem at_V {w : World} {A : Option Addr} {n : Nat} {xs : List V} (h : kV.C w A n xs) (i : Nat) (h1 : i < n) : ∃ ad x A3 c3, xs[i]? = some x ∧ A = some ad ∧ w.cell? (ad.add (i * 4)) = some (.int .i64 x.f0) ∧ w.cell? ⟨(ad.add (i * 4)).block, (ad.add (i * 4)).off + 1, none⟩ = some (.int .i64 x.f1) ∧ w.cell? ⟨(ad.add (i * 4)).block, (ad.add (i * 4)).off + 2, none⟩ = some (.string x.f2) ∧ w.cell? ⟨(ad.add (i * 4)).block, (ad.add (i * 4)).off + 3, none⟩ = some (.slice A3 x.f3.length c3) ∧ x.f3.length ≤ c3 ∧ kV.C w A3 x.f3.length x.f3 := by
  have hl : i < xs.length := by have := h.1; omega
  obtain ⟨ad, A3, c3, e, a0, a1, a2, a3, a4, a5⟩ := at_T24 h (i : Int) (by omega) (by omega)
  have e2 : rd_T24 xs (i : Int) = xs[i] := by unfold rd_T24; rw [Int.toNat_natCast, List.getD_eq_getElem?_getD, List.getElem?_eq_getElem hl]; rfl
  rw [e2] at a0 a1 a2 a3 a4 a5
  exact ⟨ad, xs[i], A3, c3, List.getElem?_eq_getElem hl, e, a0, a1, a2, a3, a4, a5⟩
set_option maxHeartbeats 4000000 in
theorem idx_calls (A : Option Addr) (c : Nat) (l : List V) (q : Nat) (p : V → Bool) (w : World) (hx : kV.C w A l.length l)
    (hf : ∀ (x : V) (A' : Option Addr) (c' : Nat) (w' : World), x ∈ l → x.f3.length ≤ c' → kV.C w' A' x.f3.length x.f3 → Below w.heap.size w w' → Calls Try.prog 38 #[.agg (aggV x A' c'), .pointer (some ⟨q, 0, none⟩)] w' fun e w'' => e = .returned (.bool (p x)) ∧ Below w'.heap.size w' w'') :
    Calls Try.prog 49 #[.slice A l.length c, .func (.func 38) #[] #[.pointer (some ⟨q, 0, none⟩)]] w fun e w' => ∃ i : Int, e = .returned (.int .i64 i) ∧ decide (0 ≤ i) = l.any p ∧ Below w.heap.size w w' := by
  have HC := Lib.hid hx
  have HF := Lib.hid hf
  have hlm : l.length ≤ 9223372036854775807 := hx.2.1
  clear hx hf
  go_enter Try.func49, Try.ntmps49
  go_wp2_with fail
  go_loopw [8] (fun i' wr => ∃ i : Nat, i' = .int .i64 i ∧ Hid (i ≤ l.length) ∧ Hid (∀ (j : Nat) (x : V), j < i → l[j]? = some x → p x = false) ∧ Hid (Below w.heap.size w wr)) (fun i' _ => (l.length - intOf i').toNat)
  case atStart => exact ⟨0, rfl, Lib.hid (Nat.zero_le _), Lib.hid (fun j x hj => absurd hj (Nat.not_lt_zero _)), Lib.hid (Below.refl _ _)⟩
  case round =>
    obtain ⟨i, rfl, HI, HP, HB⟩ := hrel
    by_cases h : i < l.length
    · have hlt : decide (i < l.length) = true := decide_eq_true h
      have hlt2 : decide ((i : Int) < (l.length : Int)) = true := decide_eq_true (by omega)
      have i0 : (0 : Int) ≤ i := by omega
      have i1 : (i : Int) < l.length := by omega
      obtain ⟨ad, x, A3, c3, hx, hA, a0, a1, a2, a3, a4, a5⟩ := at_V (Kd.C_below HC.out HB.out) i h
      subst hA
      have HX := Lib.hid hx
      have HLT := Lib.hid h
      have T := Lib.hid (HF.out x A3 c3 wr (List.mem_of_getElem? hx) a4 a5 HB.out)
      obtain ⟨px, hpx⟩ : ∃ px, px = p x := ⟨_, rfl⟩
      rw [← hpx] at T
      have HPX := Lib.hid hpx
      clear h hx a4 a5 hpx
      go_wp2_with fail
      refine T.out.mono ?_
      rintro e w2 ⟨rfl, hb⟩
      have HB2 := Lib.hid (below_then HB.out HB.out.size hb)
      clear hb T a0 a1 a2 a3
      cases px with
      | true =>
        go_wp2_with fail
        go_ret
        refine ⟨i, rfl, ?_, HB2.out⟩
        rw [decide_eq_true (by omega : (0 : Int) ≤ i)]
        exact (List.any_eq_true.2 ⟨x, List.mem_of_getElem? HX.out, HPX.out.symm⟩).symm
      | false =>
        go_wp2_with fail
        go_roundw
        case rel =>
          refine ⟨i + 1, by go_num, Lib.hid (by have := HLT.out; omega), Lib.hid (fun j y hj hy => ?_), HB2⟩
          rcases Nat.lt_or_ge j i with h1 | h1
          · exact HP.out j y h1 hy
          · obtain rfl : j = i := by omega
            have e := HX.out.symm.trans hy
            obtain rfl := Option.some.inj e
            exact HPX.out.symm
        case measure => have := HLT.out; simp only [intOf]; omega
    · obtain rfl : i = l.length := by have := HI.out; omega
      have hlt : decide (l.length < l.length) = false := decide_eq_false (Nat.lt_irrefl _)
      have hlt2 : decide ((l.length : Int) < (l.length : Int)) = false := decide_eq_false (by omega)
      clear h
      go_wp2_with fail
      go_ret
      refine ⟨-1, rfl, ?_, HB.out⟩
      rw [decide_eq_false (by omega), eq_comm, List.any_eq_false]
      intro x hx
      obtain ⟨j, hj, e⟩ := List.getElem_of_mem hx
      rw [HP.out j x hj (by rw [List.getElem?_eq_getElem hj, e])]
      decide
theorem contains_calls (A : Option Addr) (c : Nat) (l : List V) (q : Nat) (p : V → Bool) (w : World) (hx : kV.C w A l.length l)
    (hf : ∀ (x : V) (A' : Option Addr) (c' : Nat) (w' : World), x ∈ l → x.f3.length ≤ c' → kV.C w' A' x.f3.length x.f3 → Below w.heap.size w w' → Calls Try.prog 38 #[.agg (aggV x A' c'), .pointer (some ⟨q, 0, none⟩)] w' fun e w'' => e = .returned (.bool (p x)) ∧ Below w'.heap.size w' w'') :
    Calls Try.prog 37 #[.slice A l.length c, .func (.func 38) #[] #[.pointer (some ⟨q, 0, none⟩)]] w fun e w' => e = .returned (.bool (l.any p)) ∧ Below w.heap.size w w' := by
  have T := Lib.hid (idx_calls A c l q p w hx hf)
  clear hx hf
  go_enter Try.func37, Try.ntmps37
  go_wp2_with fail
  refine T.out.mono ?_
  rintro e w2 ⟨i, rfl, hi, hb⟩
  have HB := Lib.hid hb
  have HI := Lib.hid hi
  clear hb hi T
  go_wp2_with fail
  go_ret
  exact ⟨by rw [← HI.out]; rfl, HB.out⟩
/-- The closure: may an element not be? -/
theorem clo_calls (x : V) (A : Option Addr) (c : Nat) (q d : Nat) (w : World) (hq : w.heap[q]? = some (.cells #[.int .i64 (d + 1 : Nat)] 3 (0, 0))) (hd : d ≤ 100)
    (T : ∀ w', Below w.heap.size w w' → Calls Try.prog 28 #[.agg (aggV x A c), .int .i64 d] w' fun e w'' => e = .returned (.bool (mayN d x)) ∧ Below w'.heap.size w' w'') :
    Calls Try.prog 38 #[.agg (aggV x A c), .pointer (some ⟨q, 0, none⟩)] w fun e w' => e = .returned (.bool (!mayN d x)) ∧ Below w.heap.size w w' := by
  have HB := Lib.hid (below_alloc (Below.refl w.heap.size w) (.cells (aggV x A c) 24))
  have HV : Hid ((w.alloc (.cells (aggV x A c) 24)).heap[w.heap.size]? = some (.cells (aggV x A c) 24 (0, 0))) := Lib.hid (blk_new _ _)
  have HQ := Lib.hid (blk_alloc hq (.cells (aggV x A c) 24))
  have c0 := blk_cell HV.out 0
  have c1 := blk_cell HV.out 1
  have c2 := blk_cell HV.out 2
  have c3 := blk_cell HV.out 3
  have q0 := blk_cell HQ.out 0
  have hw : wrap64 (((d + 1 : Nat) : Int) - 1) = d := by unfold wrap64; omega
  have T2 := Lib.hid (T _ HB.out)
  clear hq T
  go_enter Try.func38, Try.ntmps38
  go_wp2_with fail
  have hz : ∀ z : Int, z = d → Calls Try.prog 28 #[.agg (aggV x A c), .int .i64 z] (w.alloc (.cells (aggV x A c) 24)) fun e w'' => e = .returned (.bool (mayN d x)) ∧ Below (w.alloc (.cells (aggV x A c) 24)).heap.size (w.alloc (.cells (aggV x A c) 24)) w'' := fun z hz => by rw [hz]; exact T2.out
  refine (hz _ (by first | exact hw | omega)).mono ?_
  rintro e w2 ⟨rfl, hb⟩
  have HB2 := Lib.hid (below_then HB.out HB.out.size hb)
  clear hb hz T2 hw
  go_wp2_with fail
  go_ret
  exact ⟨rfl, HB2.out⟩
set_option maxHeartbeats 8000000 in
set_option maxRecDepth 100000 in
theorem k5_calls (f1 : Int) (f2 : ByteArray) (A : Option Addr) (c : Nat) (f3 : List V) (d : Nat) (w : World) (hd : d ≤ 100) (hx : kV.C w A f3.length f3)
    (T : ∀ n, d = n + 1 → ∀ (x : V) (A : Option Addr) (c : Nat) (w : World), x.f3.length ≤ c → kV.C w A x.f3.length x.f3 → Calls Try.prog 28 #[.agg (aggV x A c), .int .i64 n] w fun e w' => e = .returned (.bool (mayN n x)) ∧ Below w.heap.size w w') :
    Calls Try.prog 28 #[.agg #[.int .i64 5, .int .i64 f1, .string f2, .slice A f3.length c], .int .i64 d] w fun e w' => e = .returned (.bool (mayN d ⟨5, f1, f2, f3⟩)) ∧ Below w.heap.size w w' := by
  have HB := Lib.hid (below_alloc (below_alloc (Below.refl w.heap.size w) (.cells #[.int .i64 5, .int .i64 f1, .string f2, .slice A f3.length c] 24)) (.cells #[.int .i64 d] 3))
  have HV : Hid (((w.alloc (.cells #[.int .i64 5, .int .i64 f1, .string f2, .slice A f3.length c] 24)).alloc (.cells #[.int .i64 d] 3)).heap[w.heap.size]? = some (.cells #[.int .i64 5, .int .i64 f1, .string f2, .slice A f3.length c] 24 (0, 0))) := Lib.hid (blk_below (blk_new _ _) (below_alloc (Below.refl _ _) _))
  have hs1 : (w.alloc (.cells #[.int .i64 5, .int .i64 f1, .string f2, .slice A f3.length c] 24)).heap.size = w.heap.size + 1 := by simp only [World.alloc, Array.size_push]
  have HQ : Hid (((w.alloc (.cells #[.int .i64 5, .int .i64 f1, .string f2, .slice A f3.length c] 24)).alloc (.cells #[.int .i64 d] 3)).heap[w.heap.size + 1]? = some (.cells #[.int .i64 d] 3 (0, 0))) := Lib.hid (by
    have h := blk_new (w.alloc (.cells #[.int .i64 5, .int .i64 f1, .string f2, .slice A f3.length c] 24)) (.cells #[.int .i64 d] 3)
    rw [hs1] at h
    exact h)
  have HC := Lib.hid (Kd.C_below hx HB.out)
  have hes : sh ⟨5, f1, f2, f3⟩ = ((f1 == 0) && (f2.toList == [])) := rfl
  have c0 := blk_cell HV.out 0
  have c1 := blk_cell HV.out 1
  have c2 := blk_cell HV.out 2
  have c3 := blk_cell HV.out 3
  have q0 := blk_cell HQ.out 0
  have m0 : (f1 != 0) = !(f1 == 0) := rfl
  cases d with
  | zero =>
    rw [show mayN 0 ⟨5, f1, f2, f3⟩ = false by unfold mayN; simp]
    clear hes hs1 hx T
    cases b0 : (f1 == 0) <;> cases bt : (f2.toList == []) <;> cases bl : decide (0 < f3.length)
    all_goals
      rw [b0] at m0
      simp only [Bool.not_true, Bool.not_false] at m0
      go_enter Try.func28, Try.ntmps28
      go_wp2_with fail
      go_ret
      exact ⟨rfl, HB.out⟩
  | succ n =>
    have em : mayN (n + 1) ⟨5, f1, f2, f3⟩ = (((f1 == 0) && (f2.toList == [])) && f3.all (mayN n)) := by unfold mayN; rw [hes]; simp
    rw [em]
    have ha : f3.all (mayN n) = !(f3.any fun x => !mayN n x) := by rw [List.not_any_eq_all_not]; simp
    rw [ha]
    have dp : decide ((0 : Int) < ((n + 1 : Nat) : Int)) = true := decide_eq_true (by omega)
    have dq : decide (0 < n + 1) = true := decide_eq_true (by omega)
    have TC := Lib.hid (contains_calls A c f3 (w.heap.size + 1) (fun x => !mayN n x) _ HC.out (fun x A' c' w' hm hl hc hb => clo_calls x A' c' (w.heap.size + 1) n w' (blk_below HQ.out hb) (by omega) (fun w2 hb2 => T n rfl x A' c' w2 hl (Kd.C_below hc hb2))))
    obtain ⟨r, hr⟩ : ∃ r, r = f3.any fun x => !mayN n x := ⟨_, rfl⟩
    rw [← hr] at TC ⊢
    clear hes hs1 hx T em ha hr hd
    cases b0 : (f1 == 0) <;> cases bt : (f2.toList == []) <;> cases bl : decide (0 < f3.length)
    all_goals
      rw [b0] at m0
      simp only [Bool.not_true, Bool.not_false] at m0
      go_enter Try.func28, Try.ntmps28
      go_wp2_with fail
      first
        | (go_ret
           exact ⟨rfl, HB.out⟩)
        | (refine TC.out.mono ?_
           rintro e w2 ⟨rfl, hb⟩
           have HB2 := Lib.hid (below_then HB.out HB.out.size hb)
           clear hb TC
           go_wp2_with fail
           go_ret
           exact ⟨rfl, HB2.out⟩)
theorem may_calls : ∀ (d : Nat), d ≤ 100 → ∀ (x : V) (A : Option Addr) (c : Nat) (w : World), x.f3.length ≤ c → kV.C w A x.f3.length x.f3 → Calls Try.prog 28 #[.agg (aggV x A c), .int .i64 d] w fun e w' => e = .returned (.bool (mayN d x)) ∧ Below w.heap.size w w' := by
  intro d
  induction d with
  | zero =>
    intro hd x A c w hl hc
    obtain ⟨f0, f1, f2, f3⟩ := x
    by_cases h5 : f0 = 5
    · subst h5
      exact k5_calls f1 f2 A c f3 0 w hd hc (fun n hn => absurd hn (by omega))
    · rw [mayN_leaf h5]
      have : f0 = 0 ∨ f0 = 1 ∨ f0 = 2 ∨ f0 = 3 ∨ f0 = 4 ∨ (f0 < 0 ∨ 6 ≤ f0) := by omega
      rcases this with rfl | rfl | rfl | rfl | rfl | h
      · exact k0_calls f1 f2 A c f3 _ w
      · exact k1_calls f1 f2 A c f3 _ w
      · exact k2_calls f1 f2 A c f3 _ w
      · exact k3_calls f1 f2 A c f3 _ w
      · exact k4_calls f1 f2 A c f3 _ w
      · exact kx_calls f0 f1 f2 A c f3 _ w h
  | succ d ih =>
    intro hd x A c w hl hc
    obtain ⟨f0, f1, f2, f3⟩ := x
    by_cases h5 : f0 = 5
    · subst h5
      exact k5_calls f1 f2 A c f3 (d + 1) w hd hc (fun n hn => by
        obtain rfl : n = d := by omega
        exact ih (by omega))
    · rw [mayN_leaf h5]
      have : f0 = 0 ∨ f0 = 1 ∨ f0 = 2 ∨ f0 = 3 ∨ f0 = 4 ∨ (f0 < 0 ∨ 6 ≤ f0) := by omega
      rcases this with rfl | rfl | rfl | rfl | rfl | h
      · exact k0_calls f1 f2 A c f3 _ w
      · exact k1_calls f1 f2 A c f3 _ w
      · exact k2_calls f1 f2 A c f3 _ w
      · exact k3_calls f1 f2 A c f3 _ w
      · exact k4_calls f1 f2 A c f3 _ w
      · exact kx_calls f0 f1 f2 A c f3 _ w h
theorem check_calls (x : V) (A : Option Addr) (c : Nat) (w : World) (hl : x.f3.length ≤ c) (hc : kV.C w A x.f3.length x.f3) : Calls Try.prog 19 #[.agg (aggV x A c)] w fun e w' => e = .returned (.int .i64 (if mayN 16 x = true then 0 else 1)) ∧ Below w.heap.size w w' := by
  have HB := Lib.hid (below_alloc (Below.refl w.heap.size w) (.cells (aggV x A c) 24))
  have HV : Hid ((w.alloc (.cells (aggV x A c) 24)).heap[w.heap.size]? = some (.cells (aggV x A c) 24 (0, 0))) := Lib.hid (blk_new _ _)
  have T := Lib.hid (may_calls 16 (by decide) x A c _ hl (Kd.C_below hc HB.out))
  have c0 := blk_cell HV.out 0
  have c1 := blk_cell HV.out 1
  have c2 := blk_cell HV.out 2
  have c3 := blk_cell HV.out 3
  obtain ⟨r, hr⟩ : ∃ r, r = mayN 16 x := ⟨_, rfl⟩
  rw [← hr] at T ⊢
  clear hc hl hr
  go_enter Try.func19, Try.ntmps19
  go_wp2_with fail
  refine T.out.mono ?_
  rintro e w2 ⟨rfl, hb⟩
  have HB2 := Lib.hid (below_then HB.out HB.out.size hb)
  clear hb T
  cases r
  · go_wp2_with fail
    go_ret
    exact ⟨rfl, HB2.out⟩
  · go_wp2_with fail
    go_ret
    exact ⟨rfl, HB2.out⟩
end Go.Proofs.Ytcilojakgnjjmaa.MeN
namespace Go.Proofs.Ytcilojakgnjjmaa.Mem
open Go.RowKit Go.Proofs.YtcilojakgnjjmaaW.PrintWords

/-- A row of whole numbers (element type e) of the call's own. -/
def Ow (k : IntKind) (e : Nat) (w : World) (base : Nat) (v : Value) (xs : List Int) : Prop := (Kd.int k).R e w base (fun _ => True) v xs
/-- One to which an append makes a row of the call's own: it is that already, or it has no room. -/
def Ap (k : IntKind) (e : Nat) (w : World) (base : Nat) (v : Value) (xs : List Int) : Prop := Ow k e w base v xs ∨ ∃ A, v = .slice A xs.length xs.length ∧ (Kd.int k).C w A xs.length xs
theorem Ow.below {k : IntKind} {e : Nat} {w w1 : World} {base : Nat} {v : Value} {xs : List Int} (h : Ow k e w base v xs) (hb : Below w.heap.size w w1) : Ow k e w1 base v xs := Kd.R_below h hb
theorem Ow.lower {k : IntKind} {e : Nat} {w : World} {base base' : Nat} {v : Value} {xs : List Int} (h : Ow k e w base v xs) (hb : base' ≤ base) : Ow k e w base' v xs := Kd.R_lower h hb
theorem Ow.reads {k : IntKind} {e : Nat} {w : World} {base : Nat} {v : Value} {xs : List Int} (h : Ow k e w base v xs) : ∃ A c, v = .slice A xs.length c ∧ xs.length ≤ c ∧ (Kd.int k).C w A xs.length xs := Kd.R_reads h
theorem Ow.nil (k : IntKind) (e : Nat) (w : World) (base : Nat) : Ow k e w base (.slice none 0 0) [] := Kd.R_nil _ _ _ _ _
theorem below_trans {w w1 w2 : World} {B : Nat} (h : Below B w w1) (k : Below w1.heap.size w1 w2) (hB : B ≤ w.heap.size) : Below B w w2 := below_then h (Nat.le_trans hB h.size) k
theorem Ap.slice {k : IntKind} {e : Nat} {w : World} {base : Nat} {v : Value} {xs : List Int} (h : Ap k e w base v xs) : ∃ A c, v = .slice A xs.length c ∧ xs.length ≤ c := by
  rcases h with h | ⟨A, rfl, _⟩
  · obtain ⟨A, c, rfl, hc, _⟩ := Ow.reads h; exact ⟨A, c, rfl, hc⟩
  · exact ⟨A, _, rfl, Nat.le_refl _⟩
theorem Ap.below {k : IntKind} {e : Nat} {w w1 : World} {base : Nat} {v : Value} {xs : List Int} (h : Ap k e w base v xs) (hb : Below w.heap.size w w1) : Ap k e w1 base v xs := by
  rcases h with h | ⟨A, rfl, hC⟩
  · exact .inl (h.below hb)
  · exact .inr ⟨A, rfl, Kd.C_below hC hb⟩
theorem Ap.alloc {k : IntKind} {e : Nat} {w : World} {base : Nat} {v : Value} {xs : List Int} (h : Ap k e w base v xs) (o : Obj) : Ap k e (w.alloc o) base v xs := h.below (below_alloc (Below.refl _ _) o)
theorem cells_of_C {k : IntKind} {w : World} {A : Option Addr} {n : Nat} {xs : List Int} (h : (Kd.int k).C w A n xs) (b : Addr) (hb : A = some b) : ∀ j u, (nums k xs)[j]? = some u → w.cell? (b.add j) = some u := by
  intro j u hu
  have hr : ReadsOf (Value.int k) (0 : Int) w A n xs := Kd.reads_of_C h
  have hj : j < xs.length := by
    rcases Nat.lt_or_ge j xs.length with h | h
    · exact h
    · simp [nums, List.getElem?_eq_none h] at hu
  obtain ⟨ad, e, hc⟩ := hr.2.2 (by have := hr.1; omega)
  rw [hb] at e
  injection e with e
  subst e
  have := hc j (by have := hr.1; omega)
  rw [this]
  simp [nums, List.getElem?_eq_getElem hj] at hu
  subst hu
  simp [List.getD_eq_getElem?_getD, List.getElem?_eq_getElem hj]
section
variable {P : Program} {ops : Array Oper} {rest : List Oper} {o : Oper} {a : Act} {Q : Exit → Act → World → Prop}
/-- append(v, ys...): to a row of the call's own, or to a slice without room. -/
theorem ap_append {w0 W : World} (base : Nat) (hgd : o.guard = none) (s x : Operand) (t e : TypeId) (k : IntKind) (bytes : Nat)
    (ho : o.op = .call { callee := .builtin .append, args := #[s, x], argTypes := #[t, t] })
    (ht : P.underlying t = some (.slice e)) (hinfo : (P.info? e).map (fun i => (i.zero, i.size, i.bytes)) = some (some (.int k 0), 1, bytes)) (hb0 : 0 < bytes)
    (v : Value) (xs ys : List Int) (B : Option Addr) (m c : Nat) (hs : a.eval s = v) (hx : a.eval x = .slice B m c) (hm : 0 < m)
    (HO : Ap k e W base v xs) (HR : (Kd.int k).C W B m ys) (HB : Below base w0 W) (hbase : base ≤ W.heap.size) (hl : (xs.length + m) * bytes ≤ 140737488355328)
    (h : ∀ v1 w1, Ow k e w1 base v1 (xs ++ ys) → Below base w0 w1 → W.grownBy w1 v.ownBlock ∨ W.grownBy w1 none → wpList P ops Q rest (a.put o.dst v1) w1) :
    wpList P ops Q (o :: rest) a W := by
  rcases HO with HO | ⟨A, rfl, hC⟩
  · exact Kd.R_append_rows (Kd.int k) (w0 := w0) base hgd s x t e (.int k 0) bytes ho ht hinfo rfl Nat.zero_lt_one hb0 v xs ys B m c (fun _ => True) (fun _ => False) hs hx HO HR
      (fun y cs hk => hk) (fun _ hk => hk.elim) (fun _ _ => trivial) HB hbase hl (fun v1 w1 h1 h2 h3 _ => h v1 w1 h1 h2 (.inl h3))
  · obtain ⟨i0, hi, hzz⟩ := Option.map_eq_some_iff.1 hinfo
    simp only [Prod.mk.injEq] at hzz
    obtain ⟨hz0, hz1, hz2⟩ := hzz
    have hlen : xs.length + m ≤ 140737488355328 := Nat.le_trans (Nat.le_mul_of_pos_right _ hb0) hl
    obtain ⟨ad, rfl, _⟩ := HR.2.2 hm
    have hml : ys.length = m := HR.1
    subst hml
    refine wpList_append_grows W hgd s x t ho e i0 (.int k 0) 1 bytes ht hi hz0 hz1 hz2 rfl (by omega) A xs.length xs.length (nums k xs) hs ?_ (by simp [nums]) (cells_of_C hC)
      ad _ c (nums k ys) hx (by simp [nums]) (cells_of_C HR ad rfl) (by simp [nums, Value.oneCell']) (by omega) (by simp only [maxLen]; omega) hl ?_
    · intro hA
      rcases Nat.eq_zero_or_pos xs.length with h0 | h0
      · omega
      · obtain ⟨ad, he, _⟩ := hC.2.2 h0
        rw [hA] at he; cases he
    · intro v' w' hown hg
      refine h v' w' ?_ ?_ (.inr hg)
      · refine Kd.R_lower (Kd.R_of_own (enc := Value.int k) (h1 := fun _ => rfl) ?_ (fun _ _ => trivial)) (base := W.heap.size) hbase
        simpa [encs, nums] using hown
      · exact HB.grown hg hbase (by intro k hk; cases hk)
end
/-- The cells of an owned row. -/
theorem Ow.cells {k : IntKind} {e : Nat} {w : World} {base : Nat} {v : Value} {xs : List Int} (h : Ow k e w base v xs) (hp : 0 < xs.length) : ∃ g cap, v = .slice (some ⟨g, 0, none⟩) xs.length cap ∧ xs.length ≤ cap ∧ base ≤ g ∧ g < w.heap.size ∧ ∀ i x, xs[i]? = some x → w.cell? ⟨g, i, none⟩ = some (.int k x) := by
  obtain ⟨g, cap, rfl, hb, hl, _⟩ := Kd.R_form h hp
  obtain ⟨_, hc, hC⟩ := Kd.R_reads' h
  refine ⟨g, cap, rfl, hc, hb, hl, fun i x hx => ?_⟩
  have hr : ReadsOf (Value.int k) (0 : Int) w (some ⟨g, 0, none⟩) xs.length xs := Kd.reads_of_C hC
  have hi : i < xs.length := (List.getElem?_eq_some_iff.1 hx).1
  obtain ⟨ad, e, hcell⟩ := hr.2.2 hp
  injection e with e
  subst e
  have := hcell i hi
  rw [List.getD_eq_getElem?_getD, hx] at this
  rw [show (⟨g, 0, none⟩ : Addr).add i = ⟨g, i, none⟩ by unfold Addr.add; split <;> simp_all] at this
  exact this
/-- What a slice literal of whole numbers reads as. -/
theorem C_lit {k : IntKind} {w : World} (ys : List Int) (cs : Array Value) (e : TypeId) (hc : cs.toList = nums k ys) (hy : ys.length ≤ 9223372036854775807) : (Kd.int k).C (w.alloc (.cells cs e)) (some ⟨w.heap.size, 0, none⟩) ys.length ys := by
  refine Kd.C_of_reads (d := (0 : Int)) ⟨rfl, hy, fun h => ⟨_, rfl, fun j hj => ?_⟩⟩
  have hb : (w.alloc (.cells cs e)).heap[w.heap.size]? = some (.cells cs e (0, 0)) := heap_alloc_new w _
  have e : cs.toList[j]? = some (Value.int k (ys.getD j 0)) := by
    rw [hc]
    simp [nums, List.getD_eq_getElem?_getD, List.getElem?_eq_getElem hj]
  exact World.news_of_block hb j _ e
end Go.Proofs.Ytcilojakgnjjmaa.Mem
/- The bytes of numbers. -/
namespace Go.Proofs.Ytcilojakgnjjmaa.WireP
/-- A number's bytes, little-endian, seven bits each. -/
def uv (n : Nat) : List Int := if n < 128 then [(n : Int)] else (((n % 128 : Nat) : Int) + 128) :: uv (n / 128)
termination_by n
theorem uv_lt {n : Nat} (h : n < 128) : uv n = [(n : Int)] := by rw [uv, if_pos h]
theorem uv_ge {n : Nat} (h : 128 ≤ n) : uv n = (((n % 128 : Nat) : Int) + 128) :: uv (n / 128) := by rw [uv, if_neg (by omega)]
theorem uv_pos (n : Nat) : 0 < (uv n).length := by
  rw [uv]
  split <;> simp
theorem uv_len (k n : Nat) (h : n < 128 ^ k) (hk : 0 < k) : (uv n).length ≤ k := by
  induction k generalizing n with
  | zero => omega
  | succ k ih =>
    rcases Nat.lt_or_ge n 128 with h1 | h1
    · rw [uv_lt h1]; simp
    · rw [uv_ge h1]
      have hk : 0 < k := by
        rcases Nat.eq_zero_or_pos k with rfl | h2
        · simp at h; omega
        · exact h2
      have := ih (n / 128) (by rw [Nat.pow_succ] at h; omega) hk
      simp; omega
theorem uv_len10 {n : Nat} (h : n < 18446744073709551616) : (uv n).length ≤ 10 := uv_len 10 n (by omega) (by omega)
/-- A number with sign, without. -/
def zig (n : Int) : Nat := if n < 0 then ((-n - 1) * 2 + 1).toNat else (n * 2).toNat
/-- So many bytes of a number. -/
def fx (n : Int) : Nat → List Int
  | 0 => []
  | k + 1 => n % 256 :: fx (n / 256) k
theorem fx_len (n : Int) (k : Nat) : (fx n k).length = k := by
  induction k generalizing n with
  | zero => rfl
  | succ k ih => simp [fx, ih]
theorem fx_succ (n : Int) (i : Nat) : fx n (i + 1) = fx n i ++ [n / 2 ^ (8 * i) % 256] := by
  induction i generalizing n with
  | zero => simp [fx]
  | succ i ih =>
    have e := ih (n / 256)
    rw [show fx n (i + 1 + 1) = n % 256 :: fx (n / 256) (i + 1) from rfl, e, show fx n (i + 1) = n % 256 :: fx (n / 256) i from rfl]
    rw [List.cons_append, Int.ediv_ediv_of_nonneg (show (0 : Int) ≤ 256 by decide), show (256 : Int) * 2 ^ (8 * i) = 2 ^ (8 * (i + 1)) by rw [show 8 * (i + 1) = 8 * i + 8 by omega, Int.pow_add]; omega]
end Go.Proofs.Ytcilojakgnjjmaa.WireP
namespace Go.Proofs.Ytcilojakgnjjmaa.WireP
theorem uv_first {q : Nat} {c : Int} {t : List Int} (h : uv q <+: c :: t) : (q < 128 ∧ c = q) ∨ (128 ≤ q ∧ c = ((q % 128 : Nat) : Int) + 128 ∧ uv (q / 128) <+: t) := by
  rcases Nat.lt_or_ge q 128 with h1 | h1
  · rw [uv_lt h1, List.cons_prefix_cons] at h
    exact .inl ⟨h1, h.1.symm⟩
  · rw [uv_ge h1, List.cons_prefix_cons] at h
    exact .inr ⟨h1, h.1.symm, h.2⟩
/-- What is the next number, and how many bytes it has. -/
def PkOk (ys : List Int) (n k : Nat) : Prop := (0 < k ∧ n < 18446744073709551616 ∧ uv n <+: ys ∧ k = (uv n).length) ∨ (n = 0 ∧ k = 0 ∧ ∀ m, m < 18446744073709551616 → ¬ uv m <+: ys)
structure PkI (ys : List Int) (k acc : Nat) : Prop where
  k9 : k ≤ 9
  lt : acc < 128 ^ k
  len : k ≤ ys.length
  up : ∀ m, 1 ≤ m → uv (acc + m * 128 ^ k) = ys.take k ++ uv m
  any : ∀ m, m < 18446744073709551616 → uv m <+: ys → ∃ q, m = acc + q * 128 ^ k ∧ uv m = ys.take k ++ uv q ∧ (0 < k → 1 ≤ q)
theorem pkI_start (ys : List Int) : PkI ys 0 0 := ⟨by omega, by simp, by omega, fun m _ => by simp, fun m _ _ => ⟨m, by simp, by simp, by omega⟩⟩
theorem pk_rest {ys : List Int} {k q : Nat} (h : ys.take k ++ uv q <+: ys) : uv q <+: ys.drop k := by
  have e : ys = ys.take k ++ ys.drop k := (List.take_append_drop k ys).symm
  have h2 : ys.take k ++ uv q <+: ys.take k ++ ys.drop k := e ▸ h
  exact (List.prefix_append_right_inj _).1 h2
theorem drop_at {ys : List Int} {k : Nat} {c : Int} (h : ys[k]? = some c) : ys.drop k = c :: ys.drop (k + 1) := by
  have hk := (List.getElem?_eq_some_iff.1 h).1
  rw [List.drop_eq_getElem_cons hk, (List.getElem?_eq_some_iff.1 h).2]
theorem take_at {ys : List Int} {k : Nat} {c : Int} (h : ys[k]? = some c) : ys.take (k + 1) = ys.take k ++ [c] := by rw [List.take_add_one, h]; rfl
theorem pkI_more {ys : List Int} {k acc : Nat} {c : Nat} (h : PkI ys k acc) (hk : k ≤ 8) (hc : ys[k]? = some (c : Int)) (h1 : 128 ≤ c) (h2 : c < 256) : PkI ys (k + 1) (acc + (c % 128) * 128 ^ k) := by
  have e1 : c % 128 = c - 128 := by omega
  have hp : 128 ^ (k + 1) = 128 ^ k * 128 := Nat.pow_succ ..
  refine ⟨by omega, ?_, ?_, ?_, ?_⟩
  · have h3 := h.lt
    have : c % 128 * 128 ^ k ≤ 127 * 128 ^ k := Nat.mul_le_mul_right _ (by omega)
    rw [hp]; omega
  · have := (List.getElem?_eq_some_iff.1 hc).1; omega
  · intro m hm
    have e2 : acc + c % 128 * 128 ^ k + m * 128 ^ (k + 1) = acc + (c - 128 + 128 * m) * 128 ^ k := by
      rw [hp, e1, Nat.add_mul, Nat.add_assoc]
      congr 2
      rw [Nat.mul_comm 128 m, Nat.mul_assoc, Nat.mul_comm (128 ^ k) 128]
    rw [e2, h.up _ (by omega), uv_ge (n := c - 128 + 128 * m) (by omega), take_at hc, List.append_assoc]
    rw [show (c - 128 + 128 * m) % 128 = c - 128 by omega, show (c - 128 + 128 * m) / 128 = m by omega]
    rw [show ((c - 128 : Nat) : Int) + 128 = (c : Int) by omega]
    rfl
  · intro m hm hpre
    obtain ⟨q, hq, hu, _⟩ := h.any m hm hpre
    rw [hu] at hpre
    have hr := pk_rest hpre
    rw [drop_at hc] at hr
    rcases uv_first hr with ⟨h3, h4⟩ | ⟨h3, h4, _⟩
    · omega
    · refine ⟨q / 128, ?_, ?_, by omega⟩
      · rw [hq, hp]
        have e3 : q = c % 128 + 128 * (q / 128) := by omega
        have e4 : q * 128 ^ k = c % 128 * 128 ^ k + q / 128 * (128 ^ k * 128) := by
          calc q * 128 ^ k = (c % 128 + 128 * (q / 128)) * 128 ^ k := by rw [← e3]
            _ = _ := by rw [Nat.add_mul, Nat.mul_comm 128 (q / 128), Nat.mul_assoc, Nat.mul_comm 128 (128 ^ k)]
        omega
      · rw [hu, uv_ge h3, take_at hc, List.append_assoc, h4]
        rfl
theorem pkI_done {ys : List Int} {k acc : Nat} {c : Nat} (h : PkI ys k acc) (hc : ys[k]? = some (c : Int)) (h1 : c < 128) (h2 : k = 9 → c ≤ 1) (h3 : c = 0 → k = 0) : PkOk ys (acc + c * 128 ^ k) (k + 1) := by
  have hu : uv (acc + c * 128 ^ k) = ys.take (k + 1) := by
    rcases Nat.eq_zero_or_pos c with h0 | h0
    · obtain rfl := h3 h0
      subst h0
      have := h.lt
      have e : acc = 0 := by simpa using this
      subst e
      rw [take_at hc]
      simp [uv_lt]
    · rw [h.up c h0, take_at hc, uv_lt h1]
  have hk := (List.getElem?_eq_some_iff.1 hc).1
  refine .inl ⟨by omega, ?_, ?_, ?_⟩
  · have h5 := h.lt
    rcases Nat.lt_or_ge k 9 with h4 | h4
    · have h6 : 128 ^ (k + 1) ≤ 128 ^ 9 := Nat.pow_le_pow_right (by omega) (by omega)
      have h7 : c * 128 ^ k ≤ 127 * 128 ^ k := Nat.mul_le_mul_right _ (by omega)
      rw [Nat.pow_succ] at h6
      have h8 : (128 : Nat) ^ 9 = 9223372036854775808 := by decide
      omega
    · have e9 : k = 9 := by have := h.k9; omega
      have := h2 e9
      subst e9
      have h8 : (128 : Nat) ^ 9 = 9223372036854775808 := by decide
      have h7 : c * 128 ^ 9 ≤ 1 * 128 ^ 9 := Nat.mul_le_mul_right _ this
      omega
  · rw [hu]; exact List.take_prefix _ _
  · rw [hu, List.length_take]; omega
theorem pkI_end {ys : List Int} {k acc : Nat} (h : PkI ys k acc) (hk : ys.length ≤ k) : PkOk ys 0 0 := by
  refine .inr ⟨rfl, rfl, fun m hm hp => ?_⟩
  obtain ⟨q, _, hu, _⟩ := h.any m hm hp
  rw [hu] at hp
  have := pk_rest hp
  rw [List.drop_of_length_le hk] at this
  have h1 := this.length_le
  have h2 := uv_pos q
  rw [List.length_nil] at h1
  omega
theorem pkI_zero {ys : List Int} {k acc : Nat} (h : PkI ys k acc) (hc : ys[k]? = some 0) (hk : 0 < k) : PkOk ys 0 0 := by
  refine .inr ⟨rfl, rfl, fun m hm hp => ?_⟩
  obtain ⟨q, _, hu, hq⟩ := h.any m hm hp
  have := hq hk
  rw [hu] at hp
  have h1 := pk_rest hp
  rw [drop_at hc] at h1
  rcases uv_first h1 with ⟨h3, h4⟩ | ⟨h3, h4, _⟩ <;> omega
theorem pkI_big {ys : List Int} {acc : Nat} {c : Int} (h : PkI ys 9 acc) (hc : ys[9]? = some c) (h1 : 1 < c) : PkOk ys 0 0 := by
  refine .inr ⟨rfl, rfl, fun m hm hp => ?_⟩
  obtain ⟨q, hm2, hu, hq⟩ := h.any m hm hp
  have := hq (by omega)
  have h8 : (128 : Nat) ^ 9 = 9223372036854775808 := by decide
  rw [h8] at hm2
  have hq1 : q = 1 := by omega
  rw [hu] at hp
  have h5 := pk_rest hp
  rw [drop_at hc] at h5
  rcases uv_first h5 with ⟨h3, h4⟩ | ⟨h3, h4, _⟩ <;> omega
/-- No code begins another: what is read is what was written. -/
theorem uv_prefix : ∀ (a b : Nat) (t : List Int), uv a <+: uv b ++ t → a = b := by
  intro a
  induction a using Nat.strongRecOn with
  | ind a ih =>
    intro b t h
    rcases Nat.lt_or_ge b 128 with h1 | h1
    · rw [uv_lt h1] at h
      rcases uv_first (c := (b : Int)) h with ⟨h2, h3⟩ | ⟨h2, h3, _⟩ <;> omega
    · rw [uv_ge h1] at h
      rcases uv_first h with ⟨h2, h3⟩ | ⟨h2, h3, h4⟩
      · omega
      · have := ih (a / 128) (by omega) (b / 128) t h4
        omega
theorem pk_of_uv {n : Nat} {t : List Int} {m k : Nat} (hn : n < 18446744073709551616) (h : PkOk (uv n ++ t) m k) : m = n ∧ k = (uv n).length := by
  rcases h with ⟨_, _, h1, h2⟩ | ⟨_, _, h1⟩
  · have := uv_prefix m n t h1
    subst this
    exact ⟨rfl, h2⟩
  · exact absurd (List.prefix_append _ _) (h1 n hn)
theorem pk_unique {ys : List Int} {n k m j : Nat} (h : PkOk ys n k) (h' : PkOk ys m j) : n = m ∧ k = j := by
  rcases h with ⟨h0, h1, h2, h3⟩ | ⟨h1, h2, h3⟩ <;> rcases h' with ⟨k0, k1, k2, k3⟩ | ⟨k1, k2, k3⟩
  · obtain ⟨t, rfl⟩ := k2
    have := uv_prefix n m t h2
    subst this
    exact ⟨rfl, by omega⟩
  · exact absurd h2 (k3 n h1)
  · exact absurd k2 (h3 m k1)
  · exact ⟨by omega, by omega⟩
end Go.Proofs.Ytcilojakgnjjmaa.WireP
/- A number's bytes: the program's, the document's. -/
namespace Go.Proofs.Ytcilojakgnjjmaa.UvW
open Go.RowKit Go.Proofs.YtcilojakgnjjmaaW.PrintWords Mem WireP
abbrev BK : Kd Int := Kd.int .u8
theorem info5 : (Try.prog.info? 5).map (fun i => (i.zero, i.size, i.bytes)) = some (some (.int .u8 0), 1, 1) := by kernel_rfl
theorem own_calls (A : Option Addr) (n c : Nat) (w : World) (h : n ≤ c) :
    Calls Try.prog 57 #[.slice A n c] w fun e w' => e = .returned (.slice A n n) ∧ w = w' := by
  go_enter Try.func57, Try.ntmps57
  go_wp2
  go_ret
  exact ⟨rfl, rfl⟩
theorem or128' : ∀ k : Fin 256, Go.bits .or .u8 ((k.1 : Nat) : Int) 128 = ((k.1 : Nat) : Int) % 128 + 128 := by decide +kernel
theorem or128 (m : Int) : Go.bits .or .u8 (m % 256) 128 = m % 128 + 128 := by
  obtain ⟨k, hk⟩ := Int.eq_ofNat_of_zero_le (Int.emod_nonneg m (b := 256) (by decide))
  have := or128' ⟨k, by omega⟩
  simp only at this
  rw [hk]
  rw [show m % 128 = (k : Int) % 128 by omega]
  exact this
/-- The loop's state: what was written, the number that is left. -/
def UvI (xs : List Int) (n : Nat) (ys : List Int) (m : Int) : Prop := 0 ≤ m ∧ ys ++ uv m.toNat = xs ++ uv n
theorem uvI_more {xs ys : List Int} {n : Nat} {m : Int} (h : UvI xs n ys m) (hm : 128 ≤ m) : UvI xs n (ys ++ [m % 128 + 128]) (m / 128) := by
  refine ⟨by have := h.1; omega, ?_⟩
  rw [← h.2, uv_ge (n := m.toNat) (by omega), List.append_assoc]
  have e1 : ((m.toNat % 128 : Nat) : Int) = m % 128 := by omega
  have e2 : m.toNat / 128 = (m / 128).toNat := by omega
  rw [e1, e2]; rfl
theorem uvI_done {xs ys : List Int} {n : Nat} {m : Int} (h : UvI xs n ys m) (hm : m < 128) : ys ++ [m] = xs ++ uv n := by
  rw [← h.2, uv_lt (n := m.toNat) (by omega)]
  have := h.1
  rw [show ((m.toNat : Nat) : Int) = m by omega]
theorem uvI_len {xs ys : List Int} {n : Nat} {m : Int} (h : UvI xs n ys m) : ys.length + 1 ≤ xs.length + (uv n).length := by
  have := congrArg List.length h.2
  have := uv_pos m.toNat
  simp only [List.length_append] at *
  omega
set_option maxHeartbeats 400000 in
theorem uvarint_calls (A : Option Addr) (c : Nat) (xs : List Int) (n : Int) (w : World) (hc : xs.length ≤ c) (hx : BK.C w A xs.length xs) (hn : 0 ≤ n ∧ n < 18446744073709551616) (hl : xs.length + 10 ≤ 140737488355328) :
    Calls Try.prog 48 #[.slice A xs.length c, .int .u64 n] w fun e w' => ∃ v, e = .returned v ∧ Ow .u8 5 w' w.heap.size v (xs ++ uv n.toNat) ∧ Below w.heap.size w w' := by
  have HC := Lib.hid hx
  have HL : Hid (xs.length + (uv n.toNat).length ≤ 140737488355328) := Lib.hid (by have := uv_len10 (n := n.toNat) (by omega); omega)
  have HI : Hid (UvI xs n.toNat xs n) := Lib.hid ⟨hn.1, rfl⟩
  clear hx hn hl
  go_enter Try.func48, Try.ntmps48
  go_wp2_with fail
  refine (own_calls _ _ _ _ hc).mono ?_
  rintro e w' ⟨rfl, rfl⟩
  clear hc
  go_wp2_with fail
  go_loopw [0, 1] (fun v n' wr => ∃ (ni : Int) (ys : List Int), n' = .int .u64 ni ∧ Hid (Ap .u8 5 wr w.heap.size v ys) ∧ Hid (UvI xs n.toNat ys ni) ∧ Hid (Below w.heap.size w wr)) (fun _ n' _ => (intOf n').toNat)
  case atStart => exact ⟨_, _, rfl, Lib.hid (.inr ⟨_, rfl, HC.out⟩), HI, Lib.hid (Below.refl _ _)⟩
  case round =>
    obtain ⟨ni, ys, rfl, HA, HE, HB⟩ := hrel
    have HM : Hid ((ys.length + 1) * 1 ≤ 140737488355328) := Lib.hid (by have := uvI_len HE.out; have := HL.out; omega)
    by_cases h : 128 ≤ ni
    · have h1 : decide (128 ≤ ni) = true := decide_eq_true h
      have HN := Lib.hid h
      clear h HI
      go_wp2_with (at_builtin; go_must (refine ap_append (w0 := w) w.heap.size rfl _ _ 39 5 .u8 1 rfl Try.underlying39 info5 (by decide) _ ys [_] _ 1 1 rfl rfl (by decide) (by exact HA.out.alloc _) (by exact C_lit [_] _ _ rfl (Nat.le_of_ble_eq_true rfl)) (by exact below_alloc HB.out _) (by exact (below_alloc HB.out _).size) (by exact HM.out) ?_); intro v1 w1 ho hb hg; clear HA HB hg; have HA := Lib.hid ho; have HB := Lib.hid hb; clear ho hb)
      go_roundw
      case rel =>
        refine ⟨_, _, rfl, Lib.hid (.inl HA.out), Lib.hid ?_, HB⟩
        have := uvI_more HE.out HN.out
        rw [or128]
        exact this
      case measure => have := HN.out; simp [intOf]; omega
    · have h1 : decide (128 ≤ ni) = false := decide_eq_false h
      have HN : Hid (ni < 128) := Lib.hid (by omega)
      clear h HI
      go_wp2_with (at_builtin; go_must (refine ap_append (w0 := w) w.heap.size rfl _ _ 39 5 .u8 1 rfl Try.underlying39 info5 (by decide) _ ys [_] _ 1 1 rfl rfl (by decide) (by exact HA.out.alloc _) (by exact C_lit [_] _ _ rfl (Nat.le_of_ble_eq_true rfl)) (by exact below_alloc HB.out _) (by exact (below_alloc HB.out _).size) (by exact HM.out) ?_); intro v1 w1 ho hb hg; clear HA HB hg; have HA := Lib.hid ho; have HB := Lib.hid hb; clear ho hb)
      go_ret
      refine ⟨_, rfl, ?_, HB.out⟩
      have e := uvI_done HE.out HN.out
      have hm : ni % 256 = ni := by have := HN.out; have := HE.out.1; omega
      rw [← e, ← hm]
      exact HA.out
theorem ow0 (w : World) (b : Nat) : Ow .u8 5 w b (.slice none 0 0) [] := Ow.nil _ _ _ _
set_option maxHeartbeats 400000 in
theorem ref_uvarint (n : Int) (w : World) (hn : 0 ≤ n ∧ n < 18446744073709551616) :
    Calls Try.prog 31 #[.int .u64 n] w fun e w' => ∃ v, e = .returned v ∧ Ow .u8 5 w' w.heap.size v (uv n.toNat) ∧ Below w.heap.size w w' := by
  have HL : Hid ((uv n.toNat).length ≤ 10) := Lib.hid (uv_len10 (n := n.toNat) (by omega))
  have HI : Hid (UvI [] n.toNat [] n) := Lib.hid ⟨hn.1, rfl⟩
  have HT := Lib.hid hn.2
  clear hn
  go_enter Try.func31, Try.ntmps31
  go_wp2_with fail
  go_loopw [0, 3] (fun n' v wr => ∃ (ni : Int) (ys : List Int), n' = .int .u64 ni ∧ Hid (Ow .u8 5 wr w.heap.size v ys) ∧ Hid (UvI [] n.toNat ys ni) ∧ Hid (ni < 18446744073709551616) ∧ Hid (Below w.heap.size w wr)) (fun n' _ _ => (intOf n').toNat)
  case atStart => exact ⟨_, _, rfl, Lib.hid (ow0 _ _), HI, HT, Lib.hid (Below.refl _ _)⟩
  case round =>
    obtain ⟨ni, ys, rfl, HA, HE, HS, HB⟩ := hrel
    have HM : Hid ((ys.length + 1) * 1 ≤ 140737488355328) := Lib.hid (by have h1 := uvI_len HE.out; have h2 := HL.out; rw [List.length_nil] at h1; omega)
    by_cases h : 128 ≤ ni
    · have h1 : decide (128 ≤ ni) = true := decide_eq_true h
      have HN := Lib.hid h
      clear h HI
      go_wp2_with (at_builtin; go_must (refine Kd.R_append BK (w0 := w) w.heap.size rfl _ _ 39 5 (.int .u8 0) 1 rfl Try.underlying39 info5 rfl (by decide) (by decide) _ _ _ [_] (fun _ => True) (fun _ => False) rfl rfl rfl (fun _ hk => hk.elim) (fun _ _ => trivial) (by exact HA.out) (by exact HB.out) (by exact HB.out.size) (by exact HM.out) ?_); intro v1 w1 ho hb hg hg2; clear HA HB hg hg2; have HA := Lib.hid ho; have HB := Lib.hid hb; clear ho hb)
      go_roundw
      case rel =>
        refine ⟨_, _, rfl, HA, Lib.hid ?_, Lib.hid ?_, HB⟩
        have h0 := HN.out
        have := uvI_more HE.out HN.out
        · rw [Go.IntKind.wrap_u64, Int.tmod_eq_emod_of_nonneg (by omega), Int.tdiv_eq_ediv_of_nonneg (by omega)]
          rw [show (ni % 128 + 128) % 256 = ni % 128 + 128 by omega, show ni / 128 % 18446744073709551616 = ni / 128 by have := HS.out; omega]
          exact this
        · have := HS.out; rw [Go.IntKind.wrap_u64]; omega
      case measure => have := HN.out; simp only [intOf]; rw [Go.IntKind.wrap_u64, Int.tdiv_eq_ediv_of_nonneg (by omega)]; omega
    · have h1 : decide (128 ≤ ni) = false := decide_eq_false h
      have HN : Hid (ni < 128) := Lib.hid (by omega)
      clear h HI
      go_wp2_with (at_builtin; go_must (refine Kd.R_append BK (w0 := w) w.heap.size rfl _ _ 39 5 (.int .u8 0) 1 rfl Try.underlying39 info5 rfl (by decide) (by decide) _ _ _ [_] (fun _ => True) (fun _ => False) rfl rfl rfl (fun _ hk => hk.elim) (fun _ _ => trivial) (by exact HA.out) (by exact HB.out) (by exact HB.out.size) (by exact HM.out) ?_); intro v1 w1 ho hb hg hg2; clear HA HB hg hg2; have HA := Lib.hid ho; have HB := Lib.hid hb; clear ho hb)
      go_ret
      refine ⟨_, rfl, ?_, HB.out⟩
      have e := uvI_done HE.out HN.out
      have hm : ni % 256 = ni := by have := HN.out; have := HE.out.1; omega
      rw [List.nil_append] at e
      rw [← e, ← hm]
      exact HA.out
end Go.Proofs.Ytcilojakgnjjmaa.UvW
/- A value as the program has it: a tree of interface values. -/
set_option linter.unusedSimpArgs false
set_option linter.unusedVariables false
namespace Go.Proofs.Ytcilojakgnjjmaa.MeA
open Go Go.RowKit Go.Proofs.YtcilojakgnjjmaaW.PrintWords Go.Proofs.YtcilojakgnjjmaaW.PrintLast Go.Proofs.YtcilojakgnjjmaaW.PrintMore Mem PAll MeP MeM MeN WireP UvW
/-- A text's bytes. -/
def byt (s : ByteArray) : List Int := s.data.toList.map (fun b => (b.toNat : Int))
theorem byt_len (s : ByteArray) : (byt s).length = s.size := by unfold byt; rw [List.length_map]; rfl
/-- A value's tree in memory; where its blocks may be: ok. -/
def An : Nat → World → (Nat → Prop) → V → Value → Prop
  | n, w, ok, v, a =>
    (v.f0 = 0 ∧ a = .nilIface) ∨ (v.f0 = 1 ∧ a = .iface 4 (.bool (v.f1 == 1))) ∨ (v.f0 = 2 ∧ a = .iface 2 (.int .i64 v.f1)) ∨ (v.f0 = 3 ∧ a = .iface 9 (.string v.f2)) ∨
    (v.f0 = 4 ∧ ∃ (g c : Nat), a = .iface 39 (.slice (some ⟨g, 0, none⟩) (byt v.f2).length c) ∧ (byt v.f2).length ≤ c ∧ ok g ∧ g < w.heap.size ∧ ∀ (j : Nat) (b : Int), (byt v.f2)[j]? = some b → w.cell? ⟨g, j, none⟩ = some (.int .u8 b)) ∨
    (v.f0 = 5 ∧ ∃ (g c : Nat), a = .iface 59 (.slice (some ⟨g, 0, none⟩) v.f3.length c) ∧ v.f3.length ≤ c ∧ ok g ∧ g < w.heap.size ∧
      match n with
      | 0 => False
      | m + 1 => ∀ (j : Nat) (x : V), v.f3[j]? = some x → ∃ a', w.cell? ⟨g, j, none⟩ = some a' ∧ An m w ok x a')
theorem lt_kept {w w1 : World} {k : Nat} (h : w1.heap[k]? = w.heap[k]?) (hk : k < w.heap.size) : k < w1.heap.size := by
  rw [Array.getElem?_eq_getElem hk] at h
  exact (Array.getElem?_eq_some_iff.1 h).1
theorem An.move {w w1 : World} {ok ok1 : Nat → Prop} (hk : ∀ k, ok k → k < w.heap.size → w1.heap[k]? = w.heap[k]? ∧ ok1 k) : ∀ (n : Nat) (v : V) (a : Value), An n w ok v a → An n w1 ok1 v a := by
  intro n
  induction n with
  | zero =>
    intro v a h
    unfold An at h ⊢
    rcases h with h | h | h | h | ⟨h0, g, c, h1, h2, h3, h4, h5⟩ | ⟨_, _, _, _, _, _, _, h⟩
    · exact .inl h
    · exact .inr (.inl h)
    · exact .inr (.inr (.inl h))
    · exact .inr (.inr (.inr (.inl h)))
    · have hg := hk g h3 h4
      exact .inr (.inr (.inr (.inr (.inl ⟨h0, g, c, h1, h2, hg.2, lt_kept hg.1 h4, fun j b hb => (World.cell?_of_block (a := ⟨g, j, none⟩) hg.1).trans (h5 j b hb)⟩))))
    · exact h.elim
  | succ m ih =>
    intro v a h
    unfold An at h ⊢
    rcases h with h | h | h | h | ⟨h0, g, c, h1, h2, h3, h4, h5⟩ | ⟨h0, g, c, h1, h2, h3, h4, h5⟩
    · exact .inl h
    · exact .inr (.inl h)
    · exact .inr (.inr (.inl h))
    · exact .inr (.inr (.inr (.inl h)))
    · have hg := hk g h3 h4
      exact .inr (.inr (.inr (.inr (.inl ⟨h0, g, c, h1, h2, hg.2, lt_kept hg.1 h4, fun j b hb => (World.cell?_of_block (a := ⟨g, j, none⟩) hg.1).trans (h5 j b hb)⟩))))
    · have hg := hk g h3 h4
      refine .inr (.inr (.inr (.inr (.inr ⟨h0, g, c, h1, h2, hg.2, lt_kept hg.1 h4, fun j x hx => ?_⟩))))
      obtain ⟨a', h6, h7⟩ := h5 j x hx
      exact ⟨a', (World.cell?_of_block (a := ⟨g, j, none⟩) hg.1).trans h6, ih x a' h7⟩
theorem An.below {w w1 : World} {ok : Nat → Prop} {n : Nat} {v : V} {a : Value} (h : An n w ok v a) (hb : Below w.heap.size w w1) : An n w1 ok v a :=
  An.move (fun k hk hl => ⟨hb.block k hl, hk⟩) n v a h
theorem An.mono {w : World} {ok ok1 : Nat → Prop} {n : Nat} {v : V} {a : Value} (h : An n w ok v a) (hk : ∀ k, ok k → k < w.heap.size → ok1 k) : An n w ok1 v a :=
  An.move (fun k h1 h2 => ⟨rfl, hk k h1 h2⟩) n v a h
theorem An.one {w : World} {ok : Nat → Prop} {n : Nat} {v : V} {a : Value} (h : An n w ok v a) : a.oneCell' = true := by
  unfold An at h
  rcases h with ⟨_, rfl⟩ | ⟨_, rfl⟩ | ⟨_, rfl⟩ | ⟨_, rfl⟩ | ⟨_, _, _, rfl, _⟩ | ⟨_, _, _, rfl, _⟩ <;> rfl
/-- A cell's value, whatever it is. -/
abbrev OC := { a : Value // a.oneCell' = true }
abbrev kR : Kd OC := Kd.scalar (fun x : OC => x.1) (fun x => x.2)
theorem infoA : (Try.prog.info? 20).map (fun i => (i.zero, i.size, i.bytes)) = some (some .nilIface, kR.sz, 16) := by kernel_rfl
theorem below_bytes (w : World) (s : ByteArray) : Below w.heap.size w (Lib.bytesWorld w 5 s) := by
  refine ⟨rfl, ?_, rfl, by rw [Lib.bytesWorld_size]; omega, fun k hk => Lib.bytesWorld_at_old w _ s k hk⟩
  rfl
theorem tree0_calls (n : Nat) (f1 : Int) (f2 : ByteArray) (A : Option Addr) (c : Nat) (f3 : List V) (w : World) (ok : Nat → Prop) :
    Calls Try.prog 23 #[.agg #[.int .i64 0, .int .i64 f1, .string f2, .slice A f3.length c]] w fun e w' => ∃ a, e = .returned a ∧ An n w' ok ⟨0, f1, f2, f3⟩ a ∧ Below w.heap.size w w' := by
  have HB := Lib.hid (below_alloc (Below.refl w.heap.size w) (.cells #[.int .i64 0, .int .i64 f1, .string f2, .slice A f3.length c] 24))
  have HV : Hid ((w.alloc (.cells #[.int .i64 0, .int .i64 f1, .string f2, .slice A f3.length c] 24)).heap[w.heap.size]? = some (.cells #[.int .i64 0, .int .i64 f1, .string f2, .slice A f3.length c] 24 (0, 0))) := Lib.hid (blk_new _ _)
  have c0 := blk_cell HV.out 0
  have c1 := blk_cell HV.out 1
  have c2 := blk_cell HV.out 2
  have c3 := blk_cell HV.out 3
  go_enter Try.func23, Try.ntmps23
  go_wp2_with fail
  go_ret
  refine ⟨_, rfl, ?_, HB.out⟩
  unfold An
  exact .inl ⟨rfl, rfl⟩
theorem tree1_calls (n : Nat) (f1 : Int) (f2 : ByteArray) (A : Option Addr) (c : Nat) (f3 : List V) (w : World) (ok : Nat → Prop) :
    Calls Try.prog 23 #[.agg #[.int .i64 1, .int .i64 f1, .string f2, .slice A f3.length c]] w fun e w' => ∃ a, e = .returned a ∧ An n w' ok ⟨1, f1, f2, f3⟩ a ∧ Below w.heap.size w w' := by
  have HB := Lib.hid (below_alloc (Below.refl w.heap.size w) (.cells #[.int .i64 1, .int .i64 f1, .string f2, .slice A f3.length c] 24))
  have HV : Hid ((w.alloc (.cells #[.int .i64 1, .int .i64 f1, .string f2, .slice A f3.length c] 24)).heap[w.heap.size]? = some (.cells #[.int .i64 1, .int .i64 f1, .string f2, .slice A f3.length c] 24 (0, 0))) := Lib.hid (blk_new _ _)
  have c0 := blk_cell HV.out 0
  have c1 := blk_cell HV.out 1
  have c2 := blk_cell HV.out 2
  have c3 := blk_cell HV.out 3
  go_enter Try.func23, Try.ntmps23
  go_wp2_with fail
  go_ret
  refine ⟨_, rfl, ?_, HB.out⟩
  unfold An
  exact .inr (.inl ⟨rfl, rfl⟩)
theorem tree2_calls (n : Nat) (f1 : Int) (f2 : ByteArray) (A : Option Addr) (c : Nat) (f3 : List V) (w : World) (ok : Nat → Prop) :
    Calls Try.prog 23 #[.agg #[.int .i64 2, .int .i64 f1, .string f2, .slice A f3.length c]] w fun e w' => ∃ a, e = .returned a ∧ An n w' ok ⟨2, f1, f2, f3⟩ a ∧ Below w.heap.size w w' := by
  have HB := Lib.hid (below_alloc (Below.refl w.heap.size w) (.cells #[.int .i64 2, .int .i64 f1, .string f2, .slice A f3.length c] 24))
  have HV : Hid ((w.alloc (.cells #[.int .i64 2, .int .i64 f1, .string f2, .slice A f3.length c] 24)).heap[w.heap.size]? = some (.cells #[.int .i64 2, .int .i64 f1, .string f2, .slice A f3.length c] 24 (0, 0))) := Lib.hid (blk_new _ _)
  have c0 := blk_cell HV.out 0
  have c1 := blk_cell HV.out 1
  have c2 := blk_cell HV.out 2
  have c3 := blk_cell HV.out 3
  go_enter Try.func23, Try.ntmps23
  go_wp2_with fail
  go_ret
  refine ⟨_, rfl, ?_, HB.out⟩
  unfold An
  exact .inr (.inr (.inl ⟨rfl, rfl⟩))
theorem tree3_calls (n : Nat) (f1 : Int) (f2 : ByteArray) (A : Option Addr) (c : Nat) (f3 : List V) (w : World) (ok : Nat → Prop) :
    Calls Try.prog 23 #[.agg #[.int .i64 3, .int .i64 f1, .string f2, .slice A f3.length c]] w fun e w' => ∃ a, e = .returned a ∧ An n w' ok ⟨3, f1, f2, f3⟩ a ∧ Below w.heap.size w w' := by
  have HB := Lib.hid (below_alloc (Below.refl w.heap.size w) (.cells #[.int .i64 3, .int .i64 f1, .string f2, .slice A f3.length c] 24))
  have HV : Hid ((w.alloc (.cells #[.int .i64 3, .int .i64 f1, .string f2, .slice A f3.length c] 24)).heap[w.heap.size]? = some (.cells #[.int .i64 3, .int .i64 f1, .string f2, .slice A f3.length c] 24 (0, 0))) := Lib.hid (blk_new _ _)
  have c0 := blk_cell HV.out 0
  have c1 := blk_cell HV.out 1
  have c2 := blk_cell HV.out 2
  have c3 := blk_cell HV.out 3
  go_enter Try.func23, Try.ntmps23
  go_wp2_with fail
  go_ret
  refine ⟨_, rfl, ?_, HB.out⟩
  unfold An
  exact .inr (.inr (.inr (.inl ⟨rfl, rfl⟩)))
theorem tree4_calls (n : Nat) (f1 : Int) (f2 : ByteArray) (A : Option Addr) (c : Nat) (f3 : List V) (w : World) :
    Calls Try.prog 23 #[.agg #[.int .i64 4, .int .i64 f1, .string f2, .slice A f3.length c]] w fun e w' => ∃ a, e = .returned a ∧ An n w' (fun k => w.heap.size ≤ k) ⟨4, f1, f2, f3⟩ a ∧ Below w.heap.size w w' := by
  have HB := Lib.hid (below_alloc (Below.refl w.heap.size w) (.cells #[.int .i64 4, .int .i64 f1, .string f2, .slice A f3.length c] 24))
  have HV : Hid ((w.alloc (.cells #[.int .i64 4, .int .i64 f1, .string f2, .slice A f3.length c] 24)).heap[w.heap.size]? = some (.cells #[.int .i64 4, .int .i64 f1, .string f2, .slice A f3.length c] 24 (0, 0))) := Lib.hid (blk_new _ _)
  have c0 := blk_cell HV.out 0
  have c1 := blk_cell HV.out 1
  have c2 := blk_cell HV.out 2
  have c3 := blk_cell HV.out 3
  have hcv := Lib.run_convert_string_bytes (P := Try.prog) (w.alloc (.cells #[.int .i64 4, .int .i64 f1, .string f2, .slice A f3.length c] 24)) 9 39 5 f2 Try.underlying9 Try.underlying39 Try.underlying5
  obtain ⟨w1, hw1⟩ : ∃ w1, w1 = w.alloc (.cells #[.int .i64 4, .int .i64 f1, .string f2, .slice A f3.length c] 24) := ⟨_, rfl⟩
  have HS : Hid (w.heap.size ≤ w1.heap.size) := Lib.hid (by rw [hw1]; exact HB.out.size)
  have HW : Hid (Below w.heap.size w (Lib.bytesWorld w1 5 f2)) := Lib.hid (below_then (by rw [hw1]; exact HB.out) HS.out (below_bytes w1 f2))
  have HWN := Lib.hid hw1
  have HSZ : Hid (w1.heap.size = w.heap.size + 1) := Lib.hid (by rw [hw1]; simp only [World.alloc, Array.size_push])
  have hgr : f2.size ≤ grownCap w1 f2.size 0 5 := grownCap_ge w1 f2.size 0 5
  have HG := Lib.hid hgr
  clear hw1 hgr
  go_enter Try.func23, Try.ntmps23
  go_wp2_with fail
  go_ret
  rw [← HWN.out]
  refine ⟨_, rfl, ?_, HW.out⟩
  unfold An
  refine .inr (.inr (.inr (.inr (.inl ⟨rfl, w.heap.size + 1, grownCap w1 f2.size 0 5, ?_, ?_, Nat.le_add_right _ 1, by rw [Lib.bytesWorld_size]; have := HSZ.out; omega, fun j b hb => ?_⟩))))
  · rw [byt_len, HWN.out]; rfl
  · rw [byt_len]; exact HG.out
  · have hj : j < f2.size := by
      have := (List.getElem?_eq_some_iff.1 hb).1
      rwa [byt_len] at this
    rw [← HSZ.out, Lib.bytesWorld_cell w1 _ f2 j hj]
    have e : (byt f2)[j]? = some ((f2.data.toList.getD j 0).toNat : Int) := by
      unfold byt
      rw [List.getElem?_map, List.getD_eq_getElem?_getD]
      have hj2 : j < f2.data.toList.length := hj
      rw [List.getElem?_eq_getElem hj2]
      rfl
    rw [e] at hb
    rw [Option.some.inj hb]
end Go.Proofs.Ytcilojakgnjjmaa.MeA
/- A value as the program has it: lists; every value. -/
set_option linter.unusedSimpArgs false
set_option linter.unusedVariables false
namespace Go.Proofs.Ytcilojakgnjjmaa.MeT
open Go Go.RowKit Go.Proofs.YtcilojakgnjjmaaW.PrintWords Go.Proofs.YtcilojakgnjjmaaW.PrintLast Go.Proofs.YtcilojakgnjjmaaW.PrintMore Mem PAll MeP MeM MeN MeA
/-- No list is too long to be made. -/
def Fit : Nat → V → Prop
  | 0, v => v.f3.length ≤ 2513169434900 ∧ ((-9223372036854775808 ≤ v.f1 ∧ v.f1 < 9223372036854775808) ∧ v.f2.size ≤ 140737488355328)
  | n + 1, v => (v.f3.length ≤ 2513169434900 ∧ ((-9223372036854775808 ≤ v.f1 ∧ v.f1 < 9223372036854775808) ∧ v.f2.size ≤ 140737488355328)) ∧ ∀ x ∈ v.f3, Fit n x
theorem Fit.here {n : Nat} {v : V} (h : Fit n v) : v.f3.length ≤ 2513169434900 ∧ ((-9223372036854775808 ≤ v.f1 ∧ v.f1 < 9223372036854775808) ∧ v.f2.size ≤ 140737488355328) := by
  cases n with
  | zero => exact h
  | succ n => exact h.1
theorem An.shape {w : World} {ok : Nat → Prop} {n : Nat} {v : V} {a : Value} (h : An n w ok v a) : a = .nilIface ∨ ∃ t u, a = .iface t u := by
  unfold An at h
  rcases h with ⟨_, rfl⟩ | ⟨_, rfl⟩ | ⟨_, rfl⟩ | ⟨_, rfl⟩ | ⟨_, _, _, rfl, _⟩ | ⟨_, _, _, rfl, _⟩
  · exact .inl rfl
  all_goals exact .inr ⟨_, _, rfl⟩
set_option maxHeartbeats 8000000 in
set_option maxRecDepth 100000 in
theorem tree5_calls (n : Nat) (f1 : Int) (f2 : ByteArray) (A : Option Addr) (c : Nat) (f3 : List V) (w : World) (hx : kV.C w A f3.length f3) (hl : f3.length ≤ 2513169434900)
    (T : ∀ (x : V), x ∈ f3 → ∀ (A : Option Addr) (c : Nat) (w : World), x.f3.length ≤ c → kV.C w A x.f3.length x.f3 → Calls Try.prog 23 #[.agg (aggV x A c)] w fun e w' => ∃ a, e = .returned a ∧ An n w' (fun k => w.heap.size ≤ k) x a ∧ Below w.heap.size w w') :
    Calls Try.prog 23 #[.agg #[.int .i64 5, .int .i64 f1, .string f2, .slice A f3.length c]] w fun e w' => ∃ a, e = .returned a ∧ An (n + 1) w' (fun k => w.heap.size ≤ k) ⟨5, f1, f2, f3⟩ a ∧ Below w.heap.size w w' := by
  have hs1 : (w.alloc (.cells #[.int .i64 5, .int .i64 f1, .string f2, .slice A f3.length c] 24)).heap.size = w.heap.size + 1 := by simp only [World.alloc, Array.size_push]
  have HB := Lib.hid (below_alloc (below_alloc (Below.refl w.heap.size w) (.cells #[.int .i64 5, .int .i64 f1, .string f2, .slice A f3.length c] 24)) (.cells #[] 20))
  have HV : Hid (((w.alloc (.cells #[.int .i64 5, .int .i64 f1, .string f2, .slice A f3.length c] 24)).alloc (.cells #[] 20)).heap[w.heap.size]? = some (.cells #[.int .i64 5, .int .i64 f1, .string f2, .slice A f3.length c] 24 (0, 0))) := Lib.hid (blk_below (blk_new _ _) (below_alloc (Below.refl _ _) _))
  have HO : Hid (kR.R 20 ((w.alloc (.cells #[.int .i64 5, .int .i64 f1, .string f2, .slice A f3.length c] 24)).alloc (.cells #[] 20)) w.heap.size (fun _ => True) (.slice (some ⟨w.heap.size + 1, 0, none⟩) 0 0) []) := Lib.hid (by
    have h : kR.R 20 ((w.alloc (.cells #[.int .i64 5, .int .i64 f1, .string f2, .slice A f3.length c] 24)).alloc (.cells #[] 20)) w.heap.size (fun _ => True) (.slice (some ⟨(w.alloc (.cells #[.int .i64 5, .int .i64 f1, .string f2, .slice A f3.length c] 24)).heap.size, 0, none⟩) 0 0) [] := ⟨fun _ _ => trivial, OwnRow.lit (w.alloc (.cells #[.int .i64 5, .int .i64 f1, .string f2, .slice A f3.length c] 24)) w.heap.size (ps := []) (inner := []) (Reps.none _ _) (by rw [hs1]; omega) (Nat.zero_le _)⟩
    rw [hs1] at h
    exact h)
  have hs2 : ((w.alloc (.cells #[.int .i64 5, .int .i64 f1, .string f2, .slice A f3.length c] 24)).alloc (.cells #[] 20)).heap.size = w.heap.size + 2 := by simp only [World.alloc, Array.size_push]
  have HC := Lib.hid hx
  have HL := Lib.hid hl
  have HT := Lib.hid T
  have HF : Hid (∃ (g cc : Nat), Value.slice (some ⟨w.heap.size + 1, 0, none⟩) 0 0 = .slice (some ⟨g, 0, none⟩) ([] : List OC).length cc ∧ ([] : List OC).length ≤ cc ∧ w.heap.size ≤ g ∧ g < ((w.alloc (.cells #[.int .i64 5, .int .i64 f1, .string f2, .slice A f3.length c] 24)).alloc (.cells #[] 20)).heap.size) := Lib.hid ⟨w.heap.size + 1, 0, rfl, Nat.le_refl _, by omega, by rw [hs2]; omega⟩
  have c0 := blk_cell HV.out 0
  have c1 := blk_cell HV.out 1
  have c2 := blk_cell HV.out 2
  have c3 := blk_cell HV.out 3
  have hlm : f3.length ≤ 2513169434900 := hl
  clear hx hl T hs1 hs2
  go_enter Try.func23, Try.ntmps23
  go_wp2_with fail
  clear c0 c1 c2 c3
  go_loopw [3, 36] (fun l' i' wr => ∃ (i : Nat) (xs : List OC) (lv : Value), lv = l' ∧ i' = .int .i64 i ∧ Hid (i ≤ f3.length) ∧ Hid (xs.length = i) ∧ Hid (kR.R 20 wr w.heap.size (fun _ => True) lv xs) ∧ Hid (∃ (g cc : Nat), lv = .slice (some ⟨g, 0, none⟩) xs.length cc ∧ xs.length ≤ cc ∧ w.heap.size ≤ g ∧ g < wr.heap.size) ∧ Hid (∀ (j : Nat) (y : OC) (x : V), xs[j]? = some y → f3[j]? = some x → An n wr (fun k => w.heap.size ≤ k ∧ some k ≠ lv.ownBlock) x y.1) ∧ Hid (Below w.heap.size w wr)) (fun _ i' _ => (f3.length - intOf i').toNat)
  case atStart => exact ⟨0, [], _, rfl, rfl, Lib.hid (Nat.zero_le _), Lib.hid rfl, HO, HF, Lib.hid (fun j y x hj => by cases hj), HB⟩
  case round =>
    obtain ⟨i, xs, lv, rfl, rfl, HI, HXL, HR, HFM, HAN, HBR⟩ := hrel
    by_cases h : i < f3.length
    · have hlt : decide (i < f3.length) = true := decide_eq_true h
      have hlt2 : decide ((i : Int) < (f3.length : Int)) = true := decide_eq_true (by omega)
      have i0 : (0 : Int) ≤ i := by omega
      have i1 : (i : Int) < f3.length := by omega
      obtain ⟨ad, x, A3, c3, hx, hA, a0, a1, a2, a3, a4, a5⟩ := at_V (Kd.C_below HC.out HBR.out) i h
      subst hA
      have HX := Lib.hid hx
      have HLT := Lib.hid h
      have HV3 : Hid ((wr.alloc (.cells (aggV x A3 c3) 24)).heap[wr.heap.size]? = some (.cells (aggV x A3 c3) 24 (0, 0))) := Lib.hid (blk_new _ _)
      have HB3 := Lib.hid (below_alloc HBR.out (.cells (aggV x A3 c3) 24))
      have HRR3 := Lib.hid (below_alloc (Below.refl wr.heap.size wr) (.cells (aggV x A3 c3) 24))
      have T := Lib.hid (HT.out x (List.mem_of_getElem? hx) A3 c3 (wr.alloc (.cells (aggV x A3 c3) 24)) a4 (Kd.C_alloc a5 _))
      have d0 := blk_cell HV3.out 0
      have d1 := blk_cell HV3.out 1
      have d2 := blk_cell HV3.out 2
      have d3 := blk_cell HV3.out 3
      obtain ⟨w3, hw3⟩ : ∃ w3, w3 = wr.alloc (.cells (aggV x A3 c3) 24) := ⟨_, rfl⟩
      have HW3 := Lib.hid hw3
      rw [← hw3] at HB3 HRR3 T
      clear h hx a4 a5 hw3
      go_wp2_with fail
      rw [← HW3.out]
      refine T.out.mono ?_
      rintro e w4 ⟨a', rfl, han, hb⟩
      have HB4 := Lib.hid (below_then HB3.out HB3.out.size hb)
      have HRR4 := Lib.hid (below_then HRR3.out HRR3.out.size hb)
      have HA4 := Lib.hid han
      have HR4 := Lib.hid (Kd.R_below HR.out HRR4.out)
      have HS4 : Hid (wr.heap.size ≤ w3.heap.size) := Lib.hid HRR3.out.size
      have HN4 : Hid (∀ (j : Nat) (y : OC) (x : V), xs[j]? = some y → f3[j]? = some x → An n w4 (fun k => (w.heap.size ≤ k ∧ some k ≠ lv.ownBlock) ∧ k < wr.heap.size) x y.1) := Lib.hid (fun j y x h1 h2 => An.move (fun k hk hl => ⟨HRR4.out.block k hl, hk, hl⟩) n x y.1 (HAN.out j y x h1 h2))
      have HOC := Lib.hid (An.one han)
      have HLO := Lib.hid (Kd.R_lt HR.out)
      have hsh := An.shape han
      clear han hb T d0 d1 d2 d3 a0 a1 a2 a3 HW3 HV3 HB3 HRR3 HR HAN
      rcases hsh with rfl | ⟨t9, u9, rfl⟩
      · go_wp2_with (at_builtin; go_must (refine Kd.R_append kR (w0 := w) w.heap.size rfl _ _ 59 20 .nilIface 16 rfl Try.underlying59 infoA rfl (by decide) (by decide) _ _ ⟨(.nilIface), HOC.out⟩ [(.nilIface)] (fun _ => True) (fun _ => False) rfl rfl rfl (fun _ hk => hk.elim) (fun _ _ => trivial) (by exact HR4.out) (by exact HB4.out) (by exact HB4.out.size) ?hl ?_; (case hl => have h1 := HXL.out; have h2 := HLT.out; have h3 := HL.out; omega)); intro v5 w5 ho hb hg hat; have HO5 := Lib.hid ho; have HB5 := Lib.hid hb; have HG5 := Lib.hid hg; have HT5 := Lib.hid hat; clear ho hb hg hat HB4 HR4)
        go_roundw
        case rel =>
          refine ⟨i + 1, xs ++ [⟨(.nilIface), HOC.out⟩], v5, rfl, by go_num, Lib.hid (by have := HLT.out; omega), Lib.hid (by rw [List.length_append, HXL.out]; rfl), HO5, Lib.hid ?_, Lib.hid ?_, HB5⟩
          · obtain ⟨g, cap, h1, h2, h3, _⟩ := Kd.R_form HO5.out (by rw [List.length_append]; simp)
            have h4 := Kd.R_reads' (h1 ▸ HO5.out)
            exact ⟨g, cap, h1, h4.2.1, h2, h3⟩
          · intro j y z hy hz
            have hne : ∀ k, k < w4.heap.size → some k ≠ lv.ownBlock → some k ≠ v5.ownBlock := by
              intro k hk hn he
              rcases HT5.out with h | ⟨b, h, hb⟩
              · exact hn (he.trans h)
              · rw [h] at he
                have := Option.some.inj he
                omega
            by_cases hj : j < xs.length
            · rw [List.getElem?_append_left hj] at hy
              exact An.move (fun k hk hl => ⟨HG5.out.block k hl hk.1.2, hk.1.1, hne k hl hk.1.2⟩) n z y.1 (HN4.out j y z hy hz)
            · have hjl := (List.getElem?_eq_some_iff.1 hy).1
              rw [List.length_append, List.length_singleton] at hjl
              have hji : j = xs.length := by omega
              subst hji
              rw [List.getElem?_append_right (Nat.le_refl _), Nat.sub_self] at hy
              obtain rfl := Option.some.inj hy
              have hxi := HX.out
              rw [← HXL.out, hz] at hxi
              obtain rfl := Option.some.inj hxi
              refine An.move (fun k hk hl => ?_) n z (.nilIface) HA4.out
              have hlo : some k ≠ lv.ownBlock := fun e => by
                have := HLO.out k e.symm
                have := HS4.out
                omega
              exact ⟨HG5.out.block k hl hlo, Nat.le_trans HBR.out.size (Nat.le_trans HS4.out hk), hne k hl hlo⟩
        case measure => have := HLT.out; simp only [intOf]; omega
      · go_wp2_with (at_builtin; go_must (refine Kd.R_append kR (w0 := w) w.heap.size rfl _ _ 59 20 .nilIface 16 rfl Try.underlying59 infoA rfl (by decide) (by decide) _ _ ⟨(.iface t9 u9), HOC.out⟩ [(.iface t9 u9)] (fun _ => True) (fun _ => False) rfl rfl rfl (fun _ hk => hk.elim) (fun _ _ => trivial) (by exact HR4.out) (by exact HB4.out) (by exact HB4.out.size) ?hl ?_; (case hl => have h1 := HXL.out; have h2 := HLT.out; have h3 := HL.out; omega)); intro v5 w5 ho hb hg hat; have HO5 := Lib.hid ho; have HB5 := Lib.hid hb; have HG5 := Lib.hid hg; have HT5 := Lib.hid hat; clear ho hb hg hat HB4 HR4)
        go_roundw
        case rel =>
          refine ⟨i + 1, xs ++ [⟨(.iface t9 u9), HOC.out⟩], v5, rfl, by go_num, Lib.hid (by have := HLT.out; omega), Lib.hid (by rw [List.length_append, HXL.out]; rfl), HO5, Lib.hid ?_, Lib.hid ?_, HB5⟩
          · obtain ⟨g, cap, h1, h2, h3, _⟩ := Kd.R_form HO5.out (by rw [List.length_append]; simp)
            have h4 := Kd.R_reads' (h1 ▸ HO5.out)
            exact ⟨g, cap, h1, h4.2.1, h2, h3⟩
          · intro j y z hy hz
            have hne : ∀ k, k < w4.heap.size → some k ≠ lv.ownBlock → some k ≠ v5.ownBlock := by
              intro k hk hn he
              rcases HT5.out with h | ⟨b, h, hb⟩
              · exact hn (he.trans h)
              · rw [h] at he
                have := Option.some.inj he
                omega
            by_cases hj : j < xs.length
            · rw [List.getElem?_append_left hj] at hy
              exact An.move (fun k hk hl => ⟨HG5.out.block k hl hk.1.2, hk.1.1, hne k hl hk.1.2⟩) n z y.1 (HN4.out j y z hy hz)
            · have hjl := (List.getElem?_eq_some_iff.1 hy).1
              rw [List.length_append, List.length_singleton] at hjl
              have hji : j = xs.length := by omega
              subst hji
              rw [List.getElem?_append_right (Nat.le_refl _), Nat.sub_self] at hy
              obtain rfl := Option.some.inj hy
              have hxi := HX.out
              rw [← HXL.out, hz] at hxi
              obtain rfl := Option.some.inj hxi
              refine An.move (fun k hk hl => ?_) n z (.iface t9 u9) HA4.out
              have hlo : some k ≠ lv.ownBlock := fun e => by
                have := HLO.out k e.symm
                have := HS4.out
                omega
              exact ⟨HG5.out.block k hl hlo, Nat.le_trans HBR.out.size (Nat.le_trans HS4.out hk), hne k hl hlo⟩
        case measure => have := HLT.out; simp only [intOf]; omega
    · obtain rfl : i = f3.length := by have := HI.out; omega
      have hlt : decide (f3.length < f3.length) = false := decide_eq_false (Nat.lt_irrefl _)
      have hlt2 : decide ((f3.length : Int) < (f3.length : Int)) = false := decide_eq_false (by omega)
      clear h
      go_wp2_with fail
      go_ret
      obtain ⟨g, cc, hlv, hcc, hg, hgl⟩ := HFM.out
      refine ⟨_, rfl, ?_, HBR.out⟩
      unfold An
      refine .inr (.inr (.inr (.inr (.inr ⟨rfl, g, cc, by rw [hlv, HXL.out]; rfl, by rw [← HXL.out]; exact hcc, hg, hgl, fun j x hj => ?_⟩))))
      have hjl : j < xs.length := by rw [HXL.out]; exact (List.getElem?_eq_some_iff.1 hj).1
      have hrd := (Kd.R_reads' (hlv ▸ HR.out)).2.2
      refine ⟨(xs[j]).1, ?_, (HAN.out j xs[j] x (List.getElem?_eq_getElem hjl) hj).mono (fun k hk _ => hk.1)⟩
      obtain ⟨ad, cs, e, _, hK, hc0⟩ := Kd.C_get hrd (⟨.nilIface, rfl⟩ : OC) (j : Int) (by omega) (by omega)
      have hcs : cs = [(xs[j]).1] := by
        have hK' : cs = [(xs.getD (j : Int).toNat ⟨.nilIface, rfl⟩).1] := hK
        rw [hK', Int.toNat_natCast, List.getD_eq_getElem?_getD, List.getElem?_eq_getElem hjl]
        rfl
      have h0 := hc0 0 (xs[j]).1 (by rw [hcs]; rfl)
      cases e
      have hz : (⟨g, 0, none⟩ : Addr).add ((j : Int).toNat * kR.sz + 0) = ⟨g, j, none⟩ := by
        rw [add_plain]
        congr 1
        show (j : Int).toNat * 1 + 0 = j
        omega
      rw [hz] at h0
      exact h0
theorem tree_calls : ∀ (n : Nat) (x : V), mayN n x = true → Fit n x → ∀ (A : Option Addr) (c : Nat) (w : World), x.f3.length ≤ c → kV.C w A x.f3.length x.f3 → Calls Try.prog 23 #[.agg (aggV x A c)] w fun e w' => ∃ a, e = .returned a ∧ An n w' (fun k => w.heap.size ≤ k) x a ∧ Below w.heap.size w w' := by
  have leaf : ∀ (n : Nat) (x : V), x.f0 ≠ 5 → sh x = true → ∀ (A : Option Addr) (c : Nat) (w : World), Calls Try.prog 23 #[.agg (aggV x A c)] w fun e w' => ∃ a, e = .returned a ∧ An n w' (fun k => w.heap.size ≤ k) x a ∧ Below w.heap.size w w' := by
    intro n x h5 hs A c w
    obtain ⟨f0, f1, f2, f3⟩ := x
    have hk : f0 = 0 ∨ f0 = 1 ∨ f0 = 2 ∨ f0 = 3 ∨ f0 = 4 := by
      by_cases h : f0 = 0 ∨ f0 = 1 ∨ f0 = 2 ∨ f0 = 3 ∨ f0 = 4
      · exact h
      · exfalso
        have h5' : f0 ≠ 5 := h5
        unfold sh at hs
        rw [if_neg (by simp only; omega), if_neg (by simp only; omega), if_neg (by simp only; omega), if_neg (by simp only; omega), if_neg (by simp only; omega)] at hs
        cases hs
    rcases hk with rfl | rfl | rfl | rfl | rfl
    · exact tree0_calls n f1 f2 A c f3 w _
    · exact tree1_calls n f1 f2 A c f3 w _
    · exact tree2_calls n f1 f2 A c f3 w _
    · exact tree3_calls n f1 f2 A c f3 w _
    · exact tree4_calls n f1 f2 A c f3 w
  intro n
  induction n with
  | zero =>
    intro x hm hf A c w hl hc
    by_cases h5 : x.f0 = 5
    · obtain ⟨m, hm, _⟩ := mayN_list h5 hm
      omega
    · exact leaf 0 x h5 (mayN_sh hm) A c w
  | succ n ih =>
    intro x hm hf A c w hl hc
    by_cases h5 : x.f0 = 5
    · obtain ⟨m, hm2, hall⟩ := mayN_list h5 hm
      obtain rfl : m = n := by omega
      obtain ⟨f0, f1, f2, f3⟩ := x
      obtain rfl : f0 = 5 := h5
      exact tree5_calls _ f1 f2 A c f3 w hc hf.1.1 (fun y hy A' c' w' h1 h2 => ih y (hall y hy) (hf.2 y hy) A' c' w' h1 h2)
    · exact leaf (n + 1) x h5 (mayN_sh hm) A c w
end Go.Proofs.Ytcilojakgnjjmaa.MeT
/- Numbers with a sign, bytes: what the program writes. -/
set_option linter.unusedSimpArgs false
namespace Go.Proofs.Ytcilojakgnjjmaa.VrW
open Go.RowKit Go.Proofs.YtcilojakgnjjmaaW.PrintWords Mem WireP UvW
theorem xor_ones {a k : Nat} (h : a < 2 ^ k) : a ^^^ (2 ^ k - 1) = 2 ^ k - (a + 1) := by
  apply Nat.eq_of_testBit_eq
  intro i
  rw [Nat.testBit_xor, Nat.testBit_two_pow_sub_one, Nat.testBit_two_pow_sub_succ h]
  by_cases hi : i < k
  · simp [hi]
  · have : a.testBit i = false := Nat.testBit_lt_two_pow (Nat.lt_of_lt_of_le h (Nat.pow_le_pow_right (by decide) (by omega)))
    simp [hi, this]
theorem zig_bits (n : Int) (h : -9223372036854775808 ≤ n ∧ n < 9223372036854775808) : Go.bits .xor .u64 (IntKind.u64.wrap (wrap64 (n * 2))) (IntKind.u64.wrap (n / 9223372036854775808)) = (zig n : Nat) := by
  rw [Go.IntKind.wrap_u64, Go.IntKind.wrap_u64]
  unfold zig wrap64
  by_cases hn : n < 0
  · rw [if_pos hn]
    obtain ⟨a, ha⟩ : ∃ a : Nat, ((n * 2 + 9223372036854775808) % 18446744073709551616 - 9223372036854775808) % 18446744073709551616 = (a : Int) := Int.eq_ofNat_of_zero_le (by omega)
    have hb : n / 9223372036854775808 % 18446744073709551616 = ((18446744073709551615 : Nat) : Int) := by omega
    have hl : a < 2 ^ 64 := by omega
    rw [ha, hb, bits_xor_u64_nat a _ (by omega) (by omega)]
    have := xor_ones hl
    rw [show (18446744073709551615 : Nat) = 2 ^ 64 - 1 by decide, this]
    omega
  · rw [if_neg hn]
    obtain ⟨a, ha⟩ : ∃ a : Nat, ((n * 2 + 9223372036854775808) % 18446744073709551616 - 9223372036854775808) % 18446744073709551616 = (a : Int) := Int.eq_ofNat_of_zero_le (by omega)
    have hb : n / 9223372036854775808 % 18446744073709551616 = ((0 : Nat) : Int) := by omega
    rw [ha, hb, bits_xor_u64_nat a _ (by omega) (by omega), Nat.xor_zero]
    omega
theorem zig_lt {n : Int} (h : -9223372036854775808 ≤ n ∧ n < 9223372036854775808) : zig n < 18446744073709551616 := by
  unfold zig
  split <;> omega
theorem varint_calls (A : Option Addr) (c : Nat) (xs : List Int) (n : Int) (w : World) (hc : xs.length ≤ c) (hx : BK.C w A xs.length xs) (hn : -9223372036854775808 ≤ n ∧ n < 9223372036854775808) (hl : xs.length + 10 ≤ 140737488355328) :
    Calls Try.prog 46 #[.slice A xs.length c, .int .i64 n] w fun e w' => ∃ v, e = .returned v ∧ Ow .u8 5 w' w.heap.size v (xs ++ uv (zig n)) ∧ Below w.heap.size w w' := by
  have HC := Lib.hid hx
  clear hx
  have HN := Lib.hid hn
  clear hn
  go_enter Try.func46, Try.ntmps46
  go_wp2_with fail
  rw [zig_bits n HN.out]
  refine (uvarint_calls A c xs _ w hc HC.out (by have := zig_lt HN.out; omega) hl).mono ?_
  rintro e w1 ⟨v, rfl, ho, hb⟩
  have HO := Lib.hid ho
  have HB := Lib.hid hb
  clear ho hb
  go_wp2_with fail
  go_ret
  exact ⟨_, rfl, HO.out, HB.out⟩
theorem bytes_calls (A : Option Addr) (c : Nat) (xs : List Int) (B : Option Addr) (m cb : Nat) (ys : List Int) (w : World) (hc : xs.length ≤ c) (hx : BK.C w A xs.length xs) (hy : BK.C w B m ys) (hl : xs.length + m + 10 ≤ 140737488355328) :
    Calls Try.prog 47 #[.slice A xs.length c, .slice B m cb] w fun e w' => ∃ v, e = .returned v ∧ Ow .u8 5 w' w.heap.size v (xs ++ uv m ++ ys) ∧ Below w.heap.size w w' := by
  have HC := Lib.hid hx
  have HD := Lib.hid hy
  have HL := Lib.hid hl
  clear hx hl hy
  go_enter Try.func47, Try.ntmps47
  have hw : IntKind.u64.wrap (m : Int) = (m : Int) := by rw [Go.IntKind.wrap_u64]; have := HL.out; omega
  go_wp2_with fail
  refine (uvarint_calls A c xs _ w hc HC.out (by have := HL.out; omega) (by have := HL.out; omega)).mono ?_
  rintro e w1 ⟨v, rfl, ho, hb⟩
  have HA := Lib.hid ho
  have HB := Lib.hid hb
  clear ho hb
  go_wp2_with (at_builtin; go_must (refine Kd.R_append_rows BK (w0 := w) w.heap.size rfl _ _ 39 5 (.int .u8 0) 1 rfl Try.underlying39 info5 rfl (by decide) (by decide) _ _ ys _ _ _ (fun _ => True) (fun _ => False) rfl rfl (by exact HA.out) (by exact Kd.C_below HD.out HB.out) (fun y cs hk => hk) (fun _ hk => hk.elim) (fun _ _ => trivial) (by exact HB.out) (by exact HB.out.size) ?hl ?_; (case hl => have h1 := HL.out; have h2 := uv_len10 (n := ((m : Nat) : Int).toNat) (by omega); rw [List.length_append]; omega)); intro v1 w2 ho hb hg hg2; clear HB hg hg2; have HO := Lib.hid ho; have HB := Lib.hid hb; clear ho hb)
  go_ret
  exact ⟨_, rfl, HO.out, HB.out⟩
end Go.Proofs.Ytcilojakgnjjmaa.VrW
/- What a type switch answers, at each type. -/
namespace Go.Proofs.Ytcilojakgnjjmaa.MeS
open Go
theorem ta_bool_bool (v : Value) (W : World) : (Instr.typeAssert (.iface 4 v) 20 4 true).run Try.prog W = .ok (.tuple #[v, .bool true]) W := by kernel_rfl
theorem ta_bool_int64 (v : Value) (W : World) : (Instr.typeAssert (.iface 2 v) 20 4 true).run Try.prog W = .ok (.tuple #[.bool false, .bool false]) W := by kernel_rfl
theorem ta_bool_string (v : Value) (W : World) : (Instr.typeAssert (.iface 9 v) 20 4 true).run Try.prog W = .ok (.tuple #[.bool false, .bool false]) W := by kernel_rfl
theorem ta_bool_bytes (v : Value) (W : World) : (Instr.typeAssert (.iface 39 v) 20 4 true).run Try.prog W = .ok (.tuple #[.bool false, .bool false]) W := by kernel_rfl
theorem ta_bool_anys (v : Value) (W : World) : (Instr.typeAssert (.iface 59 v) 20 4 true).run Try.prog W = .ok (.tuple #[.bool false, .bool false]) W := by kernel_rfl
theorem ta_bool_nil (W : World) : (Instr.typeAssert .nilIface 20 4 true).run Try.prog W = .ok (.tuple #[.bool false, .bool false]) W := by kernel_rfl
theorem ta_int64_bool (v : Value) (W : World) : (Instr.typeAssert (.iface 4 v) 20 2 true).run Try.prog W = .ok (.tuple #[.int .i64 0, .bool false]) W := by kernel_rfl
theorem ta_int64_int64 (v : Value) (W : World) : (Instr.typeAssert (.iface 2 v) 20 2 true).run Try.prog W = .ok (.tuple #[v, .bool true]) W := by kernel_rfl
theorem ta_int64_string (v : Value) (W : World) : (Instr.typeAssert (.iface 9 v) 20 2 true).run Try.prog W = .ok (.tuple #[.int .i64 0, .bool false]) W := by kernel_rfl
theorem ta_int64_bytes (v : Value) (W : World) : (Instr.typeAssert (.iface 39 v) 20 2 true).run Try.prog W = .ok (.tuple #[.int .i64 0, .bool false]) W := by kernel_rfl
theorem ta_int64_anys (v : Value) (W : World) : (Instr.typeAssert (.iface 59 v) 20 2 true).run Try.prog W = .ok (.tuple #[.int .i64 0, .bool false]) W := by kernel_rfl
theorem ta_int64_nil (W : World) : (Instr.typeAssert .nilIface 20 2 true).run Try.prog W = .ok (.tuple #[.int .i64 0, .bool false]) W := by kernel_rfl
theorem ta_string_bool (v : Value) (W : World) : (Instr.typeAssert (.iface 4 v) 20 9 true).run Try.prog W = .ok (.tuple #[.string ⟨#[]⟩, .bool false]) W := by kernel_rfl
theorem ta_string_int64 (v : Value) (W : World) : (Instr.typeAssert (.iface 2 v) 20 9 true).run Try.prog W = .ok (.tuple #[.string ⟨#[]⟩, .bool false]) W := by kernel_rfl
theorem ta_string_string (v : Value) (W : World) : (Instr.typeAssert (.iface 9 v) 20 9 true).run Try.prog W = .ok (.tuple #[v, .bool true]) W := by kernel_rfl
theorem ta_string_bytes (v : Value) (W : World) : (Instr.typeAssert (.iface 39 v) 20 9 true).run Try.prog W = .ok (.tuple #[.string ⟨#[]⟩, .bool false]) W := by kernel_rfl
theorem ta_string_anys (v : Value) (W : World) : (Instr.typeAssert (.iface 59 v) 20 9 true).run Try.prog W = .ok (.tuple #[.string ⟨#[]⟩, .bool false]) W := by kernel_rfl
theorem ta_string_nil (W : World) : (Instr.typeAssert .nilIface 20 9 true).run Try.prog W = .ok (.tuple #[.string ⟨#[]⟩, .bool false]) W := by kernel_rfl
theorem ta_bytes_bool (v : Value) (W : World) : (Instr.typeAssert (.iface 4 v) 20 39 true).run Try.prog W = .ok (.tuple #[.slice none 0 0, .bool false]) W := by kernel_rfl
theorem ta_bytes_int64 (v : Value) (W : World) : (Instr.typeAssert (.iface 2 v) 20 39 true).run Try.prog W = .ok (.tuple #[.slice none 0 0, .bool false]) W := by kernel_rfl
theorem ta_bytes_string (v : Value) (W : World) : (Instr.typeAssert (.iface 9 v) 20 39 true).run Try.prog W = .ok (.tuple #[.slice none 0 0, .bool false]) W := by kernel_rfl
theorem ta_bytes_bytes (v : Value) (W : World) : (Instr.typeAssert (.iface 39 v) 20 39 true).run Try.prog W = .ok (.tuple #[v, .bool true]) W := by kernel_rfl
theorem ta_bytes_anys (v : Value) (W : World) : (Instr.typeAssert (.iface 59 v) 20 39 true).run Try.prog W = .ok (.tuple #[.slice none 0 0, .bool false]) W := by kernel_rfl
theorem ta_bytes_nil (W : World) : (Instr.typeAssert .nilIface 20 39 true).run Try.prog W = .ok (.tuple #[.slice none 0 0, .bool false]) W := by kernel_rfl
theorem ta_anys_bool (v : Value) (W : World) : (Instr.typeAssert (.iface 4 v) 20 59 true).run Try.prog W = .ok (.tuple #[.slice none 0 0, .bool false]) W := by kernel_rfl
theorem ta_anys_int64 (v : Value) (W : World) : (Instr.typeAssert (.iface 2 v) 20 59 true).run Try.prog W = .ok (.tuple #[.slice none 0 0, .bool false]) W := by kernel_rfl
theorem ta_anys_string (v : Value) (W : World) : (Instr.typeAssert (.iface 9 v) 20 59 true).run Try.prog W = .ok (.tuple #[.slice none 0 0, .bool false]) W := by kernel_rfl
theorem ta_anys_bytes (v : Value) (W : World) : (Instr.typeAssert (.iface 39 v) 20 59 true).run Try.prog W = .ok (.tuple #[.slice none 0 0, .bool false]) W := by kernel_rfl
theorem ta_anys_anys (v : Value) (W : World) : (Instr.typeAssert (.iface 59 v) 20 59 true).run Try.prog W = .ok (.tuple #[v, .bool true]) W := by kernel_rfl
theorem ta_anys_nil (W : World) : (Instr.typeAssert .nilIface 20 59 true).run Try.prog W = .ok (.tuple #[.slice none 0 0, .bool false]) W := by kernel_rfl
end Go.Proofs.Ytcilojakgnjjmaa.MeS
/- A value's bytes. -/
set_option linter.unusedSimpArgs false
set_option linter.unusedVariables false
namespace Go.Proofs.Ytcilojakgnjjmaa.MeU
open Go Go.RowKit Go.Proofs.YtcilojakgnjjmaaW.PrintWords Go.Proofs.YtcilojakgnjjmaaW.PrintLast Go.Proofs.YtcilojakgnjjmaaW.PrintMore Mem PAll MeP MeM MeN MeA MeT WireP UvW VrW MeS
def base (v : V) (l : List Int) : List Int :=
  if v.f0 = 0 then [0] else if v.f0 = 1 then [if v.f1 = 1 then 2 else 1] else if v.f0 = 2 then 3 :: uv (zig v.f1) else if v.f0 = 3 then 4 :: (uv (byt v.f2).length ++ byt v.f2) else if v.f0 = 4 then 5 :: (uv (byt v.f2).length ++ byt v.f2) else 6 :: (uv v.f3.length ++ l)
/-- A value's bytes. -/
def encN : Nat → V → List Int
  | 0, v => base v []
  | n + 1, v => base v (v.f3.flatMap (encN n))
theorem enc_leaf {n : Nat} {v : V} (h : v.f0 = 0 ∨ v.f0 = 1 ∨ v.f0 = 2 ∨ v.f0 = 3 ∨ v.f0 = 4) : encN n v = base v [] := by
  cases n with
  | zero => rfl
  | succ n =>
    show base v _ = base v []
    unfold base
    rcases h with h | h | h | h | h <;> rw [h] <;> rfl
/-- The bytes of a tree's row, read. -/
theorem bytes_C {w : World} {g : Nat} {l : List Int} (hl : l.length ≤ 9223372036854775807) (h : ∀ (j : Nat) (b : Int), l[j]? = some b → w.cell? ⟨g, j, none⟩ = some (.int .u8 b)) : BK.C w (some ⟨g, 0, none⟩) l.length l := by
  refine Kd.C_of_reads (d := (0 : Int)) ⟨rfl, hl, fun h0 => ⟨_, rfl, fun j hj => ?_⟩⟩
  rw [add_plain, h j l[j] (List.getElem?_eq_getElem hj), List.getD_eq_getElem?_getD, List.getElem?_eq_getElem hj]
  rfl
set_option maxHeartbeats 4000000 in
set_option maxRecDepth 100000 in
theorem put0 (d : Int) (bv : Value) (ys : List Int) (bs : Nat) (w0 w : World) (ho : Ow .u8 5 w bs bv ys) (hb : Below bs w0 w) (hbs : bs ≤ w.heap.size) (hl : ys.length + ([0]).length + 30 ≤ 140737488355328) :
    Calls Try.prog 36 #[bv, .nilIface, .int .i64 d] w fun e w' => ∃ bv', e = .returned (.tuple #[bv', .bool true]) ∧ Ow .u8 5 w' bs bv' (ys ++ ([0])) ∧ Below bs w0 w' ∧ bs ≤ w'.heap.size := by
  have HO := Lib.hid ho
  have HB := Lib.hid hb
  have HBS := Lib.hid hbs
  have HL : Hid (ys.length + 30 ≤ 140737488355328) := Lib.hid (by omega)
  have HLL := Lib.hid hl
  have hnil : ∀ (t : TypeId) (u : Value) (W : World), (binOp .eql 20 (.iface t u) .nilIface).run Try.prog W = .ok (.bool false) W := fun _ _ _ => rfl
  clear ho hb hbs hl
  go_enter Try.func36, Try.ntmps36
  go_wp2_with (at_builtin; go_must (refine Kd.R_append BK (w0 := w0) bs rfl _ _ 39 5 (.int .u8 0) 1 rfl Try.underlying39 info5 rfl (by decide) (by decide) _ _ _ [_] (fun _ => True) (fun _ => False) rfl rfl rfl (fun _ hk => hk.elim) (fun _ _ => trivial) (by exact HO.out) (by exact HB.out) (by exact HBS.out) (by have := HL.out; omega) ?_); intro v1 w1 ho hb hg hg2; have HO1 := Lib.hid ho; have HB1 := Lib.hid hb; have HG1 := Lib.hid hg.size; have HBS1 := Lib.hid (Nat.le_trans HBS.out hg.size); clear ho hb hg hg2)
  go_ret2
  exact ⟨_, rfl, HO1.out, HB1.out, HBS1.out⟩
set_option maxHeartbeats 4000000 in
set_option maxRecDepth 100000 in
theorem put1t (d : Int) (bv : Value) (ys : List Int) (bs : Nat) (w0 w : World) (ho : Ow .u8 5 w bs bv ys) (hb : Below bs w0 w) (hbs : bs ≤ w.heap.size) (hl : ys.length + ([2]).length + 30 ≤ 140737488355328) :
    Calls Try.prog 36 #[bv, .iface 4 (.bool true), .int .i64 d] w fun e w' => ∃ bv', e = .returned (.tuple #[bv', .bool true]) ∧ Ow .u8 5 w' bs bv' (ys ++ ([2])) ∧ Below bs w0 w' ∧ bs ≤ w'.heap.size := by
  have HO := Lib.hid ho
  have HB := Lib.hid hb
  have HBS := Lib.hid hbs
  have HL : Hid (ys.length + 30 ≤ 140737488355328) := Lib.hid (by omega)
  have HLL := Lib.hid hl
  have hnil : ∀ (t : TypeId) (u : Value) (W : World), (binOp .eql 20 (.iface t u) .nilIface).run Try.prog W = .ok (.bool false) W := fun _ _ _ => rfl
  have ta0 := fun W => ta_bool_bool (.bool true) W
  clear ho hb hbs hl
  go_enter Try.func36, Try.ntmps36
  go_wp2_with (at_builtin; go_must (refine Kd.R_append BK (w0 := w0) bs rfl _ _ 39 5 (.int .u8 0) 1 rfl Try.underlying39 info5 rfl (by decide) (by decide) _ _ _ [_] (fun _ => True) (fun _ => False) rfl rfl rfl (fun _ hk => hk.elim) (fun _ _ => trivial) (by exact HO.out) (by exact HB.out) (by exact HBS.out) (by have := HL.out; omega) ?_); intro v1 w1 ho hb hg hg2; have HO1 := Lib.hid ho; have HB1 := Lib.hid hb; have HG1 := Lib.hid hg.size; have HBS1 := Lib.hid (Nat.le_trans HBS.out hg.size); clear ho hb hg hg2)
  go_ret2
  exact ⟨_, rfl, HO1.out, HB1.out, HBS1.out⟩
set_option maxHeartbeats 4000000 in
set_option maxRecDepth 100000 in
theorem put1f (d : Int) (bv : Value) (ys : List Int) (bs : Nat) (w0 w : World) (ho : Ow .u8 5 w bs bv ys) (hb : Below bs w0 w) (hbs : bs ≤ w.heap.size) (hl : ys.length + ([1]).length + 30 ≤ 140737488355328) :
    Calls Try.prog 36 #[bv, .iface 4 (.bool false), .int .i64 d] w fun e w' => ∃ bv', e = .returned (.tuple #[bv', .bool true]) ∧ Ow .u8 5 w' bs bv' (ys ++ ([1])) ∧ Below bs w0 w' ∧ bs ≤ w'.heap.size := by
  have HO := Lib.hid ho
  have HB := Lib.hid hb
  have HBS := Lib.hid hbs
  have HL : Hid (ys.length + 30 ≤ 140737488355328) := Lib.hid (by omega)
  have HLL := Lib.hid hl
  have hnil : ∀ (t : TypeId) (u : Value) (W : World), (binOp .eql 20 (.iface t u) .nilIface).run Try.prog W = .ok (.bool false) W := fun _ _ _ => rfl
  have ta0 := fun W => ta_bool_bool (.bool false) W
  clear ho hb hbs hl
  go_enter Try.func36, Try.ntmps36
  go_wp2_with (at_builtin; go_must (refine Kd.R_append BK (w0 := w0) bs rfl _ _ 39 5 (.int .u8 0) 1 rfl Try.underlying39 info5 rfl (by decide) (by decide) _ _ _ [_] (fun _ => True) (fun _ => False) rfl rfl rfl (fun _ hk => hk.elim) (fun _ _ => trivial) (by exact HO.out) (by exact HB.out) (by exact HBS.out) (by have := HL.out; omega) ?_); intro v1 w1 ho hb hg hg2; have HO1 := Lib.hid ho; have HB1 := Lib.hid hb; have HG1 := Lib.hid hg.size; have HBS1 := Lib.hid (Nat.le_trans HBS.out hg.size); clear ho hb hg hg2)
  go_ret2
  exact ⟨_, rfl, HO1.out, HB1.out, HBS1.out⟩
set_option maxHeartbeats 4000000 in
set_option maxRecDepth 100000 in
theorem put2 (n : Int) (d : Int) (bv : Value) (ys : List Int) (bs : Nat) (w0 w : World) (hn : -9223372036854775808 ≤ n ∧ n < 9223372036854775808) (ho : Ow .u8 5 w bs bv ys) (hb : Below bs w0 w) (hbs : bs ≤ w.heap.size) (hl : ys.length + (3 :: uv (zig n)).length + 30 ≤ 140737488355328) :
    Calls Try.prog 36 #[bv, .iface 2 (.int .i64 n), .int .i64 d] w fun e w' => ∃ bv', e = .returned (.tuple #[bv', .bool true]) ∧ Ow .u8 5 w' bs bv' (ys ++ (3 :: uv (zig n))) ∧ Below bs w0 w' ∧ bs ≤ w'.heap.size := by
  have HO := Lib.hid ho
  have HB := Lib.hid hb
  have HBS := Lib.hid hbs
  have HL : Hid (ys.length + 30 ≤ 140737488355328) := Lib.hid (by omega)
  have HLL := Lib.hid hl
  have hnil : ∀ (t : TypeId) (u : Value) (W : World), (binOp .eql 20 (.iface t u) .nilIface).run Try.prog W = .ok (.bool false) W := fun _ _ _ => rfl
  have ta0 := fun W => ta_bool_int64 (.int .i64 n) W
  have ta1 := fun W => ta_int64_int64 (.int .i64 n) W
  have HN := Lib.hid hn
  clear ho hb hbs hl hn
  go_enter Try.func36, Try.ntmps36
  go_wp2_with (at_builtin; go_must (refine Kd.R_append BK (w0 := w0) bs rfl _ _ 39 5 (.int .u8 0) 1 rfl Try.underlying39 info5 rfl (by decide) (by decide) _ _ _ [_] (fun _ => True) (fun _ => False) rfl rfl rfl (fun _ hk => hk.elim) (fun _ _ => trivial) (by exact HO.out) (by exact HB.out) (by exact HBS.out) (by have := HL.out; omega) ?_); intro v1 w1 ho hb hg hg2; have HO1 := Lib.hid ho; have HB1 := Lib.hid hb; have HG1 := Lib.hid hg.size; have HBS1 := Lib.hid (Nat.le_trans HBS.out hg.size); clear ho hb hg hg2)
  obtain ⟨A1, c1, hv1, hc1, hC1⟩ := Ow.reads HO1.out
  subst hv1
  refine (varint_calls A1 c1 (ys ++ [3]) n w1 hc1 hC1 HN.out (by have := HL.out; rw [List.length_append, List.length_singleton]; omega)).mono ?_
  rintro e w2 ⟨v2, rfl, ho, hb⟩
  have HO2 := Lib.hid (Ow.lower ho HBS1.out)
  have HB2 := Lib.hid (below_then HB1.out HBS1.out hb)
  have HS2 := Lib.hid (Nat.le_trans HBS1.out hb.size)
  clear ho hb hc1 hC1
  go_wp2_with fail
  go_ret2
  refine ⟨_, rfl, ?_, HB2.out, HS2.out⟩
  have e : ys ++ [3] ++ uv (zig n) = ys ++ (3 :: uv (zig n)) := by rw [List.append_assoc]; rfl
  rw [← e]
  exact HO2.out
set_option maxHeartbeats 4000000 in
set_option maxRecDepth 100000 in
theorem put3 (s : ByteArray) (d : Int) (bv : Value) (ys : List Int) (bs : Nat) (w0 w : World) (ho : Ow .u8 5 w bs bv ys) (hb : Below bs w0 w) (hbs : bs ≤ w.heap.size) (hl : ys.length + (4 :: (uv (byt s).length ++ byt s)).length + 30 ≤ 140737488355328) :
    Calls Try.prog 36 #[bv, .iface 9 (.string s), .int .i64 d] w fun e w' => ∃ bv', e = .returned (.tuple #[bv', .bool true]) ∧ Ow .u8 5 w' bs bv' (ys ++ (4 :: (uv (byt s).length ++ byt s))) ∧ Below bs w0 w' ∧ bs ≤ w'.heap.size := by
  have HO := Lib.hid ho
  have HB := Lib.hid hb
  have HBS := Lib.hid hbs
  have HL : Hid (ys.length + 30 ≤ 140737488355328) := Lib.hid (by omega)
  have HLL := Lib.hid hl
  have hnil : ∀ (t : TypeId) (u : Value) (W : World), (binOp .eql 20 (.iface t u) .nilIface).run Try.prog W = .ok (.bool false) W := fun _ _ _ => rfl
  have ta0 := fun W => ta_bool_string (.string s) W
  have ta1 := fun W => ta_int64_string (.string s) W
  have ta2 := fun W => ta_string_string (.string s) W
  have hss : (byt s).length ≤ 140737488355328 := by simp only [List.length_cons, List.length_append] at hl; omega
  have HSS := Lib.hid hss
  have hcv := fun W => Lib.run_convert_string_bytes (P := Try.prog) W 9 39 5 s Try.underlying9 Try.underlying39 Try.underlying5
  clear ho hb hbs hl hss
  go_enter Try.func36, Try.ntmps36
  go_wp2_with (at_builtin; go_must (refine Kd.R_append BK (w0 := w0) bs rfl _ _ 39 5 (.int .u8 0) 1 rfl Try.underlying39 info5 rfl (by decide) (by decide) _ _ _ [_] (fun _ => True) (fun _ => False) rfl rfl rfl (fun _ hk => hk.elim) (fun _ _ => trivial) (by exact HO.out) (by exact HB.out) (by exact HBS.out) (by have := HL.out; omega) ?_); intro v1 w1 ho hb hg hg2; have HO1 := Lib.hid ho; have HB1 := Lib.hid hb; have HG1 := Lib.hid hg.size; have HBS1 := Lib.hid (Nat.le_trans HBS.out hg.size); clear ho hb hg hg2)
  obtain ⟨A1, c1, hv1, hc1, hC1⟩ := Ow.reads HO1.out
  subst hv1
  have hC2 := Kd.C_below hC1 (below_bytes w1 s)
  have hy : BK.C (Lib.bytesWorld w1 5 s) (some ⟨w1.heap.size, 0, none⟩) (byt s).length (byt s) := bytes_C (by have := HSS.out; omega) (fun j b hb => by
    have hj : j < s.size := by
      have := (List.getElem?_eq_some_iff.1 hb).1
      rwa [byt_len] at this
    rw [Lib.bytesWorld_cell w1 _ s j hj]
    have e : (byt s)[j]? = some ((s.data.toList.getD j 0).toNat : Int) := by
      unfold byt
      rw [List.getElem?_map, List.getD_eq_getElem?_getD]
      have hj2 : j < s.data.toList.length := hj
      rw [List.getElem?_eq_getElem hj2]
      rfl
    rw [e] at hb
    rw [Option.some.inj hb])
  have hz : s.size = (byt s).length := (byt_len s).symm
  have T := bytes_calls A1 c1 (ys ++ [4]) (some ⟨w1.heap.size, 0, none⟩) (byt s).length (grownCap w1 s.size 0 5) (byt s) (Lib.bytesWorld w1 5 s) hc1 hC2 hy (by have h1 := HLL.out; have h2 := HSS.out; have h3 := HL.out; simp only [List.length_cons, List.length_append] at h1; rw [List.length_append, List.length_singleton]; omega)
  rw [← hz] at T
  refine T.mono ?_
  rintro e w2 ⟨v2, rfl, ho, hb⟩
  rw [hz] at ho
  have HBY := below_bytes w1 s
  have HO2 := Lib.hid (Ow.lower ho (Nat.le_trans HBS1.out HBY.size))
  have HB2 := Lib.hid (below_then (below_then HB1.out HBS1.out HBY) (Nat.le_trans HBS1.out HBY.size) hb)
  have HS2 := Lib.hid (Nat.le_trans (Nat.le_trans HBS1.out HBY.size) hb.size)
  clear ho hb hc1 hC1 hC2 hy T hz HBY hcv
  go_wp2_with fail
  go_ret2
  refine ⟨_, rfl, ?_, HB2.out, HS2.out⟩
  have e : ys ++ [4] ++ uv (byt s).length ++ byt s = ys ++ (4 :: (uv (byt s).length ++ byt s)) := by simp only [List.append_assoc, List.cons_append, List.nil_append]
  rw [← e]
  exact HO2.out
set_option maxHeartbeats 4000000 in
set_option maxRecDepth 100000 in
theorem put4 (s : ByteArray) (g c : Nat) (d : Int) (bv : Value) (ys : List Int) (bs : Nat) (w0 w : World) (hg : g < bs) (hcell : ∀ (j : Nat) (b : Int), (byt s)[j]? = some b → w.cell? ⟨g, j, none⟩ = some (.int .u8 b)) (ho : Ow .u8 5 w bs bv ys) (hb : Below bs w0 w) (hbs : bs ≤ w.heap.size) (hl : ys.length + (5 :: (uv (byt s).length ++ byt s)).length + 30 ≤ 140737488355328) :
    Calls Try.prog 36 #[bv, .iface 39 (.slice (some ⟨g, 0, none⟩) (byt s).length c), .int .i64 d] w fun e w' => ∃ bv', e = .returned (.tuple #[bv', .bool true]) ∧ Ow .u8 5 w' bs bv' (ys ++ (5 :: (uv (byt s).length ++ byt s))) ∧ Below bs w0 w' ∧ bs ≤ w'.heap.size := by
  have HO := Lib.hid ho
  have HB := Lib.hid hb
  have HBS := Lib.hid hbs
  have HL : Hid (ys.length + 30 ≤ 140737488355328) := Lib.hid (by omega)
  have HLL := Lib.hid hl
  have hnil : ∀ (t : TypeId) (u : Value) (W : World), (binOp .eql 20 (.iface t u) .nilIface).run Try.prog W = .ok (.bool false) W := fun _ _ _ => rfl
  have ta0 := fun W => ta_bool_bytes (.slice (some ⟨g, 0, none⟩) (byt s).length c) W
  have ta1 := fun W => ta_int64_bytes (.slice (some ⟨g, 0, none⟩) (byt s).length c) W
  have ta2 := fun W => ta_string_bytes (.slice (some ⟨g, 0, none⟩) (byt s).length c) W
  have ta3 := fun W => ta_bytes_bytes (.slice (some ⟨g, 0, none⟩) (byt s).length c) W
  have hss : (byt s).length ≤ 140737488355328 := by simp only [List.length_cons, List.length_append] at hl; omega
  have HSS := Lib.hid hss
  have HCE := Lib.hid hcell
  have HGB := Lib.hid hg
  clear ho hb hbs hl hss hcell hg
  go_enter Try.func36, Try.ntmps36
  go_wp2_with (at_builtin; go_must (refine Kd.R_append BK (w0 := w0) bs rfl _ _ 39 5 (.int .u8 0) 1 rfl Try.underlying39 info5 rfl (by decide) (by decide) _ _ _ [_] (fun _ => True) (fun _ => False) rfl rfl rfl (fun _ hk => hk.elim) (fun _ _ => trivial) (by exact HO.out) (by exact HB.out) (by exact HBS.out) (by have := HL.out; omega) ?_); intro v1 w1 ho hb hg hg2; have HO1 := Lib.hid ho; have HB1 := Lib.hid hb; have HG1 := Lib.hid hg; have HOL := Lib.hid hb; have HBS1 := Lib.hid (Nat.le_trans HBS.out hg.size); clear ho hb hg hg2)
  obtain ⟨A1, c1, hv1, hc1, hC1⟩ := Ow.reads HO1.out
  subst hv1
  have hy : BK.C w1 (some ⟨g, 0, none⟩) (byt s).length (byt s) := bytes_C (by have := HSS.out; omega) (fun j b hb => (World.cell?_of_block (a := ⟨g, j, none⟩) ((HB1.out.block g HGB.out).trans (HB.out.block g HGB.out).symm)).trans (HCE.out j b hb))
  have T := bytes_calls A1 c1 (ys ++ [5]) (some ⟨g, 0, none⟩) (byt s).length c (byt s) w1 hc1 hC1 hy (by have h1 := HLL.out; have h2 := HSS.out; have h3 := HL.out; simp only [List.length_cons, List.length_append] at h1; rw [List.length_append, List.length_singleton]; omega)
  refine T.mono ?_
  rintro e w2 ⟨v2, rfl, ho, hb⟩
  have HO2 := Lib.hid (Ow.lower ho HBS1.out)
  have HB2 := Lib.hid (below_then HB1.out HBS1.out hb)
  have HS2 := Lib.hid (Nat.le_trans HBS1.out hb.size)
  clear ho hb hc1 hC1 hy T
  go_wp2_with fail
  go_ret2
  refine ⟨_, rfl, ?_, HB2.out, HS2.out⟩
  have e : ys ++ [5] ++ uv (byt s).length ++ byt s = ys ++ (5 :: (uv (byt s).length ++ byt s)) := by simp only [List.append_assoc, List.cons_append, List.nil_append]
  rw [← e]
  exact HO2.out
set_option maxHeartbeats 4000000 in
set_option maxRecDepth 100000 in
theorem put5 (l : List V) (g c m : Nat) (bv : Value) (ys : List Int) (bs : Nat) (w0 w : World) (hm : m ≤ 100) (hll : l.length ≤ 2513169434900) (hg : g < bs) (hcell : ∀ (j : Nat) (x : V), l[j]? = some x → ∃ a', w.cell? ⟨g, j, none⟩ = some a' ∧ An m w (fun k => k < bs) x a') (T : ∀ (x : V), x ∈ l → ∀ (a bv : Value) (ys : List Int) (w : World), An m w (fun k => k < bs) x a → Ow .u8 5 w bs bv ys → Below bs w0 w → bs ≤ w.heap.size → ys.length + (encN m x).length + 30 ≤ 140737488355328 → Calls Try.prog 36 #[bv, a, .int .i64 m] w fun e w' => ∃ bv', e = .returned (.tuple #[bv', .bool true]) ∧ Ow .u8 5 w' bs bv' (ys ++ encN m x) ∧ Below bs w0 w' ∧ bs ≤ w'.heap.size) (ho : Ow .u8 5 w bs bv ys) (hb : Below bs w0 w) (hbs : bs ≤ w.heap.size) (hl : ys.length + (6 :: (uv l.length ++ l.flatMap (encN m))).length + 30 ≤ 140737488355328) :
    Calls Try.prog 36 #[bv, .iface 59 (.slice (some ⟨g, 0, none⟩) l.length c), .int .i64 (m + 1 : Nat)] w fun e w' => ∃ bv', e = .returned (.tuple #[bv', .bool true]) ∧ Ow .u8 5 w' bs bv' (ys ++ (6 :: (uv l.length ++ l.flatMap (encN m)))) ∧ Below bs w0 w' ∧ bs ≤ w'.heap.size := by
  have HO := Lib.hid ho
  have HB := Lib.hid hb
  have HBS := Lib.hid hbs
  have HL : Hid (ys.length + 30 ≤ 140737488355328) := Lib.hid (by omega)
  have HLL := Lib.hid hl
  have hnil : ∀ (t : TypeId) (u : Value) (W : World), (binOp .eql 20 (.iface t u) .nilIface).run Try.prog W = .ok (.bool false) W := fun _ _ _ => rfl
  have ta0 := fun W => ta_bool_anys (.slice (some ⟨g, 0, none⟩) l.length c) W
  have ta1 := fun W => ta_int64_anys (.slice (some ⟨g, 0, none⟩) l.length c) W
  have ta2 := fun W => ta_string_anys (.slice (some ⟨g, 0, none⟩) l.length c) W
  have ta3 := fun W => ta_bytes_anys (.slice (some ⟨g, 0, none⟩) l.length c) W
  have ta4 := fun W => ta_anys_anys (.slice (some ⟨g, 0, none⟩) l.length c) W
  have HCE := Lib.hid hcell
  have HGB := Lib.hid hg
  have HT := Lib.hid T
  have hd0 : (((m + 1 : Nat) : Int) == 0) = false := beq_eq_false_iff_ne.2 (by omega)
  have hw : wrap64 (((m + 1 : Nat) : Int) - 1) = m := by unfold wrap64; omega
  have hwr : IntKind.u64.wrap (l.length : Int) = (l.length : Int) := by rw [Go.IntKind.wrap_u64]; omega
  have hlm : l.length ≤ 2513169434900 := hll
  clear ho hb hbs hl hcell hg T hll
  go_enter Try.func36, Try.ntmps36
  go_wp2_with (at_builtin; go_must (refine Kd.R_append BK (w0 := w0) bs rfl _ _ 39 5 (.int .u8 0) 1 rfl Try.underlying39 info5 rfl (by decide) (by decide) _ _ _ [_] (fun _ => True) (fun _ => False) rfl rfl rfl (fun _ hk => hk.elim) (fun _ _ => trivial) (by exact HO.out) (by exact HB.out) (by exact HBS.out) (by have := HL.out; omega) ?_); intro v1 w1 ho hb hg hg2; have HO1 := Lib.hid ho; have HB1 := Lib.hid hb; have HG1 := Lib.hid hg.size; have HBS1 := Lib.hid (Nat.le_trans HBS.out hg.size); clear ho hb hg hg2)
  obtain ⟨A1, c1, hv1, hc1, hC1⟩ := Ow.reads HO1.out
  subst hv1
  have T1 := uvarint_calls A1 c1 (ys ++ [6]) (l.length : Int) w1 hc1 hC1 (by omega) (by have h3 := HL.out; rw [List.length_append, List.length_singleton]; omega)
  have T2 : ∀ z : Int, z = (l.length : Int) → Calls Try.prog 48 #[.slice A1 (ys ++ [6]).length c1, .int .u64 z] w1 _ := fun z hz => by rw [hz]; exact T1
  refine (T2 _ (by first | exact hwr | rfl)).mono ?_
  rintro e w2 ⟨v2, rfl, ho, hb⟩
  have HO2 := Lib.hid (Ow.lower ho HBS1.out)
  have HB2 := Lib.hid (below_then HB1.out HBS1.out hb)
  have HBS2 : Hid (bs ≤ w2.heap.size) := Lib.hid (Nat.le_trans HBS1.out hb.size)
  clear ho hb hc1 hC1 T1 T2
  have hE : (ys ++ [6] ++ uv (l.length : Int).toNat) = ys ++ (6 :: uv l.length) := by rw [List.append_assoc]; rfl
  rw [hE] at HO2
  clear hE
  go_wp2_with fail
  go_loopw [0, 71] (fun b' i' wr => ∃ (i : Nat) (zs : List Int) (bq : Value), bq = b' ∧ i' = .int .i64 i ∧ Hid (i ≤ l.length) ∧ Hid (zs = ys ++ (6 :: uv l.length) ++ (l.take i).flatMap (encN m)) ∧ Hid (Ow .u8 5 wr bs bq zs) ∧ Hid (Below bs w0 wr) ∧ Hid (bs ≤ wr.heap.size)) (fun _ i' _ => (l.length - intOf i').toNat)
  case atStart => exact ⟨0, _, v2, rfl, rfl, Lib.hid (Nat.zero_le _), Lib.hid (by rw [List.take_zero]; exact (List.append_nil _).symm), HO2, HB2, HBS2⟩
  case round =>
    obtain ⟨i, zs, bq, rfl, rfl, HI, HZ, HOR, HBR, HSR⟩ := hrel
    by_cases h : i < l.length
    · have hlt : decide (i < l.length) = true := decide_eq_true h
      have hlt2 : decide ((i : Int) < (l.length : Int)) = true := decide_eq_true (by omega)
      have i0 : (0 : Int) ≤ i := by omega
      have i1 : (i : Int) < l.length := by omega
      obtain ⟨x, hx⟩ : ∃ x, l[i]? = some x := ⟨_, List.getElem?_eq_getElem h⟩
      obtain ⟨a', ha, han⟩ := HCE.out i x hx
      have hkp : ∀ k, k < bs → wr.heap[k]? = w.heap[k]? := fun k hk => (HBR.out.block k hk).trans (HB.out.block k hk).symm
      have hcell := (World.cell?_of_block (a := ⟨g, i, none⟩) (hkp g HGB.out)).trans ha
      have han2 : An m wr (fun k => k < bs) x a' := An.move (fun k hk _ => ⟨hkp k hk, hk⟩) m x a' han
      have HX := Lib.hid hx
      have HLT := Lib.hid h
      have hfl : ∀ (l : List V) (i : Nat), ((l.take i).flatMap (encN m)).length ≤ (l.flatMap (encN m)).length := fun l i => by
        conv => rhs; rw [← List.take_append_drop i l, List.flatMap_append, List.length_append]
        omega
      have htk : l.take (i + 1) = l.take i ++ [x] := by rw [List.take_add_one, hx]; rfl
      have hone : (l.take (i + 1)).flatMap (encN m) = (l.take i).flatMap (encN m) ++ encN m x := by rw [htk, List.flatMap_append]; congr 1; exact List.append_nil _
      have hzl : zs.length + (encN m x).length + 30 ≤ 140737488355328 := by
        have h1 := HLL.out
        have h2 := hfl l (i + 1)
        rw [hone, List.length_append] at h2
        rw [HZ.out]
        simp only [List.length_append, List.length_cons] at h1 ⊢
        omega
      have T3 := Lib.hid (HT.out x (List.mem_of_getElem? hx) a' bq zs wr han2 HOR.out HBR.out HSR.out hzl)
      have HONE := Lib.hid hone
      clear h hx ha han hkp han2 hfl htk hone hzl
      have T4 : Hid (∀ z : Int, z = (m : Int) → Calls Try.prog 36 #[bq, a', .int .i64 z] wr _) := Lib.hid (fun z hz => by rw [hz]; exact T3.out)
      go_wp2_with fail
      refine (T4.out _ (by first | exact hw | rfl)).mono ?_
      rintro e w5 ⟨b5, rfl, ho, hb, hs⟩
      have HO5 := Lib.hid ho
      have HB5 := Lib.hid hb
      have HS5 := Lib.hid hs
      clear ho hb hs T3 T4 hcell
      go_wp2_with fail
      go_roundw
      case rel =>
        refine ⟨i + 1, _, b5, rfl, by go_num, Lib.hid (by have := HLT.out; omega), Lib.hid ?_, HO5, HB5, HS5⟩
        rw [HZ.out, HONE.out, List.append_assoc]
      case measure => have := HLT.out; simp only [intOf]; omega
    · obtain rfl : i = l.length := by have := HI.out; omega
      have hlt : decide (l.length < l.length) = false := decide_eq_false (Nat.lt_irrefl _)
      have hlt2 : decide ((l.length : Int) < (l.length : Int)) = false := decide_eq_false (by omega)
      clear h
      go_wp2_with fail
      go_ret2
      refine ⟨bq, rfl, ?_, HBR.out, HSR.out⟩
      have e : ys ++ (6 :: (uv l.length ++ l.flatMap (encN m))) = zs := by rw [HZ.out, List.take_length]; simp only [List.append_assoc, List.cons_append]
      rw [e]
      exact HOR.out
theorem put_calls : ∀ (n : Nat), n ≤ 100 → ∀ (v : V), mayN n v = true → Fit n v → ∀ (bs : Nat) (w0 : World) (a bv : Value) (ys : List Int) (w : World), An n w (fun k => k < bs) v a → Ow .u8 5 w bs bv ys → Below bs w0 w → bs ≤ w.heap.size → ys.length + (encN n v).length + 30 ≤ 140737488355328 → Calls Try.prog 36 #[bv, a, .int .i64 n] w fun e w' => ∃ bv', e = .returned (.tuple #[bv', .bool true]) ∧ Ow .u8 5 w' bs bv' (ys ++ encN n v) ∧ Below bs w0 w' ∧ bs ≤ w'.heap.size := by
  intro n
  induction n with
  | zero =>
    intro hn v hm hf bs w0 a bv ys w han ho hb hbs hl
    unfold An at han
    rcases han with ⟨h0, rfl⟩ | ⟨h0, rfl⟩ | ⟨h0, rfl⟩ | ⟨h0, rfl⟩ | ⟨h0, g, c, rfl, h2, h3, h4, h5⟩ | ⟨_, _, _, _, _, _, _, h⟩
    · rw [enc_leaf (.inl h0), show base v [] = [0] by unfold base; rw [if_pos h0]] at hl ⊢
      exact put0 _ bv ys bs w0 w ho hb hbs hl
    · have e : base v [] = [if v.f1 = 1 then 2 else 1] := by unfold base; rw [h0]; rfl
      rw [enc_leaf (.inr (.inl h0)), e] at hl ⊢
      by_cases h1 : v.f1 = 1
      · rw [if_pos h1] at hl ⊢
        rw [h1]
        exact put1t _ bv ys bs w0 w ho hb hbs hl
      · rw [if_neg h1] at hl ⊢
        rw [show (v.f1 == 1) = false from beq_eq_false_iff_ne.2 h1]
        exact put1f _ bv ys bs w0 w ho hb hbs hl
    · rw [enc_leaf (.inr (.inr (.inl h0))), show base v [] = 3 :: uv (zig v.f1) by unfold base; rw [h0]; rfl] at hl ⊢
      exact put2 v.f1 _ bv ys bs w0 w hf.here.2.1 ho hb hbs hl
    · rw [enc_leaf (.inr (.inr (.inr (.inl h0)))), show base v [] = 4 :: (uv (byt v.f2).length ++ byt v.f2) by unfold base; rw [h0]; rfl] at hl ⊢
      exact put3 v.f2 _ bv ys bs w0 w ho hb hbs hl
    · rw [enc_leaf (.inr (.inr (.inr (.inr h0)))), show base v [] = 5 :: (uv (byt v.f2).length ++ byt v.f2) by unfold base; rw [h0]; rfl] at hl ⊢
      exact put4 v.f2 g c _ bv ys bs w0 w h3 h5 ho hb hbs hl
    · exact h.elim
  | succ n ih =>
    intro hn v hm hf bs w0 a bv ys w han ho hb hbs hl
    unfold An at han
    rcases han with ⟨h0, rfl⟩ | ⟨h0, rfl⟩ | ⟨h0, rfl⟩ | ⟨h0, rfl⟩ | ⟨h0, g, c, rfl, h2, h3, h4, h5⟩ | ⟨h0, g, c, rfl, h2, h3, h4, h5⟩
    · rw [enc_leaf (.inl h0), show base v [] = [0] by unfold base; rw [if_pos h0]] at hl ⊢
      exact put0 _ bv ys bs w0 w ho hb hbs hl
    · have e : base v [] = [if v.f1 = 1 then 2 else 1] := by unfold base; rw [h0]; rfl
      rw [enc_leaf (.inr (.inl h0)), e] at hl ⊢
      by_cases h1 : v.f1 = 1
      · rw [if_pos h1] at hl ⊢
        rw [h1]
        exact put1t _ bv ys bs w0 w ho hb hbs hl
      · rw [if_neg h1] at hl ⊢
        rw [show (v.f1 == 1) = false from beq_eq_false_iff_ne.2 h1]
        exact put1f _ bv ys bs w0 w ho hb hbs hl
    · rw [enc_leaf (.inr (.inr (.inl h0))), show base v [] = 3 :: uv (zig v.f1) by unfold base; rw [h0]; rfl] at hl ⊢
      exact put2 v.f1 _ bv ys bs w0 w hf.here.2.1 ho hb hbs hl
    · rw [enc_leaf (.inr (.inr (.inr (.inl h0)))), show base v [] = 4 :: (uv (byt v.f2).length ++ byt v.f2) by unfold base; rw [h0]; rfl] at hl ⊢
      exact put3 v.f2 _ bv ys bs w0 w ho hb hbs hl
    · rw [enc_leaf (.inr (.inr (.inr (.inr h0)))), show base v [] = 5 :: (uv (byt v.f2).length ++ byt v.f2) by unfold base; rw [h0]; rfl] at hl ⊢
      exact put4 v.f2 g c _ bv ys bs w0 w h3 h5 ho hb hbs hl
    · obtain ⟨m, hm2, hall⟩ := mayN_list h0 hm
      obtain rfl : m = n := by omega
      have e : encN (m + 1) v = 6 :: (uv v.f3.length ++ v.f3.flatMap (encN m)) := by
        show base v _ = _
        unfold base
        rw [h0]
        rfl
      rw [e] at hl ⊢
      exact put5 v.f3 g c m bv ys bs w0 w (by omega) hf.1.1 h3 h5 (fun x hx a bv ys w q1 q2 q3 q4 q5 => ih (by omega) x (hall x hx) (hf.2 x hx) bs w0 a bv ys w q1 q2 q3 q4 q5) ho hb hbs hl
end Go.Proofs.Ytcilojakgnjjmaa.MeU
/- A value's bytes: Encode. -/
set_option linter.unusedSimpArgs false
set_option linter.unusedVariables false
namespace Go.Proofs.Ytcilojakgnjjmaa.MeE
open Go Go.RowKit Go.Proofs.YtcilojakgnjjmaaW.PrintWords Go.Proofs.YtcilojakgnjjmaaW.PrintLast Go.Proofs.YtcilojakgnjjmaaW.PrintMore Mem PAll MeP MeM MeN MeA MeT WireP UvW VrW MeU
theorem ow_nil (w : World) (b : Nat) : Ow .u8 5 w b (.slice none 0 0) [] := Ow.nil _ _ _ _
/-- Either way: the bytes, or why not. -/
def Enc (l : List Int) (w w' : World) (e : Ending) : Prop := Below w.heap.size w w' ∧ ((1048576 < l.length ∧ e = .returned (.tuple #[.slice none 0 0, .int .i64 3])) ∨ (l.length ≤ 1048576 ∧ ∃ (B : Option Addr) (cb : Nat), e = .returned (.tuple #[.slice B l.length cb, .int .i64 0]) ∧ l.length ≤ cb ∧ BK.C w' B l.length l))
theorem wenc_calls (v : V) (a : Value) (w : World) (hm : mayN 16 v = true) (hf : Fit 16 v) (ha : An 16 w (fun k => k < w.heap.size) v a) (hl : (encN 16 v).length + 30 ≤ 140737488355328) :
    Calls Try.prog 27 #[a] w fun e w' => Enc (encN 16 v) w w' e := by
  have T := Lib.hid (put_calls 16 (by decide) v hm hf w.heap.size w a (.slice none 0 0) [] w ha (ow_nil _ _) (Below.refl _ _) (Nat.le_refl _) (by simpa using hl))
  have HM : Hid ((encN 16 v).length ≤ 9223372036854775807) := Lib.hid (by omega)
  clear hm hf ha hl
  go_enter Try.func27, Try.ntmps27
  go_wp2_with fail
  refine T.out.mono ?_
  rintro e w1 ⟨bv, rfl, ho, hb, hs⟩
  rw [List.nil_append] at ho
  obtain ⟨B, cb, rfl, hc, hC⟩ := ho.reads
  have HB := Lib.hid hb
  have HC := Lib.hid hC
  have HCC := Lib.hid hc
  obtain ⟨L, hL⟩ : ∃ L, L = (encN 16 v).length := ⟨_, rfl⟩
  have HLE := Lib.hid hL
  rw [← hL] at HC HCC HM ⊢
  clear ho hb hs hc hC T hL
  by_cases h : L ≤ 1048576
  · have h1 : decide ((1048576 : Int) < (L : Int)) = false := decide_eq_false (by omega)
    have h2 : decide (1048576 < L) = false := decide_eq_false (by omega)
    have HH := Lib.hid h
    clear h
    go_wp2_with fail
    go_ret2
    refine ⟨HB.out, .inr ⟨by rw [← HLE.out]; exact HH.out, B, cb, by rw [← HLE.out]; rfl, by rw [← HLE.out]; exact HCC.out, by rw [← HLE.out]; exact HC.out⟩⟩
  · have h1 : decide ((1048576 : Int) < (L : Int)) = true := decide_eq_true (by omega)
    have h2 : decide (1048576 < L) = true := decide_eq_true (by omega)
    have HH : Hid (1048576 < L) := Lib.hid (by omega)
    clear h
    go_wp2_with fail
    go_ret2
    exact ⟨HB.out, .inl ⟨by rw [← HLE.out]; exact HH.out, rfl⟩⟩
theorem enc_bad (x : V) (A : Option Addr) (c : Nat) (w : World) (hl : x.f3.length ≤ c) (hc : kV.C w A x.f3.length x.f3) (hm : mayN 16 x = false) :
    Calls Try.prog 18 #[.agg (aggV x A c)] w fun e w' => e = .returned (.tuple #[.slice none 0 0, .int .i64 1]) ∧ Below w.heap.size w w' := by
  have HB := Lib.hid (below_alloc (Below.refl w.heap.size w) (.cells (aggV x A c) 24))
  have HV : Hid ((w.alloc (.cells (aggV x A c) 24)).heap[w.heap.size]? = some (.cells (aggV x A c) 24 (0, 0))) := Lib.hid (blk_new _ _)
  have T := Lib.hid (check_calls x A c _ hl (Kd.C_below hc HB.out))
  rw [hm, if_neg (by decide)] at T
  have c0 := blk_cell HV.out 0
  have c1 := blk_cell HV.out 1
  have c2 := blk_cell HV.out 2
  have c3 := blk_cell HV.out 3
  clear hc hl hm
  go_enter Try.func18, Try.ntmps18
  go_wp2_with fail
  refine T.out.mono ?_
  rintro e w2 ⟨rfl, hb⟩
  have HB2 := Lib.hid (below_then HB.out HB.out.size hb)
  clear hb T c0 c1 c2 c3
  go_wp2_with fail
  go_ret2
  exact ⟨rfl, HB2.out⟩
theorem enc_ok (x : V) (A : Option Addr) (c : Nat) (w : World) (hl : x.f3.length ≤ c) (hc : kV.C w A x.f3.length x.f3) (hm : mayN 16 x = true) (hf : Fit 16 x) (hs : (encN 16 x).length + 30 ≤ 140737488355328) :
    Calls Try.prog 18 #[.agg (aggV x A c)] w fun e w' => Enc (encN 16 x) w w' e := by
  have HB := Lib.hid (below_alloc (Below.refl w.heap.size w) (.cells (aggV x A c) 24))
  have HV : Hid ((w.alloc (.cells (aggV x A c) 24)).heap[w.heap.size]? = some (.cells (aggV x A c) 24 (0, 0))) := Lib.hid (blk_new _ _)
  have HC := Lib.hid (Kd.C_below hc HB.out)
  have T := Lib.hid (check_calls x A c _ hl HC.out)
  rw [hm, if_pos rfl] at T
  have HM := Lib.hid hm
  have HF := Lib.hid hf
  have HS := Lib.hid hs
  have HL := Lib.hid hl
  have c0 := blk_cell HV.out 0
  have c1 := blk_cell HV.out 1
  have c2 := blk_cell HV.out 2
  have c3 := blk_cell HV.out 3
  clear hc hl hm hf hs
  go_enter Try.func18, Try.ntmps18
  go_wp2_with fail
  refine T.out.mono ?_
  rintro e w2 ⟨rfl, hb⟩
  have HB2 := Lib.hid (below_then HB.out HB.out.size hb)
  have HV2 := Lib.hid (blk_below HV.out hb)
  have HC2 := Lib.hid (Kd.C_below HC.out hb)
  clear hb T c0 c1 c2 c3
  have c0 := blk_cell HV2.out 0
  have c1 := blk_cell HV2.out 1
  have c2 := blk_cell HV2.out 2
  have c3 := blk_cell HV2.out 3
  have T := Lib.hid (tree_calls 16 x HM.out HF.out A c w2 HL.out HC2.out)
  go_wp2_with fail
  refine T.out.mono ?_
  rintro e w3 ⟨a, rfl, han, hb⟩
  have HB3 := Lib.hid (below_then HB2.out HB2.out.size hb)
  have T := Lib.hid (wenc_calls x a w3 HM.out HF.out (han.mono (fun k _ h => h)) HS.out)
  clear hb han c0 c1 c2 c3
  go_wp2_with fail
  refine T.out.mono ?_
  rintro e w4 ⟨hb, ⟨h1, rfl⟩ | ⟨h1, B, cb, rfl, h2, h3⟩⟩
  · have HB4 := Lib.hid (below_then HB3.out HB3.out.size hb)
    have H1 := Lib.hid h1
    clear hb T h1
    go_wp2_with fail
    go_ret2
    exact ⟨HB4.out, .inl ⟨H1.out, rfl⟩⟩
  · have HB4 := Lib.hid (below_then HB3.out HB3.out.size hb)
    have H1 := Lib.hid h1
    have H2 := Lib.hid h2
    have H3 := Lib.hid h3
    obtain ⟨L, hL⟩ : ∃ L, L = (encN 16 x).length := ⟨_, rfl⟩
    have HLE := Lib.hid hL
    rw [← hL] at H1 H2 H3 ⊢
    clear hb T h1 h2 h3 hL
    go_wp2_with fail
    go_ret2
    exact ⟨HB4.out, .inr ⟨by rw [← HLE.out]; exact H1.out, B, cb, by rw [← HLE.out]; rfl, by rw [← HLE.out]; exact H2.out, by rw [← HLE.out]; exact H3.out⟩⟩
end Go.Proofs.Ytcilojakgnjjmaa.MeE
/- A store into a block that is known whole: the block behind it, all else as it was. -/
namespace Go.Proofs.Ytcilojakgnjjmaa.Stb
open Go Go.RowKit Go.Proofs.YtcilojakgnjjmaaW.PrintWords Go.Proofs.YtcilojakgnjjmaaW.PrintLast Go.Proofs.YtcilojakgnjjmaaW.PrintMore
section
variable {P : Program} {ops : Array Oper} {rest : List Oper} {o : Oper} {a : Act} {Q : Exit → Act → World → Prop} {Kc : Act → World → Prop}
theorem store_run {W : World} (t : TypeId) (p x : Operand) (ho : o.op = .store t p x) {g j : Nat} {e : TypeId} {cur cur' : Array Value} {u : Value} (seg : List Value)
    (hh : W.heap[g]? = some (.cells cur e (0, 0))) (haddr : a.eval p = .pointer (some ⟨g, j, none⟩)) (hx : a.eval x = u) (hu : u.cells.toList = seg) (ht : (P.info? t).map (·.size) = some seg.length) (hfit : j + seg.length ≤ cur.size) (h1 : seg.all (fun q => q.oneCell') = true)
    (hc : cur'.toList = cur.toList.take j ++ seg ++ cur.toList.drop (j + seg.length)) :
    ∃ w1, (execOp a.eval o).run P W = .ok .skip w1 ∧ w1.heap[g]? = some (.cells cur' e (0, 0)) ∧ W.grownBy w1 (some g) ∧ w1.heap.size = W.heap.size := by
  have h1' : ∀ q ∈ seg, q.oneCell' = true := fun q hq => List.all_eq_true.1 h1 q hq
  have hrun := run_store_run (P := P) (o := j) t u seg hh hu ht hfit h1'
  obtain ⟨c2, k1, k2, k3⟩ := setCells_row seg j W cur hh hfit
  obtain ⟨s1, s2, s3, s4⟩ := setCells_same g seg j W
  have e2 : c2 = cur' := by rw [← Array.toList_inj, k3, hc]
  subst e2
  refine ⟨W.setCells g j seg, ?_, k1, ⟨s1, s2, s3, by rw [s4]; exact Nat.le_refl _, fun k _ hk => setCells_far _ _ k (fun he => hk (by rw [he]))⟩, s4⟩
  unfold execOp
  simp only [ho, haddr, hx, Sem.run_bind, Sem.run_pure, Result.andThen_ok, hrun]
/-- In a region that draws its order. -/
theorem store_step {W : World} (hw : Region.wanted o (yielded ops a.tmps) = true) (hN : o.dst = none) (t : TypeId) (p x : Operand) (ho : o.op = .store t p x) {g j : Nat} {e : TypeId} {cur cur' : Array Value} {u : Value} (seg : List Value)
    (hh : W.heap[g]? = some (.cells cur e (0, 0))) (haddr : a.eval p = .pointer (some ⟨g, j, none⟩)) (hx : a.eval x = u) (hu : u.cells.toList = seg) (ht : (P.info? t).map (·.size) = some seg.length) (hfit : j + seg.length ≤ cur.size) (h1 : seg.all (fun q => q.oneCell') = true)
    (hc : cur'.toList = cur.toList.take j ++ seg ++ cur.toList.drop (j + seg.length))
    (h : ∀ w1, w1.heap[g]? = some (.cells cur' e (0, 0)) → W.grownBy w1 (some g) → w1.heap.size = W.heap.size → Kc (a.put none undef) w1) : if Region.wanted o (yielded ops a.tmps) = true then Oper.wp P o a W Kc Q else Kc (a.put none undef) W := by
  obtain ⟨w1, hrun, k1, k2, k3⟩ := store_run (P := P) t p x ho seg hh haddr hx hu ht hfit h1 hc
  exact skip_ hw hN hrun (h w1 k1 k2 k3)
/-- In a plain region, as an arm: 'hd' is the operation itself. -/
theorem store_list {W : World} (hgd : o.guard = none) (hN : o.dst = none) (t : TypeId) (p x : Operand) (ho : o.op = .store t p x) {g j : Nat} {e : TypeId} {cur cur' : Array Value} {u : Value} (seg : List Value)
    (hh : W.heap[g]? = some (.cells cur e (0, 0))) (haddr : a.eval p = .pointer (some ⟨g, j, none⟩)) (hx : a.eval x = u) (hu : u.cells.toList = seg) (ht : (P.info? t).map (·.size) = some seg.length) (hfit : j + seg.length ≤ cur.size) (h1 : seg.all (fun q => q.oneCell') = true)
    (hc : cur'.toList = cur.toList.take j ++ seg ++ cur.toList.drop (j + seg.length))
    (h : ∀ w1, w1.heap[g]? = some (.cells cur' e (0, 0)) → W.grownBy w1 (some g) → w1.heap.size = W.heap.size → wpList P ops Q rest a w1) : wpList P ops Q (o :: rest) a W := by
  obtain ⟨w1, hrun, k1, k2, k3⟩ := store_run (P := P) t p x ho seg hh haddr hx hu ht hfit h1 hc
  refine wpList_plain hgd fun K hK => ?_
  unfold Oper.wp
  rw [hrun]
  show K (a.put o.dst undef) w1
  rw [hN]
  exact hK _ _ (h w1 k1 k2 k3)
end
theorem below_grown1 {w0 w w1 : World} {B g : Nat} (h : Below B w0 w) (hg : w.grownBy w1 (some g)) (hb : B ≤ g) (hB : B ≤ w.heap.size) : Below B w0 w1 := h.grown hg hB (by intro k hk; injection hk with hk; omega)
end Go.Proofs.Ytcilojakgnjjmaa.Stb
/- A tree's value. -/
set_option linter.unusedSimpArgs false
set_option linter.unusedVariables false
namespace Go.Proofs.Ytcilojakgnjjmaa.MeV
open Go Go.RowKit Go.Proofs.YtcilojakgnjjmaaW.PrintWords Go.Proofs.YtcilojakgnjjmaaW.PrintLast Go.Proofs.YtcilojakgnjjmaaW.PrintMore Mem PAll MeP MeM MeN MeA MeT WireP UvW VrW MeU MeE MeS
theorem nt_eq {s : ByteArray} (h : nt s = true) : s = ⟨#[]⟩ := by
  unfold nt at h
  rw [Lib.toList_data, beq_iff_eq] at h
  cases s with
  | mk d => simp only [Array.toList_eq_nil_iff] at h; rw [h]
theorem byt_str (s : ByteArray) : strOfNums (byt s) = s := Lib.Lz.strOfNums_map s.data.toList
abbrev VZ : Array Value := #[.int .i64 0, .int .i64 0, .string ⟨#[]⟩, .slice none 0 0]
theorem infoV : (Try.prog.info? 24).map (fun i => (i.zero, i.size, i.bytes)) = some (some (.agg VZ), kV.sz, 56) := by kernel_rfl
/-- A value, made: its list's row is the call's own. -/
def Made (v : V) (w w' : World) (e : Ending) : Prop := ∃ v3, e = .returned (.agg #[.int .i64 v.f0, .int .i64 v.f1, .string v.f2, v3]) ∧ kV.R 24 w' w.heap.size (fun _ => True) v3 v.f3 ∧ Below w.heap.size w w'
set_option maxHeartbeats 4000000 in
theorem val0 (w : World) : Calls Try.prog 24 #[.nilIface] w fun e w' => e = .returned (.agg #[.int .i64 0, .int .i64 0, .string ⟨#[]⟩, .slice none 0 0]) ∧ Below w.heap.size w w' := by
  have HB := Lib.hid (below_alloc (Below.refl w.heap.size w) (.cells VZ 24))
  have HZ : Hid ((w.alloc (.cells VZ 24)).heap[w.heap.size]? = some (.cells VZ 24 (0, 0))) := Lib.hid (blk_new _ _)
  have ta0 := fun W => ta_bool_nil W
  have ta1 := fun W => ta_int64_nil W
  have ta2 := fun W => ta_string_nil W
  have ta3 := fun W => ta_bytes_nil W
  have ta4 := fun W => ta_anys_nil W
  go_enter Try.func24, Try.ntmps24
  go_wp2_with (first | (refine gate_ (.store 24 (.tmp 2) (.tmp 55)) rfl ?_; go_must (refine Stb.store_list rfl rfl 24 (.tmp 2) (.tmp 55) rfl (cur' := #[.int .i64 0, .int .i64 0, .string ⟨#[]⟩, .slice none 0 0]) [.int .i64 0, .int .i64 0, .string ⟨#[]⟩, .slice none 0 0] (by exact HZ.out) (by rfl) (by rfl) (by rfl) (by kernel_rfl) (Nat.le_of_ble_eq_true rfl) (by rfl) (by rfl) ?_; intro wf hz_ hg_ hs_; have HF := Lib.hid hz_; have HBF := Lib.hid (Stb.below_grown1 HB.out hg_ (Nat.le_refl _) HB.out.size); clear hz_ hg_ hs_)))
  refine bodyPost_ret (results_single rfl (.cell w.heap.size 24 #[.int .i64 0, .int .i64 0, .string ⟨#[]⟩, .slice none 0 0] (0, 0) _ rfl HF.out Try.underlying24 rfl (by kernel_rfl) .nil)) rfl ?_
  exact ⟨rfl, HBF.out⟩
set_option maxHeartbeats 4000000 in
theorem val2 (n : Int) (w : World) : Calls Try.prog 24 #[.iface 2 (.int .i64 n)] w fun e w' => e = .returned (.agg #[.int .i64 2, .int .i64 n, .string ⟨#[]⟩, .slice none 0 0]) ∧ Below w.heap.size w w' := by
  have HB := Lib.hid (below_alloc (Below.refl w.heap.size w) (.cells VZ 24))
  have HZ : Hid ((w.alloc (.cells VZ 24)).heap[w.heap.size]? = some (.cells VZ 24 (0, 0))) := Lib.hid (blk_new _ _)
  have ta0 := fun W => ta_bool_int64 (.int .i64 n) W
  have ta1 := fun W => ta_int64_int64 (.int .i64 n) W
  go_enter Try.func24, Try.ntmps24
  go_wp2_with (first | (refine gate_ (.store 24 (.tmp 2) (.tmp 24)) rfl ?_; go_must (refine Stb.store_list rfl rfl 24 (.tmp 2) (.tmp 24) rfl (cur' := #[.int .i64 2, .int .i64 n, .string ⟨#[]⟩, .slice none 0 0]) [.int .i64 2, .int .i64 n, .string ⟨#[]⟩, .slice none 0 0] (by exact HZ.out) (by rfl) (by rfl) (by rfl) (by kernel_rfl) (Nat.le_of_ble_eq_true rfl) (by rfl) (by rfl) ?_; intro wf hz_ hg_ hs_; have HF := Lib.hid hz_; have HBF := Lib.hid (Stb.below_grown1 HB.out hg_ (Nat.le_refl _) HB.out.size); clear hz_ hg_ hs_)))
  refine bodyPost_ret (results_single rfl (.cell w.heap.size 24 #[.int .i64 2, .int .i64 n, .string ⟨#[]⟩, .slice none 0 0] (0, 0) _ rfl HF.out Try.underlying24 rfl (by kernel_rfl) .nil)) rfl ?_
  exact ⟨rfl, HBF.out⟩
set_option maxHeartbeats 4000000 in
theorem val3 (s : ByteArray) (w : World) : Calls Try.prog 24 #[.iface 9 (.string s)] w fun e w' => e = .returned (.agg #[.int .i64 3, .int .i64 0, .string s, .slice none 0 0]) ∧ Below w.heap.size w w' := by
  have HB := Lib.hid (below_alloc (Below.refl w.heap.size w) (.cells VZ 24))
  have HZ : Hid ((w.alloc (.cells VZ 24)).heap[w.heap.size]? = some (.cells VZ 24 (0, 0))) := Lib.hid (blk_new _ _)
  have ta0 := fun W => ta_bool_string (.string s) W
  have ta1 := fun W => ta_int64_string (.string s) W
  have ta2 := fun W => ta_string_string (.string s) W
  go_enter Try.func24, Try.ntmps24
  go_wp2_with (first | (refine gate_ (.store 24 (.tmp 2) (.tmp 29)) rfl ?_; go_must (refine Stb.store_list rfl rfl 24 (.tmp 2) (.tmp 29) rfl (cur' := #[.int .i64 3, .int .i64 0, .string s, .slice none 0 0]) [.int .i64 3, .int .i64 0, .string s, .slice none 0 0] (by exact HZ.out) (by rfl) (by rfl) (by rfl) (by kernel_rfl) (Nat.le_of_ble_eq_true rfl) (by rfl) (by rfl) ?_; intro wf hz_ hg_ hs_; have HF := Lib.hid hz_; have HBF := Lib.hid (Stb.below_grown1 HB.out hg_ (Nat.le_refl _) HB.out.size); clear hz_ hg_ hs_)))
  refine bodyPost_ret (results_single rfl (.cell w.heap.size 24 #[.int .i64 3, .int .i64 0, .string s, .slice none 0 0] (0, 0) _ rfl HF.out Try.underlying24 rfl (by kernel_rfl) .nil)) rfl ?_
  exact ⟨rfl, HBF.out⟩
set_option maxHeartbeats 4000000 in
theorem val4 (s : ByteArray) (g c : Nat) (w : World) (hg : g < w.heap.size) (hl : (byt s).length ≤ 9223372036854775807) (hcell : ∀ (j : Nat) (b : Int), (byt s)[j]? = some b → w.cell? ⟨g, j, none⟩ = some (.int .u8 b)) : Calls Try.prog 24 #[.iface 39 (.slice (some ⟨g, 0, none⟩) (byt s).length c)] w fun e w' => e = .returned (.agg #[.int .i64 4, .int .i64 0, .string s, .slice none 0 0]) ∧ Below w.heap.size w w' := by
  have HB := Lib.hid (below_alloc (Below.refl w.heap.size w) (.cells VZ 24))
  have HZ : Hid ((w.alloc (.cells VZ 24)).heap[w.heap.size]? = some (.cells VZ 24 (0, 0))) := Lib.hid (blk_new _ _)
  have ta0 := fun W => ta_bool_bytes (.slice (some ⟨g, 0, none⟩) (byt s).length c) W
  have ta1 := fun W => ta_int64_bytes (.slice (some ⟨g, 0, none⟩) (byt s).length c) W
  have ta2 := fun W => ta_string_bytes (.slice (some ⟨g, 0, none⟩) (byt s).length c) W
  have ta3 := fun W => ta_bytes_bytes (.slice (some ⟨g, 0, none⟩) (byt s).length c) W
  have hy : BK.C w (some ⟨g, 0, none⟩) (byt s).length (byt s) := bytes_C hl hcell
  have hcs := Kd.C_string (P := Try.prog) (c := c) Try.underlying39 Try.underlying5 Try.underlying9 (Kd.C_below hy HB.out)
  rw [byt_str] at hcs
  clear hg hl hcell hy
  go_enter Try.func24, Try.ntmps24
  go_wp2_with (first | (refine gate_ (.store 24 (.tmp 2) (.tmp 35)) rfl ?_; go_must (refine Stb.store_list rfl rfl 24 (.tmp 2) (.tmp 35) rfl (cur' := #[.int .i64 4, .int .i64 0, .string s, .slice none 0 0]) [.int .i64 4, .int .i64 0, .string s, .slice none 0 0] (by exact HZ.out) (by rfl) (by rfl) (by rfl) (by kernel_rfl) (Nat.le_of_ble_eq_true rfl) (by rfl) (by rfl) ?_; intro wf hz_ hg_ hs_; have HF := Lib.hid hz_; have HBF := Lib.hid (Stb.below_grown1 HB.out hg_ (Nat.le_refl _) HB.out.size); clear hz_ hg_ hs_)))
  refine bodyPost_ret (results_single rfl (.cell w.heap.size 24 #[.int .i64 4, .int .i64 0, .string s, .slice none 0 0] (0, 0) _ rfl HF.out Try.underlying24 rfl (by kernel_rfl) .nil)) rfl ?_
  exact ⟨rfl, HBF.out⟩
set_option maxHeartbeats 4000000 in
theorem val1f (w : World) : Calls Try.prog 24 #[.iface 4 (.bool false)] w fun e w' => e = .returned (.agg #[.int .i64 1, .int .i64 0, .string ⟨#[]⟩, .slice none 0 0]) ∧ Below w.heap.size w w' := by
  have HB := Lib.hid (below_alloc (Below.refl w.heap.size w) (.cells VZ 24))
  have HZ : Hid ((w.alloc (.cells VZ 24)).heap[w.heap.size]? = some (.cells VZ 24 (0, 0))) := Lib.hid (blk_new _ _)
  have ta0 := fun W => ta_bool_bool (.bool false) W
  have hs1 : (w.alloc (.cells VZ 24)).heap.size = w.heap.size + 1 := by simp only [World.alloc, Array.size_push]
  have H4 : Hid (((w.alloc (.cells VZ 24)).alloc (.cells #[.int .i64 1, .int .i64 0, .string ⟨#[]⟩, .slice none 0 0] 24)).heap[w.heap.size + 1]? = some (.cells #[.int .i64 1, .int .i64 0, .string ⟨#[]⟩, .slice none 0 0] 24 (0, 0))) := Lib.hid (by
    have h := blk_new (w.alloc (.cells VZ 24)) (.cells #[.int .i64 1, .int .i64 0, .string ⟨#[]⟩, .slice none 0 0] 24)
    rw [hs1] at h
    exact h)
  have HZ4 := Lib.hid (blk_alloc HZ.out (.cells #[.int .i64 1, .int .i64 0, .string ⟨#[]⟩, .slice none 0 0] 24))
  have HB4 := Lib.hid (below_alloc HB.out (.cells #[.int .i64 1, .int .i64 0, .string ⟨#[]⟩, .slice none 0 0] 24))
  clear hs1
  have c0 := blk_cell H4.out 0
  have c1 := blk_cell H4.out 1
  have c2 := blk_cell H4.out 2
  have c3 := blk_cell H4.out 3
  go_enter Try.func24, Try.ntmps24
  go_wp2_with (first | (refine gate_ (.store 24 (.tmp 2) (.tmp 19)) rfl ?_; go_must (refine Stb.store_list rfl rfl 24 (.tmp 2) (.tmp 19) rfl (cur' := #[.int .i64 1, .int .i64 0, .string ⟨#[]⟩, .slice none 0 0]) [.int .i64 1, .int .i64 0, .string ⟨#[]⟩, .slice none 0 0] (by exact HZ4.out) (by rfl) (by rfl) (by rfl) (by kernel_rfl) (Nat.le_of_ble_eq_true rfl) (by rfl) (by rfl) ?_; intro wf hz_ hg_ hs_; have HF := Lib.hid hz_; have HBF := Lib.hid (Stb.below_grown1 HB4.out hg_ (Nat.le_refl _) HB4.out.size); clear hz_ hg_ hs_)))
  refine bodyPost_ret (results_single rfl (.cell w.heap.size 24 #[.int .i64 1, .int .i64 0, .string ⟨#[]⟩, .slice none 0 0] (0, 0) _ rfl HF.out Try.underlying24 rfl (by kernel_rfl) .nil)) rfl ?_
  exact ⟨rfl, HBF.out⟩
set_option maxHeartbeats 4000000 in
theorem val1t (w : World) : Calls Try.prog 24 #[.iface 4 (.bool true)] w fun e w' => e = .returned (.agg #[.int .i64 1, .int .i64 1, .string ⟨#[]⟩, .slice none 0 0]) ∧ Below w.heap.size w w' := by
  have HB := Lib.hid (below_alloc (Below.refl w.heap.size w) (.cells VZ 24))
  have HZ : Hid ((w.alloc (.cells VZ 24)).heap[w.heap.size]? = some (.cells VZ 24 (0, 0))) := Lib.hid (blk_new _ _)
  have ta0 := fun W => ta_bool_bool (.bool true) W
  have hs1 : (w.alloc (.cells VZ 24)).heap.size = w.heap.size + 1 := by simp only [World.alloc, Array.size_push]
  have H4 : Hid (((w.alloc (.cells VZ 24)).alloc (.cells #[.int .i64 1, .int .i64 0, .string ⟨#[]⟩, .slice none 0 0] 24)).heap[w.heap.size + 1]? = some (.cells #[.int .i64 1, .int .i64 0, .string ⟨#[]⟩, .slice none 0 0] 24 (0, 0))) := Lib.hid (by
    have h := blk_new (w.alloc (.cells VZ 24)) (.cells #[.int .i64 1, .int .i64 0, .string ⟨#[]⟩, .slice none 0 0] 24)
    rw [hs1] at h
    exact h)
  have HZ4 := Lib.hid (blk_alloc HZ.out (.cells #[.int .i64 1, .int .i64 0, .string ⟨#[]⟩, .slice none 0 0] 24))
  have HB4 := Lib.hid (below_alloc HB.out (.cells #[.int .i64 1, .int .i64 0, .string ⟨#[]⟩, .slice none 0 0] 24))
  clear hs1
  go_enter Try.func24, Try.ntmps24
  go_wp2_with (first | (refine gate_ (.store 2 (.tmp 18) (.const (.int .i64 1))) rfl ?_; go_must (refine Stb.store_list rfl rfl 2 (.tmp 18) (.const (.int .i64 1)) rfl (g := w.heap.size + 1) (j := 1) (cur' := #[.int .i64 1, .int .i64 1, .string ⟨#[]⟩, .slice none 0 0]) [.int .i64 1] (by exact H4.out) (by rfl) (by rfl) (by rfl) (by kernel_rfl) (Nat.le_of_ble_eq_true rfl) (by rfl) (by rfl) ?_; intro w5 hz_ hg_ hs_; have H5 := Lib.hid hz_; have HZ5 := Lib.hid (blk_grown HZ4.out hg_ (by simp)); have HB5 := Lib.hid (Stb.below_grown1 HB4.out hg_ (Nat.le_add_right _ 1) HB4.out.size); have c0 := blk_cell H5.out 0; have c1 := blk_cell H5.out 1; have c2 := blk_cell H5.out 2; have c3 := blk_cell H5.out 3; clear hz_ hg_ hs_)) | (first | (refine gate_ (.store 24 (.tmp 2) (.tmp 19)) rfl ?_; go_must (refine Stb.store_list rfl rfl 24 (.tmp 2) (.tmp 19) rfl (cur' := #[.int .i64 1, .int .i64 1, .string ⟨#[]⟩, .slice none 0 0]) [.int .i64 1, .int .i64 1, .string ⟨#[]⟩, .slice none 0 0] (by exact HZ5.out) (by rfl) (by rfl) (by rfl) (by kernel_rfl) (Nat.le_of_ble_eq_true rfl) (by rfl) (by rfl) ?_; intro wf hz_ hg_ hs_; have HF := Lib.hid hz_; have HBF := Lib.hid (Stb.below_grown1 HB5.out hg_ (Nat.le_refl _) HB5.out.size); clear hz_ hg_ hs_))))
  refine bodyPost_ret (results_single rfl (.cell w.heap.size 24 #[.int .i64 1, .int .i64 1, .string ⟨#[]⟩, .slice none 0 0] (0, 0) _ rfl HF.out Try.underlying24 rfl (by kernel_rfl) .nil)) rfl ?_
  exact ⟨rfl, HBF.out⟩
set_option maxHeartbeats 8000000 in
set_option maxRecDepth 100000 in
theorem val5 (n : Nat) (l : List V) (g c0 : Nat) (w : World) (hl : l.length ≤ 2513169434900) (hg : g < w.heap.size) (hcell : ∀ (j : Nat) (x : V), l[j]? = some x → ∃ a', w.cell? ⟨g, j, none⟩ = some a' ∧ An n w (fun _ => True) x a')
    (T : ∀ (x : V), x ∈ l → ∀ (a : Value) (w : World), An n w (fun _ => True) x a → Calls Try.prog 24 #[a] w fun e w' => Made x w w' e) :
    Calls Try.prog 24 #[.iface 59 (.slice (some ⟨g, 0, none⟩) l.length c0)] w fun e w' => Made ⟨5, 0, ⟨#[]⟩, l⟩ w w' e := by
  have HB := Lib.hid (below_alloc (below_alloc (Below.refl w.heap.size w) (.cells VZ 24)) (.cells #[.int .i64 5, .int .i64 0, .string ⟨#[]⟩, .slice none 0 0] 24))
  have hs1 : (w.alloc (.cells VZ 24)).heap.size = w.heap.size + 1 := by simp only [World.alloc, Array.size_push]
  have hs2 : ((w.alloc (.cells VZ 24)).alloc (.cells #[.int .i64 5, .int .i64 0, .string ⟨#[]⟩, .slice none 0 0] 24)).heap.size = w.heap.size + 2 := by simp only [World.alloc, Array.size_push]
  have HZ0 : Hid (((w.alloc (.cells VZ 24)).alloc (.cells #[.int .i64 5, .int .i64 0, .string ⟨#[]⟩, .slice none 0 0] 24)).heap[w.heap.size]? = some (.cells VZ 24 (0, 0))) := Lib.hid (blk_below (blk_new _ _) (below_alloc (Below.refl _ _) _))
  have HM0 : Hid (((w.alloc (.cells VZ 24)).alloc (.cells #[.int .i64 5, .int .i64 0, .string ⟨#[]⟩, .slice none 0 0] 24)).heap[w.heap.size + 1]? = some (.cells #[.int .i64 5, .int .i64 0, .string ⟨#[]⟩, .slice none 0 0] 24 (0, 0))) := Lib.hid (by
    have h := blk_new (w.alloc (.cells VZ 24)) (.cells #[.int .i64 5, .int .i64 0, .string ⟨#[]⟩, .slice none 0 0] 24)
    rw [hs1] at h
    exact h)
  have HU0 : Hid (kV.R 24 ((w.alloc (.cells VZ 24)).alloc (.cells #[.int .i64 5, .int .i64 0, .string ⟨#[]⟩, .slice none 0 0] 24)) (w.heap.size + 2) (fun _ => True) (.slice none 0 0) []) := Lib.hid (Kd.R_nil _ _ _ _ _)
  have HS0 : Hid (w.heap.size + 2 ≤ ((w.alloc (.cells VZ 24)).alloc (.cells #[.int .i64 5, .int .i64 0, .string ⟨#[]⟩, .slice none 0 0] 24)).heap.size) := Lib.hid (by rw [hs2]; omega)
  have HCE := Lib.hid hcell
  have HGB := Lib.hid hg
  have HT := Lib.hid T
  have HLL := Lib.hid hl
  have hlm : l.length ≤ 2513169434900 := hl
  have ta0 := fun W => ta_bool_anys (.slice (some ⟨g, 0, none⟩) l.length c0) W
  have ta1 := fun W => ta_int64_anys (.slice (some ⟨g, 0, none⟩) l.length c0) W
  have ta2 := fun W => ta_string_anys (.slice (some ⟨g, 0, none⟩) l.length c0) W
  have ta3 := fun W => ta_bytes_anys (.slice (some ⟨g, 0, none⟩) l.length c0) W
  have ta4 := fun W => ta_anys_anys (.slice (some ⟨g, 0, none⟩) l.length c0) W
  clear hcell hg T hl hs1 hs2
  go_enter Try.func24, Try.ntmps24
  go_wp2_with fail
  go_loopw [42] (fun i' wr => ∃ (i : Nat) (xs : List V) (A : Option Addr) (c : Nat), i' = .int .i64 i ∧ Hid (i ≤ l.length) ∧ Hid (xs.length = i) ∧ Hid (xs = l.take i) ∧ Hid (kV.R 24 wr (w.heap.size + 2) (fun _ => True) (.slice A xs.length c) xs) ∧ Hid (wr.heap[w.heap.size + 1]? = some (.cells #[.int .i64 5, .int .i64 0, .string ⟨#[]⟩, .slice A xs.length c] 24 (0, 0))) ∧ Hid (wr.heap[w.heap.size]? = some (.cells VZ 24 (0, 0))) ∧ Hid (Below w.heap.size w wr) ∧ Hid (w.heap.size + 2 ≤ wr.heap.size)) (fun i' _ => (l.length - intOf i').toNat)
  case atStart => exact ⟨0, [], none, 0, rfl, Lib.hid (Nat.zero_le _), Lib.hid rfl, Lib.hid rfl, HU0, HM0, HZ0, HB, HS0⟩
  case round =>
    obtain ⟨i, xs, A, c, rfl, HI, HXL, HXT, HU, HM, HZ, HBR, HSR⟩ := hrel
    by_cases h : i < l.length
    · have hlt : decide (i < l.length) = true := decide_eq_true h
      have hlt2 : decide ((i : Int) < (l.length : Int)) = true := decide_eq_true (by omega)
      have i0 : (0 : Int) ≤ i := by omega
      have i1 : (i : Int) < l.length := by omega
      obtain ⟨x, hx⟩ : ∃ x, l[i]? = some x := ⟨_, List.getElem?_eq_getElem h⟩
      obtain ⟨a', ha, han⟩ := HCE.out i x hx
      have hcell := (World.cell?_of_block (a := ⟨g, i, none⟩) (HBR.out.block g HGB.out)).trans ha
      have HAX : Hid (An n wr (fun _ => True) x a') := Lib.hid (An.move (fun k hk hl => ⟨HBR.out.block k hl, hk⟩) n x a' han)
      have HX := Lib.hid hx
      have HXM := Lib.hid (List.mem_of_getElem? hx)
      have HLT := Lib.hid h
      clear h hx ha han
      go_wp2_with fail
      clear hcell
      have hB0 : Hid (Below w.heap.size w wr.drew) := Lib.hid (below_then HBR.out HBR.out.size (below_drew (Below.refl _ _)))
      have hU0 := Lib.hid (Kd.R_below HU.out (below_drew (Below.refl _ _)))
      have hM0 := Lib.hid (blk_below HM.out (below_drew (Below.refl _ _)))
      have hZ0 := Lib.hid (blk_below HZ.out (below_drew (Below.refl _ _)))
      have hS0 : Hid (w.heap.size + 2 ≤ wr.drew.heap.size) := Lib.hid HSR.out
      have hA0 : Hid (An n wr.drew (fun _ => True) x a') := Lib.hid (HAX.out.below (below_drew (Below.refl _ _)))
      refine start_ (n := 8) (S := fun w' => w'.heap[w.heap.size + 1]? = wr.heap[w.heap.size + 1]?) (ds := [7]) #[false, false, false, false, false, false, false, false] (by kernel_rfl) rfl rfl rfl (fun hHeld => ?_)
      generalize wr.drew = wd at hB0 hU0 hM0 hZ0 hS0 hA0 hHeld ⊢
      refine pure_ (i := 0) (N := some 46) (v := ?_) (a' := ?_) #[true, false, false, false, false, false, false, false] rfl rfl (by kernel_rfl) (fun _ _ _ h => h) (Or.inl ⟨by rfl, ?_⟩) ?_ ?_
      rotate_left
      · intro w'
        go_simp
        with_reducible rfl
      rotate_left
      · simp only [Act.put, List.setIfInBounds_toArray, List.set_cons_zero, List.set_cons_succ, i64_w, i32_w]
        rfl
      refine pure_ (i := 2) (N := some 48) (v := ?_) (a' := ?_) #[true, false, true, false, false, false, false, false] rfl rfl (by kernel_rfl) (fun _ _ _ h => h) (Or.inl ⟨by rfl, ?_⟩) ?_ ?_
      rotate_left
      · intro w'
        go_simp
        with_reducible rfl
      rotate_left
      · simp only [Act.put, List.setIfInBounds_toArray, List.set_cons_zero, List.set_cons_succ, i64_w, i32_w]
        rfl
      refine take_ (i := 1) (N := some 47) (v := ?_) (a' := ?_) #[true, true, true, false, false, false, false, false] rfl rfl (by kernel_rfl) (fun _ _ _ h => h) (Or.inl ⟨by rfl, ?_⟩) hHeld ?_ ?_
      rotate_left
      · rintro w' hS
        have c3 := blk_cell (hS.trans HM.out) 3
        go_simp
        with_reducible rfl
      rotate_left
      · simp only [Act.put, List.setIfInBounds_toArray, List.set_cons_zero, List.set_cons_succ, i64_w, i32_w]
        rfl
      refine one_ (i := 3) (N := some 49) #[true, true, true, true, false, false, false, false] rfl rfl (by kernel_rfl) (by decide) (fun K hK => ?_)
      refine goes_ Try.func24 (by kernel_rfl) rfl #[a'] (by rfl) rfl rfl (by (try simp only [List.map_toArray, List.map_cons, List.map_nil]); first | done | rfl | (go_simp; done) | (go_simp; rfl)) ?_
      refine (HT.out x HXM.out a' wd hA0.out).mono ?_
      rintro r w49 ⟨v3, rfl, hr3, hb⟩
      refine ⟨_, rfl, ?_⟩
      have hR3 := Lib.hid (Kd.R_lower (Kd.R_mono (Kd.R_bound hr3) (fun k hk => (hk.2.1 : wd.heap.size ≤ k))) hS0.out)
      have hLT := Lib.hid (Kd.R_lt hU0.out)
      have hU1 := Lib.hid (Kd.R_below hU0.out hb)
      have hM1 := Lib.hid (blk_below hM0.out hb)
      have hZ1 := Lib.hid (blk_below hZ0.out hb)
      have hB1 := Lib.hid (below_then hB0.out hB0.out.size hb)
      have hS1 : Hid (w.heap.size + 2 ≤ w49.heap.size) := Lib.hid (Nat.le_trans hS0.out hb.size)
      clear hr3 hb hB0 hU0 hM0 hZ0 hS0 hA0
      refine hK.out _ _ (hM1.out.trans HM.out.symm) (fun hHeld => ?_)
      clear hK K
      refine norm_ (a' := ?_) ?_ ?_
      rotate_left
      · show Act.put _ (some 49) _ = _
        simp only [Act.put, List.setIfInBounds_toArray, List.set_cons_zero, List.set_cons_succ, i64_w, i32_w]
        rfl
      refine one_ (i := 4) (N := some 50) #[true, true, true, true, true, false, false, false] rfl rfl (by kernel_rfl) (by decide) (fun K hK => ?_)
      refine value_ (w1 := ?_) (v := ?_) (by rfl) rfl ?_ ?_
      rotate_left 2
      · go_simp
        constructor
        · rfl
        · rfl
      refine hK.out _ _ ((blk_alloc hM1.out _).trans HM.out.symm) (fun hHeld => ?_)
      clear hK K
      refine norm_ (a' := ?_) ?_ ?_
      rotate_left
      · show Act.put _ (some 50) _ = _
        simp only [Act.put, List.setIfInBounds_toArray, List.set_cons_zero, List.set_cons_succ, i64_w, i32_w]
        rfl
      refine one_ (i := 5) (N := some 51) #[true, true, true, true, true, true, false, false] rfl rfl (by kernel_rfl) (by decide) (fun K hK => ?_)
      refine Kd.R_append_step kV (w0 := w49) (w.heap.size + 2) (by rfl) (.tmp 47) (.tmp 50) 22 24 (.agg VZ) 56 rfl Try.underlying22 infoV rfl (by decide) (by decide) (.slice A xs.length c) xs x [.int .i64 x.f0, .int .i64 x.f1, .string x.f2, v3] (fun _ => True) (fun k => wd.heap.size ≤ k) rfl rfl (k24_mkM _ _ _ x hR3.out) (fun k hk => ⟨trivial, fun e => by have := hLT.out k e.symm; omega⟩) (fun _ _ => trivial) hU1.out (Below.refl _ _) hS1.out ?aL ?_
      (case aL => have h1 := HI.out; have h2 := HXL.out; have h3 := HLT.out; have h4 := HLL.out; omega)
      intro v51 w51 ho hb hg hat
      obtain ⟨A2, c2, hv51⟩ := Kd.R_slice ho
      subst hv51
      obtain ⟨L2, hL2⟩ : ∃ L2, L2 = (xs ++ [x]).length := ⟨_, rfl⟩
      rw [← hL2] at ho ⊢
      have HL2 := Lib.hid hL2
      clear hL2
      have hU2 := Lib.hid ho
      have hM2 := Lib.hid (blk_grown hM1.out hg (fun e => by have := Kd.R_base hU1.out _ e.symm; omega))
      have hZ2 := Lib.hid (blk_grown hZ1.out hg (fun e => by have := Kd.R_base hU1.out _ e.symm; omega))
      have hB2 := Lib.hid (hB1.out.grown hg hB1.out.size (fun k hk => by have := Kd.R_base hU1.out k hk; omega))
      have hS2 : Hid (w.heap.size + 2 ≤ w51.heap.size) := Lib.hid (Nat.le_trans hS1.out hg.size)
      clear ho hb hg hat hB1 hU1 hM1 hZ1 hS1 hR3 hLT
      refine hK.out _ _ (hM2.out.trans HM.out.symm) (fun hHeld => ?_)
      clear hK K
      refine norm_ (a' := ?_) ?_ ?_
      rotate_left
      · show Act.put _ (some 51) _ = _
        simp only [Act.put, List.setIfInBounds_toArray, List.set_cons_zero, List.set_cons_succ, i64_w, i32_w]
        rfl
      refine pure_ (i := 6) (N := some 52) (v := ?_) (a' := ?_) #[true, true, true, true, true, true, true, false] rfl rfl (by kernel_rfl) (fun _ _ _ h => h) (Or.inl ⟨by rfl, ?_⟩) ?_ ?_
      rotate_left
      · intro w'
        go_simp
        with_reducible rfl
      rotate_left
      · simp only [Act.put, List.setIfInBounds_toArray, List.set_cons_zero, List.set_cons_succ, i64_w, i32_w]
        rfl
      refine last_ (i := 7) (N := none) #[true, true, true, true, true, true, true, true] rfl rfl (by kernel_rfl) (by decide) (fun K hK => ?_)
      refine Stb.store_step (by rfl) rfl 22 (.tmp 52) (.tmp 51) (by rfl) (cur' := #[.int .i64 5, .int .i64 0, .string ⟨#[]⟩, .slice A2 L2 c2]) [.slice A2 L2 c2] hM2.out (by rfl) (by rfl) (by rfl) (by kernel_rfl) (Nat.le_refl 4) (by rfl) (by rfl) ?_
      intro w53 hz hg hs
      have hM3 := Lib.hid hz
      have hU3 := Lib.hid (Kd.R_mono (Kd.R_grown (Kd.R_mono (Kd.R_bound hU2.out) (fun k hk => (hk.2.1 : w.heap.size + 2 ≤ k))) hg (fun k hk e => by have := Option.some.inj e; omega)) (fun _ _ => trivial))
      have hZ3 := Lib.hid (blk_grown hZ2.out hg (by simp))
      have hB3 := Lib.hid (Stb.below_grown1 hB2.out hg (Nat.le_add_right _ 1) hB2.out.size)
      have hS3 : Hid (w.heap.size + 2 ≤ w53.heap.size) := Lib.hid (Nat.le_trans hS2.out hg.size)
      clear hz hg hs hB2 hU2 hM2 hZ2 hS2
      refine hK.out _ _ ?_
      clear hK K
      refine norm_ (a' := ?_) ?_ ?_
      rotate_left
      · show Act.put _ (none) _ = _
        simp only [Act.put, List.setIfInBounds_toArray, List.set_cons_zero, List.set_cons_succ, i64_w, i32_w]
        rfl
      refine done_ (by kernel_rfl) ?_
      go_wp2_with fail
      go_roundw
      case rel =>
        refine ⟨i + 1, xs ++ [x], A2, c2, by go_num, Lib.hid (by have := HLT.out; omega), Lib.hid (by rw [List.length_append, HXL.out]; rfl), Lib.hid ?_, ?_, ?_, hZ3, hB3, hS3⟩
        · rw [List.take_add_one, HX.out, HXT.out]; rfl
        · rw [← HL2.out]; exact hU3
        · rw [← HL2.out]; exact hM3
      case measure => have := HLT.out; simp only [intOf]; omega
    · obtain rfl : i = l.length := by have := HI.out; omega
      have hlt : decide (l.length < l.length) = false := decide_eq_false (Nat.lt_irrefl _)
      have hlt2 : decide ((l.length : Int) < (l.length : Int)) = false := decide_eq_false (by omega)
      have hxl : xs = l := by rw [HXT.out, List.take_length]
      subst hxl
      have c0 := blk_cell HM.out 0
      have c1 := blk_cell HM.out 1
      have c2 := blk_cell HM.out 2
      have c3 := blk_cell HM.out 3
      clear h
      go_wp2_with (first | (refine gate_ (.store 24 (.tmp 2) (.tmp 54)) rfl ?_; go_must (refine Stb.store_list rfl rfl 24 (.tmp 2) (.tmp 54) rfl (cur' := #[.int .i64 5, .int .i64 0, .string ⟨#[]⟩, .slice A xs.length c]) [.int .i64 5, .int .i64 0, .string ⟨#[]⟩, .slice A xs.length c] (by exact HZ.out) (by rfl) (by rfl) (by rfl) (by kernel_rfl) (Nat.le_of_ble_eq_true rfl) (by rfl) (by rfl) ?_; intro wf hz_ hg_ hs_; have HF := Lib.hid hz_; have HUF := Lib.hid (Kd.R_mono (Kd.R_grown (Kd.R_mono (Kd.R_bound HU.out) (fun k hk => (hk.2.1 : w.heap.size + 2 ≤ k))) hg_ (fun k hk e => by have := Option.some.inj e; omega)) (fun _ _ => trivial)); have HBF := Lib.hid (Stb.below_grown1 HBR.out hg_ (Nat.le_refl _) HBR.out.size); clear hz_ hg_ hs_)))
      refine bodyPost_ret (results_single rfl (.cell w.heap.size 24 #[.int .i64 5, .int .i64 0, .string ⟨#[]⟩, .slice A xs.length c] (0, 0) _ rfl HF.out Try.underlying24 rfl (by kernel_rfl) .nil)) rfl ?_
      exact ⟨_, rfl, Kd.R_lower HUF.out (Nat.le_add_right _ 2), HBF.out⟩
theorem made_leaf {v : V} {w w' : World} {e : Ending} (h0 : v.f3 = []) (h : e = .returned (.agg #[.int .i64 v.f0, .int .i64 v.f1, .string v.f2, .slice none 0 0]) ∧ Below w.heap.size w w') : Made v w w' e :=
  ⟨.slice none 0 0, h.1, by rw [h0]; exact Kd.R_nil _ _ _ _ _, h.2⟩
theorem value_calls : ∀ (n : Nat) (v : V), mayN n v = true → Fit n v → ∀ (a : Value) (w : World), An n w (fun _ => True) v a → Calls Try.prog 24 #[a] w fun e w' => Made v w w' e := by
  have leaf : ∀ (n : Nat) (v : V) (a : Value) (w : World), sh v = true → v.f2.size ≤ 140737488355328 → v.f0 ≠ 5 → An n w (fun _ => True) v a → Calls Try.prog 24 #[a] w fun e w' => Made v w w' e := by
    intro n v a w hs hsz h5 han
    obtain ⟨f0, f1, f2, f3⟩ := v
    have hz : ∀ l : List V, l.length = 0 → l = [] := fun l h => List.eq_nil_of_length_eq_zero h
    unfold An at han
    rcases han with ⟨h0, rfl⟩ | ⟨h0, rfl⟩ | ⟨h0, rfl⟩ | ⟨h0, rfl⟩ | ⟨h0, g, c, rfl, h2, h3, h4, h6⟩ | ⟨h0, _⟩
    · obtain rfl : f0 = 0 := h0
      have hs' : (f1 == 0 && (nt f2 && decide (f3.length = 0))) = true := hs
      simp only [Bool.and_eq_true, beq_iff_eq, decide_eq_true_eq] at hs'
      obtain ⟨rfl, q2, q3⟩ := hs'
      obtain rfl := nt_eq q2
      exact (val0 w).mono (fun _ _ h => made_leaf (hz _ q3) h)
    · obtain rfl : f0 = 1 := h0
      have hs' : ((f1 == 0 || f1 == 1) && (nt f2 && decide (f3.length = 0))) = true := hs
      simp only [Bool.and_eq_true, Bool.or_eq_true, beq_iff_eq, decide_eq_true_eq] at hs'
      obtain ⟨q1, q2, q3⟩ := hs'
      obtain rfl := nt_eq q2
      rcases q1 with rfl | rfl
      · exact (val1f w).mono (fun _ _ h => made_leaf (hz _ q3) h)
      · exact (val1t w).mono (fun _ _ h => made_leaf (hz _ q3) h)
    · obtain rfl : f0 = 2 := h0
      have hs' : (nt f2 && decide (f3.length = 0)) = true := hs
      simp only [Bool.and_eq_true, decide_eq_true_eq] at hs'
      obtain rfl := nt_eq hs'.1
      exact (val2 f1 w).mono (fun _ _ h => made_leaf (hz _ hs'.2) h)
    · obtain rfl : f0 = 3 := h0
      have hs' : (f1 == 0 && decide (f3.length = 0)) = true := hs
      simp only [Bool.and_eq_true, beq_iff_eq, decide_eq_true_eq] at hs'
      obtain ⟨rfl, q3⟩ := hs'
      exact (val3 f2 w).mono (fun _ _ h => made_leaf (hz _ q3) h)
    · obtain rfl : f0 = 4 := h0
      have hs' : (f1 == 0 && decide (f3.length = 0)) = true := hs
      simp only [Bool.and_eq_true, beq_iff_eq, decide_eq_true_eq] at hs'
      obtain ⟨rfl, q3⟩ := hs'
      exact (val4 f2 g c w h4 (by rw [byt_len]; have : f2.size ≤ 140737488355328 := hsz; omega) h6).mono (fun _ _ h => made_leaf (hz _ q3) h)
    · exact absurd h0 h5
  intro n
  induction n with
  | zero =>
    intro v hm hf a w han
    by_cases h5 : v.f0 = 5
    · obtain ⟨m, hm2, _⟩ := mayN_list h5 hm
      omega
    · exact leaf 0 v a w (mayN_sh hm) hf.here.2.2 h5 han
  | succ n ih =>
    intro v hm hf a w han
    by_cases h5 : v.f0 = 5
    · obtain ⟨m, hm2, hall⟩ := mayN_list h5 hm
      obtain rfl : m = n := by omega
      have hs := mayN_sh hm
      unfold An at han
      rcases han with ⟨h0, _⟩ | ⟨h0, _⟩ | ⟨h0, _⟩ | ⟨h0, _⟩ | ⟨h0, _⟩ | ⟨h0, g, c, rfl, h2, h3, h4, h6⟩
      · omega
      · omega
      · omega
      · omega
      · omega
      · obtain ⟨f0, f1, f2, f3⟩ := v
        obtain rfl : f0 = 5 := h5
        have hs' : (f1 == 0 && nt f2) = true := hs
        simp only [Bool.and_eq_true, beq_iff_eq] at hs'
        obtain ⟨rfl, q2⟩ := hs'
        obtain rfl := nt_eq q2
        exact val5 _ f3 g c w hf.1.1 h4 h6 (fun x hx a w q => ih x (hall x hx) (hf.2 x hx) a w q)
    · exact leaf (n + 1) v a w (mayN_sh hm) hf.here.2.2 h5 han
end Go.Proofs.Ytcilojakgnjjmaa.MeV
/- Panics by the way: no list; no such element. -/
set_option linter.unusedSimpArgs false
set_option linter.unusedVariables false
namespace Go.Proofs.Ytcilojakgnjjmaa.MeX
open Go Go.RowKit Go.Proofs.YtcilojakgnjjmaaW.PrintWords Go.Proofs.YtcilojakgnjjmaaW.PrintLast Go.Proofs.YtcilojakgnjjmaaW.PrintMore Mem PAll MeP MeM MeN MeA MeT MeS
theorem ta_die (d : TypeId) (hd : d ≠ 59) (v : Value) (W : World) : ∃ (u : TypeId) (pv : Value) (W' : World), (Instr.typeAssert (.iface d v) 20 59 false).run Try.prog W = .halt (.panic (.iface u pv)) W' ∧ Below W.heap.size W W' := by
  have hu := Try.underlying59
  have he : ∀ W, (elemOf 15).run Try.prog W = .ok 90 W := fun _ => by kernel_rfl
  simp [Instr.typeAssert, run_underlying hu, hd, runtimePanic, go_sem, he, Result.andThen]
  exact ⟨_, _, _, ⟨⟨rfl, rfl⟩, rfl⟩, below_alloc (Below.refl _ _) _⟩
theorem ta_die_nil (W : World) : ∃ (u : TypeId) (pv : Value) (W' : World), (Instr.typeAssert .nilIface 20 59 false).run Try.prog W = .halt (.panic (.iface u pv)) W' ∧ Below W.heap.size W W' := by
  have hu := Try.underlying59
  have he : ∀ W, (elemOf 15).run Try.prog W = .ok 90 W := fun _ => by kernel_rfl
  simp [Instr.typeAssert, run_underlying hu, runtimePanic, go_sem, he, Result.andThen]
  exact ⟨_, _, _, ⟨⟨rfl, rfl⟩, rfl⟩, below_alloc (Below.refl _ _) _⟩
theorem ta_yes (v : Value) (W : World) : (Instr.typeAssert (.iface 59 v) 20 59 false).run Try.prog W = .ok v W := by kernel_rfl
theorem ix_die (ad : Addr) (n c : Nat) (i : Int) (h : ¬ (0 ≤ i ∧ i < n)) (W : World) : ∃ (u : TypeId) (pv : Value) (W' : World), (Instr.indexAt 59 (.slice (some ad) n c) (.int .i64 i)).run Try.prog W = .halt (.panic (.iface u pv)) W' ∧ Below W.heap.size W W' := by
  have hu := Try.underlying59
  by_cases h2 : 0 ≤ i ∧ i ≤ 31
  · have hn : ¬ (i < (n : Int)) := fun h3 => h ⟨h2.1, h3⟩
    simp [Instr.indexAt, run_underlying hu, runtimePanic, boundsPanic, go_sem, hn, h2]
    exact ⟨_, _, _, ⟨⟨rfl, rfl⟩, rfl⟩, below_drew (Below.refl _ _)⟩
  · simp [Instr.indexAt, run_underlying hu, runtimePanic, boundsPanic, go_sem, h, h2]
    exact ⟨_, _, _, ⟨⟨rfl, rfl⟩, rfl⟩, Below.refl _ _⟩
/-- Where a path leads. -/
def walkP : V → List Int → Option V
  | v, [] => some v
  | v, i :: p => if v.f0 = 5 ∧ 0 ≤ i ∧ i < v.f3.length then (v.f3[i.toNat]?).bind (fun x => walkP x p) else none
theorem walkP_cons (v : V) (i : Int) (p : List Int) : walkP v (i :: p) = if v.f0 = 5 ∧ 0 ≤ i ∧ i < v.f3.length then (v.f3[i.toNat]?).bind (fun x => walkP x p) else none := rfl
theorem An.die {n : Nat} {w : World} {ok : Nat → Prop} {x : V} {a : Value} (h : An n w ok x a) (h5 : x.f0 ≠ 5) (W : World) : ∃ (u : TypeId) (pv : Value) (W' : World), (Instr.typeAssert a 20 59 false).run Try.prog W = .halt (.panic (.iface u pv)) W' ∧ Below W.heap.size W W' := by
  unfold An at h
  rcases h with ⟨_, rfl⟩ | ⟨_, rfl⟩ | ⟨_, rfl⟩ | ⟨_, rfl⟩ | ⟨_, _, _, rfl, _⟩ | ⟨h, _⟩
  · exact ta_die_nil W
  · exact ta_die _ (by decide) _ W
  · exact ta_die _ (by decide) _ W
  · exact ta_die _ (by decide) _ W
  · exact ta_die _ (by decide) _ W
  · exact absurd h h5
abbrev IK : Kd Int := Kd.int .i64
theorem at_I {w : World} {A : Option Addr} {n : Nat} {xs : List Int} (h : IK.C w A n xs) (i : Nat) (h1 : i < n) : ∃ ad x, xs[i]? = some x ∧ A = some ad ∧ w.cell? (ad.add i) = some (.int .i64 x) := by
  have hr : ReadsOf (Value.int .i64) (0 : Int) w A n xs := Kd.reads_of_C h
  obtain ⟨ad, e, hcell⟩ := hr.2.2 (by omega)
  have hl : i < xs.length := by have := hr.1; omega
  have := hcell i h1
  rw [List.getD_eq_getElem?_getD, List.getElem?_eq_getElem hl] at this
  exact ⟨ad, _, List.getElem?_eq_getElem hl, e, this⟩
/-- How walk ends: at a value's tree, or by a panic. -/
def Walked (ok : Nat → Prop) (o : Option V) (w w' : World) (e : Ending) : Prop := Below w.heap.size w w' ∧ ((∃ (x : V) (m : Nat) (a : Value), o = some x ∧ e = .returned a ∧ An m w' ok x a ∧ ∃ d, mayN m x = true ∧ Fit m x ∧ d = m) ∨ (o = none ∧ ∃ (u : TypeId) (pv : Value), e = .panicked [{ v := .iface u pv, recovered := false }]))
set_option maxHeartbeats 4000000 in
theorem walk_calls (n : Nat) (ok : Nat → Prop) (v : V) (hm : mayN n v = true) (hf : Fit n v) (a : Value) (A : Option Addr) (c : Nat) (p : List Int) (w : World) (ha : An n w ok v a) (hp : IK.C w A p.length p) :
    Calls Try.prog 34 #[a, .slice A p.length c] w fun e w' => Walked ok (walkP v p) w w' e := by
  have HP := Lib.hid hp
  have HA := Lib.hid ha
  have HM := Lib.hid hm
  have HF := Lib.hid hf
  have hpl : p.length ≤ 9223372036854775807 := hp.2.1
  clear ha hp hm hf
  go_enter Try.func34, Try.ntmps34
  go_wp2_with fail
  go_loopw [0, 9] (fun t' i' wr => ∃ (i : Nat) (x : V) (m : Nat) (b : Value), b = t' ∧ i' = .int .i64 i ∧ Hid (i ≤ p.length) ∧ Hid (walkP v p = walkP x (p.drop i)) ∧ Hid (An m wr ok x b) ∧ Hid (mayN m x = true ∧ Fit m x) ∧ Hid (Below w.heap.size w wr)) (fun _ i' _ => (p.length - intOf i').toNat)
  case atStart => exact ⟨0, v, n, a, rfl, rfl, Lib.hid (Nat.zero_le _), Lib.hid (by rw [List.drop_zero]), HA, Lib.hid ⟨HM.out, HF.out⟩, Lib.hid (Below.refl _ _)⟩
  case round =>
    obtain ⟨i, x, m, b, rfl, rfl, HI, HW, HAN, HMF, HB⟩ := hrel
    by_cases h : i < p.length
    · have hlt : decide (i < p.length) = true := decide_eq_true h
      have hlt2 : decide ((i : Int) < (p.length : Int)) = true := decide_eq_true (by omega)
      have i0 : (0 : Int) ≤ i := by omega
      have i1 : (i : Int) < p.length := by omega
      obtain ⟨ad, q, hq, hA, c0⟩ := at_I (Kd.C_below HP.out HB.out) i h
      subst hA
      have HLT := Lib.hid h
      have HQ : Hid (p.drop i = q :: p.drop (i + 1)) := Lib.hid (by
        rw [List.drop_eq_getElem_cons h]
        have := List.getElem?_eq_getElem h
        rw [this] at hq
        rw [Option.some.inj hq])
      clear h hq
      by_cases h5 : x.f0 = 5
      · have han := HAN.out
        unfold An at han
        rcases han with ⟨h0, _⟩ | ⟨h0, _⟩ | ⟨h0, _⟩ | ⟨h0, _⟩ | ⟨h0, _⟩ | ⟨h0, g, c', rfl, h2, h3, h4, h6⟩
        · omega
        · omega
        · omega
        · omega
        · omega
        · have hy := fun W => ta_yes (.slice (some ⟨g, 0, none⟩) x.f3.length c') W
          by_cases hr : 0 ≤ q ∧ q < (x.f3.length : Int)
          · have q0 : (0 : Int) ≤ q := hr.1
            have q1 : q < (x.f3.length : Int) := hr.2
            obtain ⟨k, hk⟩ := Int.eq_ofNat_of_zero_le hr.1
            subst hk
            have hkl : k < x.f3.length := by omega
            obtain ⟨k2, m', rfl⟩ : ∃ k2 m', m = m' + 1 := by
              cases m with
              | zero => exact h6.elim
              | succ m' => exact ⟨0, m', rfl⟩
            obtain ⟨a', hc, han⟩ := h6 k x.f3[k] (List.getElem?_eq_getElem hkl)
            have HA2 := Lib.hid han
            obtain ⟨m2, hm2, hall⟩ := mayN_list h5 HMF.out.1
            obtain rfl : m2 = m' := by omega
            have HM2 : Hid (mayN m2 x.f3[k] = true ∧ Fit m2 x.f3[k]) := Lib.hid ⟨hall _ (List.getElem_mem hkl), HMF.out.2.2 _ (List.getElem_mem hkl)⟩
            have HW2 : Hid (walkP v p = walkP x.f3[k] (p.drop (i + 1))) := Lib.hid (by
              rw [HW.out, HQ.out]
              rw [walkP_cons]
              rw [if_pos ⟨h5, hr.1, hr.2⟩, Int.toNat_natCast, List.getElem?_eq_getElem hkl]
              rfl)
            clear h0 h2 h3 h4 h6 hr han hm2 hall h5
            go_wp2_with fail
            go_roundw
            case rel => exact ⟨i + 1, x.f3[k], _, a', rfl, by go_num, Lib.hid (by have := HLT.out; omega), HW2, HA2, HM2, HB⟩
            case measure => have := HLT.out; simp only [intOf]; omega
          · obtain ⟨u, pv, W', hd, hbd⟩ := ix_die ⟨g, 0, none⟩ x.f3.length c' q hr wr
            have HNO : Hid (walkP v p = none) := Lib.hid (by
              rw [HW.out, HQ.out]
              rw [walkP_cons]
              rw [if_neg (fun h => hr h.2)])
            have HBD := Lib.hid hbd
            clear h0 h2 h3 h4 h6 h5 hbd
            go_wp2_with fail
            exact (show _ ∧ Walked ok (walkP v p) w W' (.panicked [{ v := .iface u pv, recovered := false }]) from ⟨rfl, below_then HB.out HB.out.size HBD.out, .inr ⟨HNO.out, u, pv, rfl⟩⟩)
      · obtain ⟨u, pv, W', hd, hbd⟩ := An.die HAN.out h5 wr
        have HNO : Hid (walkP v p = none) := Lib.hid (by
          rw [HW.out, HQ.out]
          rw [walkP_cons]
          rw [if_neg (fun h => h5 h.1)])
        have HBD := Lib.hid hbd
        clear h5 hbd
        go_wp2_with fail
        exact (show _ ∧ Walked ok (walkP v p) w W' (.panicked [{ v := .iface u pv, recovered := false }]) from ⟨rfl, below_then HB.out HB.out.size HBD.out, .inr ⟨HNO.out, u, pv, rfl⟩⟩)
    · obtain rfl : i = p.length := by have := HI.out; omega
      have hlt : decide (p.length < p.length) = false := decide_eq_false (Nat.lt_irrefl _)
      have hlt2 : decide ((p.length : Int) < (p.length : Int)) = false := decide_eq_false (by omega)
      clear h
      go_wp2_with fail
      go_ret
      exact ⟨HB.out, .inl ⟨x, m, b, by rw [HW.out, List.drop_length]; rfl, rfl, HAN.out, m, HMF.out.1, HMF.out.2, rfl⟩⟩
end Go.Proofs.Ytcilojakgnjjmaa.MeX
/- caught: where a path leads, or nowhere. -/
set_option linter.unusedSimpArgs false
set_option linter.unusedVariables false
namespace Go.Proofs.Ytcilojakgnjjmaa.MeC
open Go Go.RowKit Go.Proofs.YtcilojakgnjjmaaW.PrintWords Go.Proofs.YtcilojakgnjjmaaW.PrintLast Go.Proofs.YtcilojakgnjjmaaW.PrintMore Mem PAll MeP MeM MeN MeA MeT MeS MeX
theorem catch_panicking (p q : Addr) (x y : Value) (u : TypeId) (pv : Value) (older : List PanicEntry) (w : World) (hc : w.cell? p = some x) (hz : w.frozen? p = false) (hc2 : (w.setCell p .nilIface).cell? q = some y) (hz2 : (w.setCell p .nilIface).frozen? q = false) :
    CallsD Try.prog 33 #[.pointer (some p), .pointer (some q)] (.panicking ({ v := .iface u pv, recovered := false } :: older)) w fun e u' w' =>
      e = .returned (.tuple #[]) ∧ u' = .panicking ({ v := .iface u pv, recovered := true } :: older) ∧ w' = (w.setCell p .nilIface).setCell q (.bool false) := by
  refine callsD_of_wpS Try.func33 rfl fun c₀ cs hu => ?_
  apply wpS_seq
  apply wpS_region
  simp [wpOpsS, go_sem, recoverD, hu, Try.ntmps33, Exit.thenS]
  refine wpS_cond (t := true) (by simp [Act.eval, Array.replicate]) ?_
  simp only [if_true]
  apply wpS_region
  simp [wpOpsS, go_sem, hc, hz, hc2, hz2, bodyPostS, results, Try.results33]
theorem catch_idle (p q : Addr) (w : World) :
    CallsD Try.prog 33 #[.pointer (some p), .pointer (some q)] .returning w fun e u' w' => e = .returned (.tuple #[]) ∧ u' = .returning ∧ w' = w := by
  refine callsD_of_wpS Try.func33 rfl fun c₀ cs hu => ?_
  apply wpS_seq
  apply wpS_region
  simp [wpOpsS, go_sem, recoverD, hu, Try.ntmps33, Exit.thenS]
  refine wpS_cond (t := false) (by simp [Act.eval, Array.replicate]) ?_
  simp only [Bool.false_eq_true, if_false]
  refine wpS_of_wp (wp_skip ?_)
  cases c₀
  simp_all [bodyPostS, results, Try.results33]
/-- How caught ends. -/
def Caught (o : Option V) (w w' : World) (e : Ending) : Prop := Below w.heap.size w w' ∧ ((∃ (x : V) (m : Nat) (a : Value), o = some x ∧ e = .returned (.tuple #[a, .bool true]) ∧ An m w' (fun _ => True) x a ∧ mayN m x = true ∧ Fit m x) ∨ (o = none ∧ e = .returned (.tuple #[.nilIface, .bool false])))
set_option maxHeartbeats 4000000 in
theorem caught_calls (n : Nat) (v : V) (hm : mayN n v = true) (hf : Fit n v) (a : Value) (A : Option Addr) (c : Nat) (p : List Int) (w : World) (ha : An n w (fun _ => True) v a) (hp : IK.C w A p.length p) :
    Calls Try.prog 22 #[a, .slice A p.length c] w fun e w' => Caught (walkP v p) w w' e := by
  have hmf : ∀ (fn : Fn) (first cap : Array Value) (w : World), (Instr.makeFunc fn first cap).run Try.prog w = .ok (.func fn first cap) w := fun _ _ _ _ => rfl
  have HB0 : Hid (Below w.heap.size w ((w.alloc (.cells #[.nilIface] 20)).alloc (.cells #[.bool false] 4))) := Lib.hid (below_alloc (below_alloc (Below.refl _ _) _) _)
  have HA : Hid (An n ((w.alloc (.cells #[.nilIface] 20)).alloc (.cells #[.bool false] 4)) (fun k => k < w.heap.size) v a) := Lib.hid (An.move (fun k _ hl => ⟨HB0.out.block k hl, hl⟩) n v a ha)
  have hT := walk_calls n (fun k => k < w.heap.size) v hm hf a A c p _ HA.out (Kd.C_below hp HB0.out)
  obtain ⟨T⟩ : Nonempty (Hid _) := ⟨Lib.hid hT⟩
  clear hT ha hp
  have HP0 := Lib.hid (blk_alloc (blk_new w (.cells #[.nilIface] 20)) (.cells #[.bool false] 4))
  have HQ0 : Hid (((w.alloc (.cells #[.nilIface] 20)).alloc (.cells #[.bool false] 4)).heap[w.heap.size + 1]? = some (.cells #[.bool false] 4 (0, 0))) := Lib.hid (by have := blk_new (w.alloc (.cells #[.nilIface] 20)) (.cells #[.bool false] 4); rwa [show (w.alloc (.cells #[.nilIface] 20)).heap.size = w.heap.size + 1 by simp only [World.alloc, Array.size_push]] at this)
  go_enter_defers Try.func22, Try.ntmps22
  go_wp2_with fail
  refine T.out.mono ?_
  rintro e w2 ⟨hb, hr⟩
  have HP := Lib.hid (blk_below HP0.out hb)
  have HQ := Lib.hid (blk_below HQ0.out hb)
  have HB2 := Lib.hid (below_then HB0.out HB0.out.size hb)
  clear hb T HP0 HQ0 HA
  rcases hr with ⟨x, m, b, hx, rfl, han, d, hm2, hf2, rfl⟩ | ⟨hx, u, pv, rfl⟩
  · have HX := Lib.hid hx
    have HAN := Lib.hid han
    have HM2 := Lib.hid (And.intro hm2 hf2)
    have hsh := An.shape han
    clear hx han hm2 hf2
    rcases hsh with rfl | ⟨t9, u9, rfl⟩
    · go_wp2_with (first | (refine gate_ (.store 20 (.tmp 4) (.tmp 9)) rfl ?_; go_must (refine Stb.store_list rfl rfl 20 (.tmp 4) (.tmp 9) rfl (g := w.heap.size) (j := 0) (cur' := #[.nilIface]) [.nilIface] (by exact HP.out) (by rfl) (by rfl) (by rfl) (by kernel_rfl) (Nat.le_of_ble_eq_true rfl) (by rfl) (by rfl) ?_; intro wf1 hz_ hg_ hs_; have HF1 := Lib.hid hz_; have HG1 := Lib.hid hg_; have HS1 := Lib.hid hs_; clear hz_ hg_ hs_)) | (have HQ1 := Lib.hid (blk_grown HQ.out HG1.out (by simp)); refine gate_ (.store 4 (.tmp 5) (.const (.bool true))) rfl ?_; go_must (refine Stb.store_list rfl rfl 4 (.tmp 5) (.const (.bool true)) rfl (g := (w.heap.size + 1)) (j := 0) (cur' := #[.bool true]) [.bool true] (by exact HQ1.out) (by rfl) (by rfl) (by rfl) (by kernel_rfl) (Nat.le_of_ble_eq_true rfl) (by rfl) (by rfl) ?_; intro wf2 hz_ hg_ hs_; have HF2 := Lib.hid hz_; have HG2 := Lib.hid hg_; have HS2 := Lib.hid hs_; clear hz_ hg_ hs_)))
      have HP2 := Lib.hid (blk_grown HF1.out HG2.out (by simp))
      have HB1 := Lib.hid (Stb.below_grown1 HB2.out HG1.out (Nat.le_refl _) HB2.out.size)
      have HB3 := Lib.hid (Stb.below_grown1 HB1.out HG2.out (Nat.le_add_right _ 1) HB1.out.size)
      have c0 : wf2.cell? ⟨w.heap.size, 0, none⟩ = some .nilIface := blk_cell HP2.out 0
      have c1 : wf2.cell? ⟨w.heap.size + 1, 0, none⟩ = some (.bool true) := blk_cell HF2.out 0
      have HW : Hid (An d wf2 (fun _ => True) x .nilIface) := Lib.hid (An.move (fun k hk hl => ⟨(HG2.out.block k (by rw [HS1.out]; exact hl) (by intro e; have := Option.some.inj e; omega)).trans (HG1.out.block k hl (by intro e; have := Option.some.inj e; omega)), trivial⟩) d x _ HAN.out)
      refine leaves_cons (f := 33) (args := #[.pointer (some ⟨w.heap.size, 0, none⟩), .pointer (some ⟨w.heap.size + 1, 0, none⟩)]) (by simp) (by simp [go_sem]) ?_
      refine (catch_idle _ _ _).mono ?_
      rintro e u' w'' ⟨rfl, rfl, rfl⟩
      simp [Leaves, settle, results, Try.results22, go_sem, c0, c1]
      exact ⟨HB3.out, .inl ⟨x, d, _, HX.out, rfl, HW.out, HM2.out.1, HM2.out.2⟩⟩
    · go_wp2_with (first | (refine gate_ (.store 20 (.tmp 4) (.tmp 9)) rfl ?_; go_must (refine Stb.store_list rfl rfl 20 (.tmp 4) (.tmp 9) rfl (g := w.heap.size) (j := 0) (cur' := #[(.iface t9 u9)]) [(.iface t9 u9)] (by exact HP.out) (by rfl) (by rfl) (by rfl) (by kernel_rfl) (Nat.le_of_ble_eq_true rfl) (by rfl) (by rfl) ?_; intro wf1 hz_ hg_ hs_; have HF1 := Lib.hid hz_; have HG1 := Lib.hid hg_; have HS1 := Lib.hid hs_; clear hz_ hg_ hs_)) | (have HQ1 := Lib.hid (blk_grown HQ.out HG1.out (by simp)); refine gate_ (.store 4 (.tmp 5) (.const (.bool true))) rfl ?_; go_must (refine Stb.store_list rfl rfl 4 (.tmp 5) (.const (.bool true)) rfl (g := (w.heap.size + 1)) (j := 0) (cur' := #[.bool true]) [.bool true] (by exact HQ1.out) (by rfl) (by rfl) (by rfl) (by kernel_rfl) (Nat.le_of_ble_eq_true rfl) (by rfl) (by rfl) ?_; intro wf2 hz_ hg_ hs_; have HF2 := Lib.hid hz_; have HG2 := Lib.hid hg_; have HS2 := Lib.hid hs_; clear hz_ hg_ hs_)))
      have HP2 := Lib.hid (blk_grown HF1.out HG2.out (by simp))
      have HB1 := Lib.hid (Stb.below_grown1 HB2.out HG1.out (Nat.le_refl _) HB2.out.size)
      have HB3 := Lib.hid (Stb.below_grown1 HB1.out HG2.out (Nat.le_add_right _ 1) HB1.out.size)
      have c0 : wf2.cell? ⟨w.heap.size, 0, none⟩ = some (.iface t9 u9) := blk_cell HP2.out 0
      have c1 : wf2.cell? ⟨w.heap.size + 1, 0, none⟩ = some (.bool true) := blk_cell HF2.out 0
      have HW : Hid (An d wf2 (fun _ => True) x (.iface t9 u9)) := Lib.hid (An.move (fun k hk hl => ⟨(HG2.out.block k (by rw [HS1.out]; exact hl) (by intro e; have := Option.some.inj e; omega)).trans (HG1.out.block k hl (by intro e; have := Option.some.inj e; omega)), trivial⟩) d x _ HAN.out)
      refine leaves_cons (f := 33) (args := #[.pointer (some ⟨w.heap.size, 0, none⟩), .pointer (some ⟨w.heap.size + 1, 0, none⟩)]) (by simp) (by simp [go_sem]) ?_
      refine (catch_idle _ _ _).mono ?_
      rintro e u' w'' ⟨rfl, rfl, rfl⟩
      simp [Leaves, settle, results, Try.results22, go_sem, c0, c1]
      exact ⟨HB3.out, .inl ⟨x, d, _, HX.out, rfl, HW.out, HM2.out.1, HM2.out.2⟩⟩
  · have HX := Lib.hid hx
    clear hx
    have c0 : w2.cell? ⟨w.heap.size, 0, none⟩ = some .nilIface := blk_cell HP.out 0
    have c1 : w2.cell? ⟨w.heap.size + 1, 0, none⟩ = some (.bool false) := blk_cell HQ.out 0
    have z0 : w2.frozen? ⟨w.heap.size, 0, none⟩ = false := blk_frozen HP.out 0
    have z1 : w2.frozen? ⟨w.heap.size + 1, 0, none⟩ = false := blk_frozen HQ.out 0
    refine leaves_cons (f := 33) (args := #[.pointer (some ⟨w.heap.size, 0, none⟩), .pointer (some ⟨w.heap.size + 1, 0, none⟩)]) (by simp) (by simp [go_sem]) ?_
    refine (catch_panicking ⟨w.heap.size, 0, none⟩ ⟨w.heap.size + 1, 0, none⟩ .nilIface (.bool false) u pv [] w2 c0 z0 ?_ ?_).mono ?_
    · rw [World.cell?_setCell_far _ _ _ _ (by simp)]; exact c1
    · simp [go_sem, z1]
    rintro e u' w'' ⟨rfl, rfl, rfl⟩
    simp [Leaves, settle, results, Try.results22, go_sem, c0, c1]
    exact ⟨Below.setCell (Below.setCell HB2.out (Nat.le_refl _) _) (Nat.le_add_right _ 1) _, .inr ⟨HX.out, rfl⟩⟩
end Go.Proofs.Ytcilojakgnjjmaa.MeC
/- message.Take. -/
set_option linter.unusedSimpArgs false
set_option linter.unusedVariables false
namespace Go.Proofs.Ytcilojakgnjjmaa.MeK
open Go Go.RowKit Go.Proofs.YtcilojakgnjjmaaW.PrintWords Go.Proofs.YtcilojakgnjjmaaW.PrintLast Go.Proofs.YtcilojakgnjjmaaW.PrintMore Mem PAll MeP MeM MeN MeA MeT MeS MeX MeC MeV
/-- The value at a path, if it is of a kind, and the error. -/
def takeO (x : V) (p : List Int) (k : Int) : V × Int :=
  if mayN 16 x = true ∧ 0 ≤ k ∧ k < 6 then (match walkP x p with | none => (z24, 4) | some y => if y.f0 = k then (y, 0) else (z24, 5)) else (z24, 1)
/-- A value and an error, returned: what the value reads as. -/
def Gives (y : V × Int) (w w' : World) (e : Ending) : Prop := Below w.heap.size w w' ∧ ∃ A c, e = .returned (.tuple #[.agg (aggV y.1 A c), .int .i64 y.2]) ∧ y.1.f3.length ≤ c ∧ kV.C w' A y.1.f3.length y.1.f3
/-- The same; its list is a row of the call's own. -/
def GivesR (y : V × Int) (w w' : World) (e : Ending) : Prop := Below w.heap.size w w' ∧ ∃ v3, e = .returned (.tuple #[.agg #[.int .i64 y.1.f0, .int .i64 y.1.f1, .string y.1.f2, v3], .int .i64 y.2]) ∧ kV.R 24 w' w.heap.size (fun _ => True) v3 y.1.f3
theorem GivesR.gives {y : V × Int} {w w' : World} {e : Ending} (h : GivesR y w w' e) : Gives y w w' e := by
  obtain ⟨hb, v3, he, hr⟩ := h
  obtain ⟨A, c, rfl, hl, hc⟩ := Kd.R_reads hr
  exact ⟨hb, A, c, he, hl, hc⟩
theorem givesR_zero {w w' : World} {e : Ending} {k : Int} {y : V × Int} (hy : y = (z24, k)) (he : e = .returned (.tuple #[.agg #[.int .i64 0, .int .i64 0, .string ⟨#[]⟩, .slice none 0 0], .int .i64 k])) (hb : Below w.heap.size w w') : GivesR y w w' e := by
  subst hy
  exact ⟨hb, _, he, Kd.R_nil _ _ _ _ _⟩
theorem C_zero (w : World) : kV.C w none 0 [] := ⟨rfl, by decide, fun h => absurd h (by decide)⟩
theorem gives_zero {w w' : World} {e : Ending} {k : Int} {y : V × Int} (hy : y = (z24, k)) (he : e = .returned (.tuple #[.agg #[.int .i64 0, .int .i64 0, .string ⟨#[]⟩, .slice none 0 0], .int .i64 k])) (hb : Below w.heap.size w w') : Gives y w w' e := by
  subst hy
  exact ⟨hb, none, 0, he, Nat.le_refl _, C_zero _⟩
set_option maxHeartbeats 4000000 in
theorem take_bad (x : V) (A : Option Addr) (c : Nat) (PA : Option Addr) (pc : Nat) (p : List Int) (k : Int) (w : World) (hl : x.f3.length ≤ c) (hc : kV.C w A x.f3.length x.f3) (hb : ¬ (mayN 16 x = true ∧ 0 ≤ k ∧ k < 6)) :
    Calls Try.prog 10 #[.agg (aggV x A c), .slice PA p.length pc, .int .i64 k] w fun e w' => GivesR (takeO x p k) w w' e := by
  have HT : Hid (takeO x p k = (z24, 1)) := Lib.hid (if_neg hb)
  have HB0 : Hid (Below w.heap.size w ((w.alloc (.cells (aggV x A c) 24)).alloc (.cells VZ 24))) := Lib.hid (below_alloc (below_alloc (Below.refl _ _) _) _)
  have HV0 := Lib.hid (blk_alloc (blk_new w (.cells (aggV x A c) 24)) (.cells VZ 24))
  have HZ0 : Hid (((w.alloc (.cells (aggV x A c) 24)).alloc (.cells VZ 24)).heap[w.heap.size + 1]? = some (.cells VZ 24 (0, 0))) := Lib.hid (by have := blk_new (w.alloc (.cells (aggV x A c) 24)) (.cells VZ 24); rwa [show (w.alloc (.cells (aggV x A c) 24)).heap.size = w.heap.size + 1 by simp only [World.alloc, Array.size_push]] at this)
  have c0 := blk_cell HV0.out 0
  have c1 := blk_cell HV0.out 1
  have c2 := blk_cell HV0.out 2
  have c3 := blk_cell HV0.out 3
  have T := Lib.hid (check_calls x A c _ hl (Kd.C_below hc HB0.out))
  have hcs : mayN 16 x = false ∨ (mayN 16 x = true ∧ k < 0) ∨ (mayN 16 x = true ∧ ¬ k < 0 ∧ 6 ≤ k) := by
    cases h : mayN 16 x
    · exact .inl rfl
    · by_cases h1 : k < 0
      · exact .inr (.inl ⟨rfl, h1⟩)
      · by_cases h2 : k < 6
        · exact absurd ⟨h, by omega, h2⟩ hb
        · exact .inr (.inr ⟨rfl, h1, by omega⟩)
  clear hc hl hb
  rcases hcs with hm | ⟨hm, h1⟩ | ⟨hm, h1, h2⟩
  · rw [hm, if_neg (by decide)] at T
    clear hm
    go_enter Try.func10, Try.ntmps10
    go_wp2_with fail
    refine T.out.mono ?_
    rintro e w2 ⟨rfl, hb⟩
    have HZ := Lib.hid (blk_below HZ0.out hb)
    have HB2 := Lib.hid (below_then HB0.out HB0.out.size hb)
    clear hb T c0 c1 c2 c3 HV0 HZ0 HB0
    go_wp2_with ((refine gate_ (.store 24 (.tmp 6) (.tmp 22)) rfl ?_; go_must (refine Stb.store_list rfl rfl 24 (.tmp 6) (.tmp 22) rfl (cur' := #[.int .i64 0, .int .i64 0, .string ⟨#[]⟩, .slice none 0 0]) [.int .i64 0, .int .i64 0, .string ⟨#[]⟩, .slice none 0 0] (by exact HZ.out) (by rfl) (by rfl) (by rfl) (by kernel_rfl) (Nat.le_of_ble_eq_true rfl) (by rfl) (by rfl) ?_; intro wf hz_ hg_ hs_; have HF := Lib.hid hz_; have HG := Lib.hid hg_; have HS := Lib.hid hs_; have HBF := Lib.hid (Stb.below_grown1 HB2.out hg_ (Nat.le_add_right _ 1) HB2.out.size); clear hz_ hg_ hs_)))
    refine bodyPost_ret (results_ct rfl _ _ (w.heap.size + 1) 24 #[.int .i64 0, .int .i64 0, .string ⟨#[]⟩, .slice none 0 0] (0, 0) _ rfl HF.out Try.underlying24 rfl (by kernel_rfl)) rfl ?_
    exact givesR_zero HT.out rfl HBF.out
  · rw [hm, if_pos rfl] at T
    have d1 : decide (k < 0) = true := decide_eq_true h1
    have n1 : Hid (k < 0) := Lib.hid h1
    clear h1
    clear hm
    go_enter Try.func10, Try.ntmps10
    go_wp2_with fail
    refine T.out.mono ?_
    rintro e w2 ⟨rfl, hb⟩
    have HZ := Lib.hid (blk_below HZ0.out hb)
    have HB2 := Lib.hid (below_then HB0.out HB0.out.size hb)
    clear hb T c0 c1 c2 c3 HV0 HZ0 HB0
    go_wp2_with ((refine gate_ (.store 24 (.tmp 6) (.tmp 22)) rfl ?_; go_must (refine Stb.store_list rfl rfl 24 (.tmp 6) (.tmp 22) rfl (cur' := #[.int .i64 0, .int .i64 0, .string ⟨#[]⟩, .slice none 0 0]) [.int .i64 0, .int .i64 0, .string ⟨#[]⟩, .slice none 0 0] (by exact HZ.out) (by rfl) (by rfl) (by rfl) (by kernel_rfl) (Nat.le_of_ble_eq_true rfl) (by rfl) (by rfl) ?_; intro wf hz_ hg_ hs_; have HF := Lib.hid hz_; have HG := Lib.hid hg_; have HS := Lib.hid hs_; have HBF := Lib.hid (Stb.below_grown1 HB2.out hg_ (Nat.le_add_right _ 1) HB2.out.size); clear hz_ hg_ hs_)))
    refine bodyPost_ret (results_ct rfl _ _ (w.heap.size + 1) 24 #[.int .i64 0, .int .i64 0, .string ⟨#[]⟩, .slice none 0 0] (0, 0) _ rfl HF.out Try.underlying24 rfl (by kernel_rfl)) rfl ?_
    exact givesR_zero HT.out rfl HBF.out
  · rw [hm, if_pos rfl] at T
    have d1 : decide (k < 0) = false := decide_eq_false h1
    have d2 : decide (6 ≤ k) = true := decide_eq_true h2
    clear h1 h2
    clear hm
    go_enter Try.func10, Try.ntmps10
    go_wp2_with fail
    refine T.out.mono ?_
    rintro e w2 ⟨rfl, hb⟩
    have HZ := Lib.hid (blk_below HZ0.out hb)
    have HB2 := Lib.hid (below_then HB0.out HB0.out.size hb)
    clear hb T c0 c1 c2 c3 HV0 HZ0 HB0
    go_wp2_with ((refine gate_ (.store 24 (.tmp 6) (.tmp 22)) rfl ?_; go_must (refine Stb.store_list rfl rfl 24 (.tmp 6) (.tmp 22) rfl (cur' := #[.int .i64 0, .int .i64 0, .string ⟨#[]⟩, .slice none 0 0]) [.int .i64 0, .int .i64 0, .string ⟨#[]⟩, .slice none 0 0] (by exact HZ.out) (by rfl) (by rfl) (by rfl) (by kernel_rfl) (Nat.le_of_ble_eq_true rfl) (by rfl) (by rfl) ?_; intro wf hz_ hg_ hs_; have HF := Lib.hid hz_; have HG := Lib.hid hg_; have HS := Lib.hid hs_; have HBF := Lib.hid (Stb.below_grown1 HB2.out hg_ (Nat.le_add_right _ 1) HB2.out.size); clear hz_ hg_ hs_)))
    refine bodyPost_ret (results_ct rfl _ _ (w.heap.size + 1) 24 #[.int .i64 0, .int .i64 0, .string ⟨#[]⟩, .slice none 0 0] (0, 0) _ rfl HF.out Try.underlying24 rfl (by kernel_rfl)) rfl ?_
    exact givesR_zero HT.out rfl HBF.out
set_option maxHeartbeats 8000000 in
theorem take_ok (x : V) (A : Option Addr) (c : Nat) (PA : Option Addr) (pc : Nat) (p : List Int) (k : Int) (w : World) (hl : x.f3.length ≤ c) (hc : kV.C w A x.f3.length x.f3) (hf : Fit 16 x) (hp : IK.C w PA p.length p) (hb : mayN 16 x = true ∧ 0 ≤ k ∧ k < 6) :
    Calls Try.prog 10 #[.agg (aggV x A c), .slice PA p.length pc, .int .i64 k] w fun e w' => GivesR (takeO x p k) w w' e := by
  have HT : Hid (takeO x p k = (match walkP x p with | none => (z24, 4) | some y => if y.f0 = k then (y, 0) else (z24, 5))) := Lib.hid (if_pos hb)
  have HB0 : Hid (Below w.heap.size w ((w.alloc (.cells (aggV x A c) 24)).alloc (.cells VZ 24))) := Lib.hid (below_alloc (below_alloc (Below.refl _ _) _) _)
  have HV0 := Lib.hid (blk_alloc (blk_new w (.cells (aggV x A c) 24)) (.cells VZ 24))
  have HZ0 : Hid (((w.alloc (.cells (aggV x A c) 24)).alloc (.cells VZ 24)).heap[w.heap.size + 1]? = some (.cells VZ 24 (0, 0))) := Lib.hid (by have := blk_new (w.alloc (.cells (aggV x A c) 24)) (.cells VZ 24); rwa [show (w.alloc (.cells (aggV x A c) 24)).heap.size = w.heap.size + 1 by simp only [World.alloc, Array.size_push]] at this)
  have c0 := blk_cell HV0.out 0
  have c1 := blk_cell HV0.out 1
  have c2 := blk_cell HV0.out 2
  have c3 := blk_cell HV0.out 3
  have T := Lib.hid (check_calls x A c _ hl (Kd.C_below hc HB0.out))
  have d1 : decide (k < 0) = false := decide_eq_false (by omega)
  have d2 : decide (6 ≤ k) = false := decide_eq_false (by omega)
  have HC0 := Lib.hid (Kd.C_below hc HB0.out)
  have HP0 := Lib.hid (Kd.C_below hp HB0.out)
  have HM := Lib.hid hb.1
  have HF0 := Lib.hid hf
  have HL := Lib.hid hl
  rw [hb.1, if_pos rfl] at T
  clear hc hl hb hp hf
  go_enter Try.func10, Try.ntmps10
  go_wp2_with fail
  refine T.out.mono ?_
  rintro e w2 ⟨rfl, hb⟩
  have HV2 := Lib.hid (blk_below HV0.out hb)
  have HZ2 := Lib.hid (blk_below HZ0.out hb)
  have HB2 := Lib.hid (below_then HB0.out HB0.out.size hb)
  have HC2 := Lib.hid (Kd.C_below HC0.out hb)
  have HP2 := Lib.hid (Kd.C_below HP0.out hb)
  clear hb T c0 c1 c2 c3 HV0 HZ0 HB0 HC0 HP0
  have c0 := blk_cell HV2.out 0
  have c1 := blk_cell HV2.out 1
  have c2 := blk_cell HV2.out 2
  have c3 := blk_cell HV2.out 3
  have T := Lib.hid (tree_calls 16 x HM.out HF0.out A c w2 HL.out HC2.out)
  go_wp2_with fail
  refine T.out.mono ?_
  rintro e w3 ⟨a, rfl, han, hb⟩
  have HZ3 := Lib.hid (blk_below HZ2.out hb)
  have HB3 := Lib.hid (below_then HB2.out HB2.out.size hb)
  have HP3 := Lib.hid (Kd.C_below HP2.out hb)
  have T := Lib.hid (caught_calls 16 x HM.out HF0.out a PA pc p w3 (han.mono (fun k h1 h2 => trivial)) HP3.out)
  clear hb han c0 c1 c2 c3 HV2 HZ2 HB2 HC2 HP2
  go_wp2_with fail
  refine T.out.mono ?_
  rintro e w4 ⟨hb, ⟨y, m, b, hy, rfl, han, hm, hf⟩ | ⟨hn, rfl⟩⟩
  · have HZ4 := Lib.hid (blk_below HZ3.out hb)
    have HB4 := Lib.hid (below_then HB3.out HB3.out.size hb)
    have T := Lib.hid (value_calls m y hm hf b w4 han)
    have HY : Hid (takeO x p k = if y.f0 = k then (y, 0) else (z24, 5)) := Lib.hid (by rw [HT.out, hy])
    clear hb han hm hf hy HT HZ3 HB3 HP3
    go_wp2_with fail
    refine T.out.mono ?_
    rintro e w5 ⟨v3, rfl, hr, hb⟩
    have HZ5 := Lib.hid (blk_alloc (blk_below HZ4.out hb) (.cells #[.int .i64 y.f0, .int .i64 y.f1, .string y.f2, v3] 24))
    have HB5 := Lib.hid (below_alloc (below_then HB4.out HB4.out.size hb) (.cells #[.int .i64 y.f0, .int .i64 y.f1, .string y.f2, v3] 24))
    have HN5 := Lib.hid (blk_new w5 (.cells #[.int .i64 y.f0, .int .i64 y.f1, .string y.f2, v3] 24))
    obtain ⟨A5, c5, rfl, hl5, hC5⟩ := Kd.R_reads hr
    have HR5 := Lib.hid (Kd.R_below hr (below_alloc (Below.refl w5.heap.size w5) (.cells #[.int .i64 y.f0, .int .i64 y.f1, .string y.f2, .slice A5 y.f3.length c5] 24)))
    have HSZ : Hid (w.heap.size + 2 ≤ w4.heap.size) := Lib.hid (blk_lt HZ4.out)
    have HL5 := Lib.hid hl5
    clear hb hr hl5 hC5 HZ4 HB4
    have c0 := blk_cell HN5.out 0
    have c1 := blk_cell HN5.out 1
    have c2 := blk_cell HN5.out 2
    have c3 := blk_cell HN5.out 3
    by_cases hk : y.f0 = k
    · have HYK : Hid (takeO x p y.f0 = (y, 0)) := Lib.hid (by rw [← hk] at HY; exact HY.out.trans (if_pos rfl))
      subst hk
      clear HY
      go_wp2_with ((refine gate_ (.store 24 (.tmp 6) (.tmp 40)) rfl ?_; go_must (refine Stb.store_list rfl rfl 24 (.tmp 6) (.tmp 40) rfl (cur' := #[.int .i64 y.f0, .int .i64 y.f1, .string y.f2, .slice A5 y.f3.length c5]) [.int .i64 y.f0, .int .i64 y.f1, .string y.f2, .slice A5 y.f3.length c5] (by exact HZ5.out) (by rfl) (by rfl) (by rfl) (by kernel_rfl) (Nat.le_of_ble_eq_true rfl) (by rfl) (by rfl) ?_; intro wf hz_ hg_ hs_; have HF := Lib.hid hz_; have HG := Lib.hid hg_; have HS := Lib.hid hs_; have HBF := Lib.hid (Stb.below_grown1 HB5.out hg_ (Nat.le_add_right _ 1) HB5.out.size); clear hz_ hg_ hs_)))
      refine bodyPost_ret (results_ct rfl _ _ (w.heap.size + 1) 24 #[.int .i64 y.f0, .int .i64 y.f1, .string y.f2, .slice A5 y.f3.length c5] (0, 0) _ rfl HF.out Try.underlying24 rfl (by kernel_rfl)) rfl ?_
      exact (show GivesR (takeO x p y.f0) w _ _ from by rw [HYK.out]; exact ⟨HBF.out, _, rfl, Kd.R_lower (Kd.R_mono (ok' := fun _ => True) (Kd.R_grown (Kd.R_mono (Kd.R_bound HR5.out) (fun k hk => (hk.2.1 : w4.heap.size ≤ k))) HG.out (fun k hk e => by have := Option.some.inj e; have := HSZ.out; omega)) (fun _ _ => trivial)) (by have := HSZ.out; omega)⟩)
    · have HYK : Hid (takeO x p k = (z24, 5)) := Lib.hid (HY.out.trans (if_neg hk))
      have n1 : decide (y.f0 = k) = false := decide_eq_false hk
      have n2 : (y.f0 == k) = false := beq_false_of_ne hk
      have n3 : (y.f0 != k) = true := by rw [bne, n2]; rfl
      clear HY hk
      go_wp2_with ((refine gate_ (.store 24 (.tmp 6) (.tmp 39)) rfl ?_; go_must (refine Stb.store_list rfl rfl 24 (.tmp 6) (.tmp 39) rfl (cur' := #[.int .i64 0, .int .i64 0, .string ⟨#[]⟩, .slice none 0 0]) [.int .i64 0, .int .i64 0, .string ⟨#[]⟩, .slice none 0 0] (by exact HZ5.out) (by rfl) (by rfl) (by rfl) (by kernel_rfl) (Nat.le_of_ble_eq_true rfl) (by rfl) (by rfl) ?_; intro wf hz_ hg_ hs_; have HF := Lib.hid hz_; have HG := Lib.hid hg_; have HS := Lib.hid hs_; have HBF := Lib.hid (Stb.below_grown1 HB5.out hg_ (Nat.le_add_right _ 1) HB5.out.size); clear hz_ hg_ hs_)))
      refine bodyPost_ret (results_ct rfl _ _ (w.heap.size + 1) 24 #[.int .i64 0, .int .i64 0, .string ⟨#[]⟩, .slice none 0 0] (0, 0) _ rfl HF.out Try.underlying24 rfl (by kernel_rfl)) rfl ?_
      exact givesR_zero HYK.out rfl HBF.out
  · have HZ4 := Lib.hid (blk_below HZ3.out hb)
    have HB4 := Lib.hid (below_then HB3.out HB3.out.size hb)
    have HY : Hid (takeO x p k = (z24, 4)) := Lib.hid (by rw [HT.out, hn])
    clear hb hn HT HZ3 HB3 HP3
    go_wp2_with ((refine gate_ (.store 24 (.tmp 6) (.tmp 32)) rfl ?_; go_must (refine Stb.store_list rfl rfl 24 (.tmp 6) (.tmp 32) rfl (cur' := #[.int .i64 0, .int .i64 0, .string ⟨#[]⟩, .slice none 0 0]) [.int .i64 0, .int .i64 0, .string ⟨#[]⟩, .slice none 0 0] (by exact HZ4.out) (by rfl) (by rfl) (by rfl) (by kernel_rfl) (Nat.le_of_ble_eq_true rfl) (by rfl) (by rfl) ?_; intro wf hz_ hg_ hs_; have HF := Lib.hid hz_; have HG := Lib.hid hg_; have HS := Lib.hid hs_; have HBF := Lib.hid (Stb.below_grown1 HB4.out hg_ (Nat.le_add_right _ 1) HB4.out.size); clear hz_ hg_ hs_)))
    refine bodyPost_ret (results_ct rfl _ _ (w.heap.size + 1) 24 #[.int .i64 0, .int .i64 0, .string ⟨#[]⟩, .slice none 0 0] (0, 0) _ rfl HF.out Try.underlying24 rfl (by kernel_rfl)) rfl ?_
    exact givesR_zero HY.out rfl HBF.out
theorem takeR_calls (x : V) (A : Option Addr) (c : Nat) (PA : Option Addr) (pc : Nat) (p : List Int) (k : Int) (w : World) (hl : x.f3.length ≤ c) (hc : kV.C w A x.f3.length x.f3) (hf : Fit 16 x) (hp : IK.C w PA p.length p) :
    Calls Try.prog 10 #[.agg (aggV x A c), .slice PA p.length pc, .int .i64 k] w fun e w' => GivesR (takeO x p k) w w' e := by
  by_cases hb : mayN 16 x = true ∧ 0 ≤ k ∧ k < 6
  · exact take_ok x A c PA pc p k w hl hc hf hp hb
  · exact take_bad x A c PA pc p k w hl hc hb
theorem take_calls (x : V) (A : Option Addr) (c : Nat) (PA : Option Addr) (pc : Nat) (p : List Int) (k : Int) (w : World) (hl : x.f3.length ≤ c) (hc : kV.C w A x.f3.length x.f3) (hf : Fit 16 x) (hp : IK.C w PA p.length p) :
    Calls Try.prog 10 #[.agg (aggV x A c), .slice PA p.length pc, .int .i64 k] w fun e w' => Gives (takeO x p k) w w' e :=
  (takeR_calls x A c PA pc p k w hl hc hf hp).mono (fun _ _ h => h.gives)
end Go.Proofs.Ytcilojakgnjjmaa.MeK
/- Is a list written? -/
set_option linter.unusedSimpArgs false
set_option linter.unusedVariables false
namespace Go.Proofs.Ytcilojakgnjjmaa.MeW
open Go Go.RowKit Go.Proofs.YtcilojakgnjjmaaW.PrintWords Go.Proofs.YtcilojakgnjjmaaW.PrintLast Go.Proofs.YtcilojakgnjjmaaW.PrintMore Mem PAll MeP MeM MeN MeA MeT MeS MeX MeC MeV MeK MeE MeU WireP UvW VrW
/-- A row of values, read out of its cells. -/
theorem C_mk {w : World} {ad : Addr} {xs : List V} (hl : xs.length ≤ 9223372036854775807) (h : ∀ (j : Nat) (x : V), xs[j]? = some x → ∃ A c, x.f3.length ≤ c ∧ kV.C w A x.f3.length x.f3 ∧ w.cell? (ad.add (j * 4 + 0)) = some (.int .i64 x.f0) ∧ w.cell? (ad.add (j * 4 + 1)) = some (.int .i64 x.f1) ∧ w.cell? (ad.add (j * 4 + 2)) = some (.string x.f2) ∧ w.cell? (ad.add (j * 4 + 3)) = some (.slice A x.f3.length c)) : kV.C w (some ad) xs.length xs := by
  refine ⟨rfl, hl, fun _ => ⟨ad, rfl, fun j p hj => ?_⟩⟩
  obtain ⟨A, c, h1, h2, a0, a1, a2, a3⟩ := h j p hj
  refine ⟨[.int .i64 p.f0, .int .i64 p.f1, .string p.f2, .slice A p.f3.length c], rfl, k24_mk w p h1 h2, fun i u hu => ?_⟩
  match i, hu with
  | 0, hu => rw [← Option.some.inj hu]; exact a0
  | 1, hu => rw [← Option.some.inj hu]; exact a1
  | 2, hu => rw [← Option.some.inj hu]; exact a2
  | 3, hu => rw [← Option.some.inj hu]; exact a3
  | n + 4, hu => simp at hu
def va : V := ⟨2, -1, ⟨#[]⟩, []⟩
def vb : V := ⟨3, 0, ⟨#[97]⟩, []⟩
def vl : V := ⟨5, 0, ⟨#[]⟩, [va, vb]⟩
abbrev LB : Array Value := #[.int .i64 2, .int .i64 (-1), .string ⟨#[]⟩, .slice none 0 0, .int .i64 3, .int .i64 0, .string ⟨#[97]⟩, .slice none 0 0]
theorem fit_vl : Fit 16 vl := by
  have h0 : ∀ n, Fit n va := by
    intro n
    have h : va.f3.length ≤ 2513169434900 ∧ ((-9223372036854775808 ≤ va.f1 ∧ va.f1 < 9223372036854775808) ∧ va.f2.size ≤ 140737488355328) := by decide
    cases n with
    | zero => exact h
    | succ n => exact ⟨h, fun x hx => nomatch hx⟩
  have h1 : ∀ n, Fit n vb := by
    intro n
    have h : vb.f3.length ≤ 2513169434900 ∧ ((-9223372036854775808 ≤ vb.f1 ∧ vb.f1 < 9223372036854775808) ∧ vb.f2.size ≤ 140737488355328) := by decide
    cases n with
    | zero => exact h
    | succ n => exact ⟨h, fun x hx => nomatch hx⟩
  refine ⟨by decide, fun x hx => ?_⟩
  rcases List.mem_cons.1 hx with rfl | hx
  · exact h0 15
  · rcases List.mem_cons.1 hx with rfl | hx
    · exact h1 15
    · exact nomatch hx
theorem may_vl : mayN 16 vl = true := by kernel_rfl
theorem enc_vl : encN 16 vl = [6, 2, 3, 1, 4, 1, 97] := by
  have e1 : uv 1 = [1] := uv_lt (by decide)
  have e2 : uv 2 = [2] := uv_lt (by decide)
  have hz : zig (-1) = 1 := by decide
  have ha : ∀ n, encN n va = [3, 1] := fun n => (enc_leaf (.inr (.inr (.inl rfl)))).trans (show (3 : Int) :: uv (zig (-1)) = _ by rw [hz, e1])
  have hb : ∀ n, encN n vb = [4, 1, 97] := fun n => (enc_leaf (.inr (.inr (.inr (.inl rfl))))).trans (show (4 : Int) :: (uv (byt ⟨#[97]⟩).length ++ byt ⟨#[97]⟩) = _ by rw [show (byt ⟨#[97]⟩).length = 1 by decide, e1]; rfl)
  show (6 : Int) :: (uv 2 ++ [va, vb].flatMap (encN 15)) = _
  rw [e2, List.flatMap_cons, List.flatMap_cons, ha, hb]
  rfl
theorem take1 : takeO vl [1] 3 = (vb, 0) := by
  unfold takeO
  rw [if_pos ⟨may_vl, by decide, by decide⟩]
  rfl
theorem take2 : takeO vl [2] 3 = (z24, 4) := by
  unfold takeO
  rw [if_pos ⟨may_vl, by decide, by decide⟩]
  rfl
theorem C_vl {w : World} {g : Nat} (h : w.heap[g]? = some (.cells LB 24 (0, 0))) : kV.C w (some ⟨g, 0, none⟩) vl.f3.length vl.f3 := by
  refine C_mk (by decide) (fun j x hx => ?_)
  match j, hx with
  | 0, hx =>
    obtain rfl := Option.some.inj hx
    exact ⟨none, 0, by decide, C_zero w, blk_cell h 0, blk_cell h 1, blk_cell h 2, blk_cell h 3⟩
  | 1, hx =>
    obtain rfl := Option.some.inj hx
    exact ⟨none, 0, by decide, C_zero w, blk_cell h 4, blk_cell h 5, blk_cell h 6, blk_cell h 7⟩
  | n + 2, hx => simp [vl] at hx
set_option maxHeartbeats 4000000 in
theorem awake_calls (w : World) : Calls Try.prog 9 #[] w fun e w' => e = .returned (.bool true) ∧ Below w.heap.size w w' := by
  have HB0 : Hid (Below w.heap.size w ((w.alloc (.cells LB 24)).alloc (.cells #[.int .i64 5, .int .i64 0, .string ⟨#[]⟩, .slice (some ⟨w.heap.size, 0, none⟩) 2 2] 24))) := Lib.hid (below_alloc (below_alloc (Below.refl _ _) _) _)
  have HV0 := Lib.hid (blk_alloc (blk_new w (.cells LB 24)) (.cells #[.int .i64 5, .int .i64 0, .string ⟨#[]⟩, .slice (some ⟨w.heap.size, 0, none⟩) 2 2] 24))
  have HZ0 : Hid (((w.alloc (.cells LB 24)).alloc (.cells #[.int .i64 5, .int .i64 0, .string ⟨#[]⟩, .slice (some ⟨w.heap.size, 0, none⟩) 2 2] 24)).heap[w.heap.size + 1]? = some (.cells #[.int .i64 5, .int .i64 0, .string ⟨#[]⟩, .slice (some ⟨w.heap.size, 0, none⟩) 2 2] 24 (0, 0))) := Lib.hid (by have := blk_new (w.alloc (.cells LB 24)) (.cells #[.int .i64 5, .int .i64 0, .string ⟨#[]⟩, .slice (some ⟨w.heap.size, 0, none⟩) 2 2] 24); rwa [show (w.alloc (.cells LB 24)).heap.size = w.heap.size + 1 by simp only [World.alloc, Array.size_push]] at this)
  have c0 := blk_cell HZ0.out 0
  have c1 := blk_cell HZ0.out 1
  have c2 := blk_cell HZ0.out 2
  have c3 := blk_cell HZ0.out 3
  have T := Lib.hid (enc_ok vl (some ⟨w.heap.size, 0, none⟩) 2 _ (by decide) (C_vl HV0.out) may_vl fit_vl (by rw [enc_vl]; decide))
  rw [enc_vl] at T
  go_enter Try.func9, Try.ntmps9
  go_wp2_with fail
  refine T.out.mono ?_
  rintro e w2 ⟨hb, ⟨h1, _⟩ | ⟨h1, B, cb, rfl, h2, h3⟩⟩
  · exact absurd h1 (by decide)
  have HB2 := Lib.hid (below_then HB0.out HB0.out.size hb)
  have HV2 := Lib.hid (blk_below HV0.out hb)
  have HZ2 := Lib.hid (blk_below HZ0.out hb)
  have HK2 := Lib.hid h3
  clear hb T h1 h2 h3 HV0 HZ0 HB0 c0 c1 c2 c3
  have c0 := blk_cell HZ2.out 0
  have c1 := blk_cell HZ2.out 1
  have c2 := blk_cell HZ2.out 2
  have c3 := blk_cell HZ2.out 3
  have HB3 := Lib.hid (below_alloc HB2.out (.cells #[.int .i64 1] 3))
  have HV3 := Lib.hid (blk_alloc HV2.out (.cells #[.int .i64 1] 3))
  have HZ3 := Lib.hid (blk_alloc HZ2.out (.cells #[.int .i64 1] 3))
  have HK3 := Lib.hid (Kd.C_below HK2.out (below_alloc (Below.refl _ _) (.cells #[.int .i64 1] 3)))
  have T := Lib.hid (take_calls vl (some ⟨w.heap.size, 0, none⟩) 2 _ 1 [1] 3 _ (by decide) (C_vl HV3.out) fit_vl (C_lit (w := w2) [1] #[.int .i64 1] 3 rfl (by decide)))
  rw [take1] at T
  clear HV2 HZ2 HB2 HK2
  go_wp2_with fail
  refine T.out.mono ?_
  rintro e w3 ⟨hb, A4, n4, he, _, _⟩
  replace he : e = .returned (.tuple #[.agg #[.int .i64 3, .int .i64 0, .string ⟨#[97]⟩, .slice A4 0 n4], .int .i64 0]) := he
  subst he
  have HB4 := Lib.hid (below_alloc (below_then HB3.out HB3.out.size hb) (.cells #[.int .i64 3, .int .i64 0, .string ⟨#[97]⟩, .slice A4 0 n4] 24))
  have HV4 := Lib.hid (blk_alloc (blk_below HV3.out hb) (.cells #[.int .i64 3, .int .i64 0, .string ⟨#[97]⟩, .slice A4 0 n4] 24))
  have HZ4 := Lib.hid (blk_alloc (blk_below HZ3.out hb) (.cells #[.int .i64 3, .int .i64 0, .string ⟨#[97]⟩, .slice A4 0 n4] 24))
  have HN4 := Lib.hid (blk_new w3 (.cells #[.int .i64 3, .int .i64 0, .string ⟨#[97]⟩, .slice A4 0 n4] 24))
  have HK4 := Lib.hid (Kd.C_below (Kd.C_below HK3.out hb) (below_alloc (Below.refl _ _) (.cells #[.int .i64 3, .int .i64 0, .string ⟨#[97]⟩, .slice A4 0 n4] 24)))
  clear hb T HB3 HV3 HZ3 HK3 c0 c1 c2 c3
  obtain ⟨w4, hw4⟩ : ∃ w4, w4 = w3.alloc (.cells #[.int .i64 3, .int .i64 0, .string ⟨#[97]⟩, .slice A4 0 n4] 24) := ⟨_, rfl⟩
  rw [← hw4] at HB4 HV4 HZ4 HN4 HK4
  have c0 := blk_cell HZ4.out 0
  have c1 := blk_cell HZ4.out 1
  have c2 := blk_cell HZ4.out 2
  have c3 := blk_cell HZ4.out 3
  have HB5 := Lib.hid (below_alloc HB4.out (.cells #[.int .i64 2] 3))
  have HV5 := Lib.hid (blk_alloc HV4.out (.cells #[.int .i64 2] 3))
  have HZ5 := Lib.hid (blk_alloc HZ4.out (.cells #[.int .i64 2] 3))
  have HN5 := Lib.hid (blk_alloc HN4.out (.cells #[.int .i64 2] 3))
  have HK5 := Lib.hid (Kd.C_below HK4.out (below_alloc (Below.refl _ _) (.cells #[.int .i64 2] 3)))
  have T := Lib.hid (take_calls vl (some ⟨w.heap.size, 0, none⟩) 2 _ 1 [2] 3 _ (by decide) (C_vl HV5.out) fit_vl (C_lit (w := w4) [2] #[.int .i64 2] 3 rfl (by decide)))
  rw [take2] at T
  rw [show w4.heap.size = w3.heap.size + 1 by rw [hw4]; simp only [World.alloc, Array.size_push]] at T
  clear HV4 HZ4 HB4 HK4 HN4
  subst hw4
  go_wp2_with fail
  refine T.out.mono ?_
  rintro e w5 ⟨hb, A6, n6, he, _, _⟩
  replace he : e = .returned (.tuple #[.agg #[.int .i64 0, .int .i64 0, .string ⟨#[]⟩, .slice A6 0 n6], .int .i64 4]) := he
  subst he
  have HB6 := Lib.hid (below_alloc (below_then HB5.out HB5.out.size hb) (.cells #[.int .i64 0, .int .i64 0, .string ⟨#[]⟩, .slice A6 0 n6] 24))
  have HN6 := Lib.hid (blk_alloc (blk_below HN5.out hb) (.cells #[.int .i64 0, .int .i64 0, .string ⟨#[]⟩, .slice A6 0 n6] 24))
  have HK6 := Kd.C_below (Kd.C_below HK5.out hb) (below_alloc (Below.refl _ _) (.cells #[.int .i64 0, .int .i64 0, .string ⟨#[]⟩, .slice A6 0 n6] 24))
  have hcx := Kd.C_string (P := Try.prog) (c := cb) Try.underlying39 Try.underlying5 Try.underlying9 HK6
  have hst : strOfNums [6, 2, 3, 1, 4, 1, 97] = ⟨#[6, 2, 3, 1, 4, 1, 97]⟩ := by decide
  rw [hst] at hcx
  simp only [List.length_cons, List.length_nil, Nat.reduceAdd, Nat.zero_add] at hcx
  clear hb T HB5 HV5 HZ5 HK5 HN5 c0 c1 c2 c3 HK6 hst
  have c0 := blk_cell HN6.out 0
  have c1 := blk_cell HN6.out 1
  have c2 := blk_cell HN6.out 2
  have c3 := blk_cell HN6.out 3
  go_wp2_with fail
  go_ret
  exact ⟨rfl, HB6.out⟩
end Go.Proofs.Ytcilojakgnjjmaa.MeW
/- What the document's answers are, in plain words: sizes, counts, which may be, which are alike. -/
set_option linter.unusedSimpArgs false
set_option linter.unusedVariables false
namespace Go.Proofs.Ytcilojakgnjjmaa.MeQ
open Go Go.RowKit Go.Proofs.YtcilojakgnjjmaaW.PrintWords Go.Proofs.YtcilojakgnjjmaaW.PrintLast Go.Proofs.YtcilojakgnjjmaaW.PrintMore Mem PAll MeP MeT MeV MeX
/-- From some fuel on. -/
def Eve {α : Type} (F : Nat → Option α) (r : α) : Prop := ∃ K, ∀ k, K ≤ k → F k = some r
theorem Eve.succ {α : Type} {F : Nat → Option α} {r : α} (h : Eve (fun k => F (k + 1)) r) : Eve F r := by
  obtain ⟨K, h⟩ := h
  refine ⟨K + 1, fun k hk => ?_⟩
  obtain ⟨m, rfl⟩ : ∃ m, k = m + 1 := ⟨k - 1, by omega⟩
  exact h m (by omega)
theorem Eve.of {α : Type} {F : Nat → Option α} {r : α} (h : ∀ k, F k = some r) : Eve F r := ⟨0, fun k _ => h k⟩
theorem Eve.bind {α β : Type} {F : Nat → Option α} {G : Nat → α → Option β} {r : α} {s : β} (h : Eve F r) (g : Eve (fun k => G k r) s) : Eve (fun k => (F k).bind (G k)) s := by
  obtain ⟨K, h⟩ := h
  obtain ⟨L, g⟩ := g
  refine ⟨max K L, fun k hk => ?_⟩
  show (F k).bind (G k) = some s
  rw [h k (by omega)]
  exact g k (by omega)
theorem Eve.at {α : Type} {F : Nat → Option α} {r : α} (h : Eve F r) : ∃ k, F k = some r := by
  obtain ⟨K, h⟩ := h
  exact ⟨K, h K (Nat.le_refl _)⟩
theorem Eve.if_pos {α : Type} {c : Prop} [Decidable c] {F G : Nat → Option α} {r : α} (hc : c) (h : Eve F r) : Eve (fun k => if c then F k else G k) r := by
  obtain ⟨K, h⟩ := h
  exact ⟨K, fun k hk => (_root_.if_pos hc).trans (h k hk)⟩
theorem Eve.if_neg {α : Type} {c : Prop} [Decidable c] {F G : Nat → Option α} {r : α} (hc : ¬ c) (h : Eve G r) : Eve (fun k => if c then F k else G k) r := by
  obtain ⟨K, h⟩ := h
  exact ⟨K, fun k hk => (_root_.if_neg hc).trans (h k hk)⟩
theorem Eve.uniq {α : Type} {F : Nat → Option α} {r s : α} (h : Eve F r) (g : Eve F s) : r = s := by
  obtain ⟨K, h⟩ := h
  obtain ⟨L, g⟩ := g
  have h1 := h (max K L) (by omega)
  have h2 := g (max K L) (by omega)
  rw [h1] at h2
  exact Option.some.inj h2
theorem V_ind {p : V → Prop} (h : ∀ v : V, (∀ x ∈ v.f3, p x) → p v) (v : V) : p v :=
  h v (fun x hx => V_ind h x)
termination_by SizeOf.sizeOf v
decreasing_by
  obtain ⟨f0, f1, f2, f3⟩ := v
  have h1 := List.sizeOf_lt_of_mem hx
  simp only [S24.mk.sizeOf_spec] at *
  omega
/-- Nothing in it is too great to lie in memory. -/
inductive Sz : V → Prop
  | mk (v : V) : (v.f3.length ≤ 2513169434900 ∧ ((-9223372036854775808 ≤ v.f1 ∧ v.f1 < 9223372036854775808) ∧ v.f2.size ≤ 140737488355328)) → (∀ x ∈ v.f3, Sz x) → Sz v
theorem Sz.here {v : V} (h : Sz v) : v.f3.length ≤ 2513169434900 ∧ ((-9223372036854775808 ≤ v.f1 ∧ v.f1 < 9223372036854775808) ∧ v.f2.size ≤ 140737488355328) := by cases h; assumption
theorem Sz.inner {v : V} (h : Sz v) : ∀ x ∈ v.f3, Sz x := by cases h; assumption
theorem Sz.fit {v : V} (n : Nat) (h : Sz v) : Fit n v := by
  induction n generalizing v with
  | zero => exact h.here
  | succ n ih => exact ⟨h.here, fun x hx => ih (h.inner x hx)⟩
theorem wrap_add (a b : Int) : wrap64 (wrap64 a + wrap64 b) = wrap64 (a + b) := by unfold wrap64; omega
theorem wrap_nat {j : Nat} (h : j < 2513169434900) : wrap64 ((j : Int) + 1) = ((j + 1 : Nat) : Int) := by unfold wrap64; omega
theorem rd_at {l : List V} {j : Nat} (h : j < l.length) : rd_T24 l (j : Int) = l[j] := by
  unfold rd_T24
  rw [Int.toNat_natCast, List.getD_eq_getElem?_getD, List.getElem?_eq_getElem h]
  rfl
theorem drop_at {l : List V} {j : Nat} (h : j < l.length) : l.drop j = l[j] :: l.drop (j + 1) := List.drop_eq_getElem_cons h
/-- The sum of a list. -/
def tot (g : V → Int) (l : List V) : Int := (l.map g).sum
theorem tot_cons (g : V → Int) (x : V) (l : List V) : tot g (x :: l) = g x + tot g l := by unfold tot; rw [List.map_cons, List.sum_cons]
abbrev SizeF (v : V) (k : Nat) := mooringref24_Size.f k v.f0 v.f1 v.f2 v.f3
theorem size_l {l : List V} (hl : l.length ≤ 2513169434900) (g : V → Int) (hg : ∀ x ∈ l, ∃ d, Eve (SizeF x) (wrap64 (g x), d)) (f0 f1 : Int) (f2 : ByteArray) : ∀ (m j : Nat), j + m = l.length → ∀ (a b : Int), ∃ d, Eve (fun k => mooringref24_Size.l0 k (wrap64 a) b j f0 f1 f2 l) (wrap64 (a + tot g (l.drop j)), d) := by
  intro m
  induction m with
  | zero =>
    intro j hj a b
    refine ⟨b, Eve.succ (Eve.of fun k => ?_)⟩
    rw [mooringref24_Size.l0, if_neg (by omega), show l.drop j = [] from List.drop_eq_nil_of_le (by omega)]
    simp [tot]
  | succ m ih =>
    intro j hj a b
    have hj2 : j < l.length := by omega
    obtain ⟨d, hd⟩ := hg l[j] (List.getElem_mem hj2)
    have key : ∀ b', ∃ d', Eve (fun k => mooringref24_Size.l0 k (wrap64 (wrap64 a + wrap64 (g l[j]))) b' (wrap64 ((j : Int) + 1)) f0 f1 f2 l) (wrap64 (a + tot g (l.drop j)), d') := by
      intro b'
      rw [wrap_add, wrap_nat (by omega), drop_at hj2, tot_cons, ← Int.add_assoc]
      exact ih (j + 1) (by omega) _ b'
    by_cases hb : wrap64 (d + 1) > b
    · obtain ⟨d', hk⟩ := key (wrap64 (d + 1))
      refine ⟨d', Eve.succ ?_⟩
      have e : (fun k => mooringref24_Size.l0 (k + 1) (wrap64 a) b j f0 f1 f2 l) = fun k => if (j : Int) < (l.length : Int) then (if (0 : Int) ≤ j then ((SizeF l[j] k).bind fun bt => if wrap64 (bt.2 + 1) > b then mooringref24_Size.l0 k (wrap64 (wrap64 a + bt.1)) (wrap64 (bt.2 + 1)) (wrap64 ((j : Int) + 1)) f0 f1 f2 l else mooringref24_Size.l0 k (wrap64 (wrap64 a + bt.1)) b (wrap64 ((j : Int) + 1)) f0 f1 f2 l) else none) else some (wrap64 a, b) := by
        funext k
        rw [mooringref24_Size.l0, rd_at hj2]
      rw [e]
      exact Eve.if_pos (by omega) (Eve.if_pos (by omega) (Eve.bind hd (Eve.if_pos hb hk)))
    · obtain ⟨d', hk⟩ := key b
      refine ⟨d', Eve.succ ?_⟩
      have e : (fun k => mooringref24_Size.l0 (k + 1) (wrap64 a) b j f0 f1 f2 l) = fun k => if (j : Int) < (l.length : Int) then (if (0 : Int) ≤ j then ((SizeF l[j] k).bind fun bt => if wrap64 (bt.2 + 1) > b then mooringref24_Size.l0 k (wrap64 (wrap64 a + bt.1)) (wrap64 (bt.2 + 1)) (wrap64 ((j : Int) + 1)) f0 f1 f2 l else mooringref24_Size.l0 k (wrap64 (wrap64 a + bt.1)) b (wrap64 ((j : Int) + 1)) f0 f1 f2 l) else none) else some (wrap64 a, b) := by
        funext k
        rw [mooringref24_Size.l0, rd_at hj2]
      rw [e]
      exact Eve.if_pos (by omega) (Eve.if_pos (by omega) (Eve.bind hd (Eve.if_neg hb hk)))
theorem size_any (v : V) (h : Sz v) : ∃ n d, Eve (SizeF v) (wrap64 n, d) := by
  induction v using V_ind with
  | h v ih =>
    have ch : ∀ x ∈ v.f3, ∃ n d, Eve (SizeF x) (wrap64 n, d) := fun x hx => ih x hx (h.inner x hx)
    obtain ⟨g, hg⟩ : ∃ g : V → Int, ∀ x ∈ v.f3, ∃ d, Eve (SizeF x) (wrap64 (g x), d) := by
      classical
      exact ⟨fun x => if hx : x ∈ v.f3 then (ch x hx).choose else 0, fun x hx => by simp only [dif_pos hx]; exact (ch x hx).choose_spec⟩
    obtain ⟨d, hd⟩ := size_l h.here.1 g hg v.f0 v.f1 v.f2 v.f3.length 0 (by omega) 1 0
    rw [show wrap64 1 = 1 by unfold wrap64; omega] at hd
    exact ⟨_, d, Eve.succ (F := SizeF v) hd⟩
/-- How many of each kind, so deep; and how many. -/
def cN (kd : Int) : Nat → V → Int
  | 0, v => if v.f0 = kd then 1 else 0
  | n + 1, v => (if v.f0 = kd then 1 else 0) + tot (cN kd n) v.f3
def sN : Nat → V → Int
  | 0, v => 1
  | n + 1, v => 1 + tot (sN n) v.f3
theorem leaf_nil {n : Nat} {v : V} (hm : mayN n v = true) (h5 : v.f0 ≠ 5) : v.f3 = [] := by
  have hs := mayN_sh hm
  unfold sh at hs
  have key : ∀ b : Bool, (b && decide (v.f3.length = 0)) = true → v.f3 = [] := fun b h => by
    rw [Bool.and_eq_true] at h
    exact List.eq_nil_of_length_eq_zero (of_decide_eq_true h.2)
  split at hs
  · rw [← Bool.and_assoc] at hs; exact key _ hs
  split at hs
  · rw [← Bool.and_assoc] at hs; exact key _ hs
  split at hs
  · exact key _ hs
  split at hs
  · exact key _ hs
  exact absurd hs (by decide)
theorem size_may : ∀ (n : Nat) (v : V), mayN n v = true → Sz v → ∃ d, Eve (SizeF v) (wrap64 (sN n v), d) := by
  intro n
  have step : ∀ (v : V) (g : V → Int), Sz v → (∀ x ∈ v.f3, ∃ d, Eve (SizeF x) (wrap64 (g x), d)) → ∃ d, Eve (SizeF v) (wrap64 (1 + tot g v.f3), d) := by
    intro v g hs hg
    obtain ⟨d, hd⟩ := size_l hs.here.1 g hg v.f0 v.f1 v.f2 v.f3.length 0 (by omega) 1 0
    rw [show wrap64 1 = 1 by unfold wrap64; omega] at hd
    exact ⟨d, Eve.succ (F := SizeF v) hd⟩
  induction n with
  | zero =>
    intro v hm hs
    have h5 : v.f0 ≠ 5 := by
      intro h
      obtain ⟨m, hm2, _⟩ := mayN_list h hm
      omega
    have h0 := leaf_nil hm h5
    obtain ⟨d, h⟩ := step v (fun _ => 0) hs (fun x hx => by rw [h0] at hx; exact nomatch hx)
    rw [h0] at h
    exact ⟨d, by simpa [tot, sN] using h⟩
  | succ n ih =>
    intro v hm hs
    refine step v (sN n) hs (fun x hx => ih x ?_ (hs.inner x hx))
    by_cases h5 : v.f0 = 5
    · obtain ⟨m, hm2, hall⟩ := mayN_list h5 hm
      obtain rfl : m = n := by omega
      exact hall x hx
    · rw [leaf_nil hm h5] at hx
      exact nomatch hx
abbrev RCountF (v : V) (kd : Int) (k : Nat) := mooringref24_Count.f k v.f0 v.f1 v.f2 v.f3 kd
theorem ref_cl {l : List V} (hl : l.length ≤ 2513169434900) (kd : Int) (g : V → Int) (hg : ∀ x ∈ l, Eve (RCountF x kd) (wrap64 (g x))) (f0 f1 : Int) (f2 : ByteArray) : ∀ (m j : Nat), j + m = l.length → ∀ (a : Int), Eve (fun k => mooringref24_Count.l0 k kd (wrap64 a) j f0 f1 f2 l) (wrap64 (a + tot g (l.drop j))) := by
  intro m
  induction m with
  | zero =>
    intro j hj a
    refine Eve.succ (Eve.of fun k => ?_)
    rw [mooringref24_Count.l0, if_neg (by omega), show l.drop j = [] from List.drop_eq_nil_of_le (by omega)]
    simp [tot]
  | succ m ih =>
    intro j hj a
    have hj2 : j < l.length := by omega
    have hd := hg l[j] (List.getElem_mem hj2)
    have key : Eve (fun k => mooringref24_Count.l0 k kd (wrap64 (wrap64 a + wrap64 (g l[j]))) (wrap64 ((j : Int) + 1)) f0 f1 f2 l) (wrap64 (a + tot g (l.drop j))) := by
      rw [wrap_add, wrap_nat (by omega), drop_at hj2, tot_cons, ← Int.add_assoc]
      exact ih (j + 1) (by omega) _
    refine Eve.succ ?_
    have e : (fun k => mooringref24_Count.l0 (k + 1) kd (wrap64 a) j f0 f1 f2 l) = fun k => if (j : Int) < (l.length : Int) then (if (0 : Int) ≤ j then ((RCountF l[j] kd k).bind fun t => mooringref24_Count.l0 k kd (wrap64 (wrap64 a + t)) (wrap64 ((j : Int) + 1)) f0 f1 f2 l) else none) else some (wrap64 a) := by
      funext k
      rw [mooringref24_Count.l0, rd_at hj2]
    rw [e]
    exact Eve.if_pos (by omega) (Eve.if_pos (by omega) (Eve.bind hd key))
theorem ref_step {v : V} (hl : v.f3.length ≤ 2513169434900) (kd : Int) (g : V → Int) (hg : ∀ x ∈ v.f3, Eve (RCountF x kd) (wrap64 (g x))) : Eve (RCountF v kd) (wrap64 ((if v.f0 = kd then 1 else 0) + tot g v.f3)) := by
  have h := fun a => ref_cl hl kd g hg v.f0 v.f1 v.f2 v.f3.length 0 (by omega) a
  by_cases hk : v.f0 = kd
  · have h1 := h 1
    rw [show wrap64 1 = 1 by unfold wrap64; omega] at h1
    rw [if_pos hk]
    refine Eve.succ (F := RCountF v kd) ?_
    have e : (fun k => RCountF v kd (k + 1)) = fun k => mooringref24_Count.j0 k kd 1 v.f0 v.f1 v.f2 v.f3 := by
      funext k
      show mooringref24_Count.f (k + 1) v.f0 v.f1 v.f2 v.f3 kd = _
      rw [mooringref24_Count.f, if_pos hk]
    rw [e]
    exact Eve.succ h1
  · have h1 := h 0
    rw [show wrap64 0 = 0 by unfold wrap64; omega] at h1
    rw [if_neg hk]
    refine Eve.succ (F := RCountF v kd) ?_
    have e : (fun k => RCountF v kd (k + 1)) = fun k => mooringref24_Count.j0 k kd 0 v.f0 v.f1 v.f2 v.f3 := by
      funext k
      show mooringref24_Count.f (k + 1) v.f0 v.f1 v.f2 v.f3 kd = _
      rw [mooringref24_Count.f, if_neg hk]
    rw [e]
    exact Eve.succ h1
theorem ref_cnt (kd : Int) : ∀ (n : Nat) (v : V), mayN n v = true → Sz v → Eve (RCountF v kd) (wrap64 (cN kd n v)) := by
  intro n
  induction n with
  | zero =>
    intro v hm hs
    have h5 : v.f0 ≠ 5 := by
      intro h
      obtain ⟨m, hm2, _⟩ := mayN_list h hm
      omega
    have h0 := leaf_nil hm h5
    have h := ref_step (v := v) hs.here.1 kd (fun _ => 0) (fun x hx => by rw [h0] at hx; exact nomatch hx)
    rw [h0] at h
    simpa [tot, cN] using h
  | succ n ih =>
    intro v hm hs
    refine ref_step hs.here.1 kd (cN kd n) (fun x hx => ih x ?_ (hs.inner x hx))
    by_cases h5 : v.f0 = 5
    · obtain ⟨m, hm2, hall⟩ := mayN_list h5 hm
      obtain rfl : m = n := by omega
      exact hall x hx
    · rw [leaf_nil hm h5] at hx
      exact nomatch hx
abbrev PCountF (v : V) (kd : Int) (k : Nat) := message_count.f k v.f0 v.f1 v.f2 v.f3 kd
theorem pro_cl {l : List V} (hl : l.length ≤ 2513169434900) (kd : Int) (g : V → Int) (hg : ∀ x ∈ l, Eve (PCountF x kd) (wrap64 (g x))) : ∀ (m j : Nat), j + m = l.length → ∀ (a : Int), Eve (fun k => message_count.l0 k kd (wrap64 a) l l.length j) (wrap64 (a + tot g (l.drop j))) := by
  intro m
  induction m with
  | zero =>
    intro j hj a
    refine Eve.succ (Eve.of fun k => ?_)
    rw [message_count.l0, if_neg (by omega), show l.drop j = [] from List.drop_eq_nil_of_le (by omega)]
    simp [tot]
  | succ m ih =>
    intro j hj a
    have hj2 : j < l.length := by omega
    have hd := hg l[j] (List.getElem_mem hj2)
    have key : Eve (fun k => message_count.l0 k kd (wrap64 (wrap64 a + wrap64 (g l[j]))) l l.length (wrap64 ((j : Int) + 1))) (wrap64 (a + tot g (l.drop j))) := by
      rw [wrap_add, wrap_nat (by omega), drop_at hj2, tot_cons, ← Int.add_assoc]
      exact ih (j + 1) (by omega) _
    refine Eve.succ ?_
    have e : (fun k => message_count.l0 (k + 1) kd (wrap64 a) l l.length j) = fun k => if (j : Int) < (l.length : Int) then (if (0 : Int) ≤ j then (if (j : Int) < (l.length : Int) then ((PCountF l[j] kd k).bind fun t => message_count.l0 k kd (wrap64 (wrap64 a + t)) l l.length (wrap64 ((j : Int) + 1))) else none) else none) else some (wrap64 a) := by
      funext k
      rw [message_count.l0, rd_at hj2]
    rw [e]
    exact Eve.if_pos (by omega) (Eve.if_pos (by omega) (Eve.if_pos (by omega) (Eve.bind hd key)))
theorem pro_step {v : V} (hl : v.f3.length ≤ 2513169434900) (kd : Int) (g : V → Int) (hg : ∀ x ∈ v.f3, Eve (PCountF x kd) (wrap64 (g x))) : Eve (PCountF v kd) (wrap64 ((if v.f0 = kd then 1 else 0) + tot g v.f3)) := by
  have h := fun a => pro_cl hl kd g hg v.f3.length 0 (by omega) a
  by_cases hk : v.f0 = kd
  · have h1 := h 1
    rw [show wrap64 1 = 1 by unfold wrap64; omega] at h1
    rw [if_pos hk]
    refine Eve.succ (F := PCountF v kd) ?_
    have e : (fun k => PCountF v kd (k + 1)) = fun k => message_count.j0 k kd 1 v.f0 v.f1 v.f2 v.f3 := by
      funext k
      show message_count.f (k + 1) v.f0 v.f1 v.f2 v.f3 kd = _
      rw [message_count.f, if_pos hk]; rfl
    rw [e]
    exact Eve.succ h1
  · have h1 := h 0
    rw [show wrap64 0 = 0 by unfold wrap64; omega] at h1
    rw [if_neg hk]
    refine Eve.succ (F := PCountF v kd) ?_
    have e : (fun k => PCountF v kd (k + 1)) = fun k => message_count.j0 k kd 0 v.f0 v.f1 v.f2 v.f3 := by
      funext k
      show message_count.f (k + 1) v.f0 v.f1 v.f2 v.f3 kd = _
      rw [message_count.f, if_neg hk]
    rw [e]
    exact Eve.succ h1
theorem pro_cnt (kd : Int) : ∀ (n : Nat) (v : V), mayN n v = true → Sz v → Eve (PCountF v kd) (wrap64 (cN kd n v)) := by
  intro n
  induction n with
  | zero =>
    intro v hm hs
    have h5 : v.f0 ≠ 5 := by
      intro h
      obtain ⟨m, hm2, _⟩ := mayN_list h hm
      omega
    have h0 := leaf_nil hm h5
    have h := pro_step (v := v) hs.here.1 kd (fun _ => 0) (fun x hx => by rw [h0] at hx; exact nomatch hx)
    rw [h0] at h
    simpa [tot, cN] using h
  | succ n ih =>
    intro v hm hs
    refine pro_step hs.here.1 kd (cN kd n) (fun x hx => ih x ?_ (hs.inner x hx))
    by_cases h5 : v.f0 = 5
    · obtain ⟨m, hm2, hall⟩ := mayN_list h5 hm
      obtain rfl : m = n := by omega
      exact hall x hx
    · rw [leaf_nil hm h5] at hx
      exact nomatch hx
theorem kinds {n : Nat} {v : V} (hm : mayN n v = true) : v.f0 = 0 ∨ v.f0 = 1 ∨ v.f0 = 2 ∨ v.f0 = 3 ∨ v.f0 = 4 ∨ v.f0 = 5 := by
  have hs := mayN_sh hm
  unfold sh at hs
  by_cases h0 : v.f0 = 0
  · exact .inl h0
  by_cases h1 : v.f0 = 1
  · exact .inr (.inl h1)
  by_cases h2 : v.f0 = 2
  · exact .inr (.inr (.inl h2))
  by_cases h3 : v.f0 = 3
  · exact .inr (.inr (.inr (.inl h3)))
  by_cases h4 : v.f0 = 4
  · exact .inr (.inr (.inr (.inr (.inl h4))))
  by_cases h5 : v.f0 = 5
  · exact .inr (.inr (.inr (.inr (.inr h5))))
  rw [if_neg h0, if_neg h1, if_neg h2, if_neg (fun h => h.elim h3 h4), if_neg h5] at hs
  exact absurd hs (by decide)
theorem tot_add {g h : V → Int} : ∀ l : List V, tot (fun x => g x + h x) l = tot g l + tot h l
  | [] => rfl
  | x :: l => by rw [tot_cons, tot_cons, tot_cons, tot_add l]; omega
theorem tot_eq {g h : V → Int} : ∀ l : List V, (∀ x ∈ l, g x = h x) → tot g l = tot h l
  | [], _ => rfl
  | x :: l, e => by rw [tot_cons, tot_cons, e x (List.mem_cons_self ..), tot_eq l (fun y hy => e y (List.mem_cons_of_mem _ hy))]
theorem one_kind {v : V} {n : Nat} (hm : mayN n v = true) : (if v.f0 = 0 then (1 : Int) else 0) + (if v.f0 = 1 then 1 else 0) + (if v.f0 = 2 then 1 else 0) + (if v.f0 = 3 then 1 else 0) + (if v.f0 = 4 then 1 else 0) + (if v.f0 = 5 then 1 else 0) = 1 := by
  rcases kinds hm with h | h | h | h | h | h <;> rw [h] <;> decide
theorem sum_kinds : ∀ (n : Nat) (v : V), mayN n v = true → cN 0 n v + cN 1 n v + cN 2 n v + cN 3 n v + cN 4 n v + cN 5 n v = sN n v := by
  intro n
  induction n with
  | zero => intro v hm; exact one_kind hm
  | succ n ih =>
    intro v hm
    have h := one_kind hm
    have e : tot (cN 0 n) v.f3 + tot (cN 1 n) v.f3 + tot (cN 2 n) v.f3 + tot (cN 3 n) v.f3 + tot (cN 4 n) v.f3 + tot (cN 5 n) v.f3 = tot (sN n) v.f3 := by
      rw [← tot_add, ← tot_add, ← tot_add, ← tot_add, ← tot_add]
      refine tot_eq _ (fun x hx => ih x ?_)
      by_cases h5 : v.f0 = 5
      · obtain ⟨m, hm2, hall⟩ := mayN_list h5 hm
        obtain rfl : m = n := by omega
        exact hall x hx
      · rw [leaf_nil hm h5] at hx
        exact nomatch hx
    simp only [cN, sN]
    omega
abbrev MayF (v : V) (d : Int) (k : Nat) := mooringref24_May.f k v.f0 v.f1 v.f2 v.f3 d
theorem may_l {l : List V} (hl : l.length ≤ 2513169434900) (x1 : Int) (p : V → Bool) (hp : ∀ x ∈ l, Eve (MayF x (wrap64 (x1 - 1))) (p x)) (f0 f1 : Int) (f2 : ByteArray) : ∀ (m j : Nat), j + m = l.length → Eve (fun k => mooringref24_May.l0 k x1 j f0 f1 f2 l) ((l.drop j).all p) := by
  intro m
  induction m with
  | zero =>
    intro j hj
    refine Eve.succ (Eve.of fun k => ?_)
    rw [mooringref24_May.l0, if_neg (by omega), show l.drop j = [] from List.drop_eq_nil_of_le (by omega)]
    rfl
  | succ m ih =>
    intro j hj
    have hj2 : j < l.length := by omega
    have hd := hp l[j] (List.getElem_mem hj2)
    refine Eve.succ ?_
    have e : (fun k => mooringref24_May.l0 (k + 1) x1 j f0 f1 f2 l) = fun k => if (j : Int) < (l.length : Int) then (if (0 : Int) ≤ j then ((MayF l[j] (wrap64 (x1 - 1)) k).bind fun t => if t = true then mooringref24_May.l0 k x1 (wrap64 ((j : Int) + 1)) f0 f1 f2 l else some false) else none) else some true := by
      funext k
      rw [mooringref24_May.l0, rd_at hj2]
    rw [e, drop_at hj2, List.all_cons]
    refine Eve.if_pos (by omega) (Eve.if_pos (by omega) (Eve.bind hd ?_))
    cases hb : p l[j]
    · exact Eve.if_neg (by decide) (Eve.of fun _ => rfl)
    · rw [wrap_nat (by omega)]
      exact Eve.if_pos rfl (ih (j + 1) (by omega))
theorem nt_iff (s : ByteArray) : nt s = true ↔ s.toList = [] := by unfold nt; exact beq_iff_eq
theorem len0 (n : Nat) : ((n : Int) == 0) = decide (n = 0) := by
  cases n with
  | zero => rfl
  | succ n => simp; omega
theorem may_ev : ∀ (n : Nat), n ≤ 100 → ∀ (v : V), Sz v → Eve (MayF v n) (mayN n v) := by
  intro n
  induction n using Nat.strongRecOn with
  | ind n ih =>
    intro hn v hs
    have hc : mayN n v = (sh v && (!(v.f0 == 5) || (decide (0 < n) && v.f3.all (mayN (n - 1))))) := by
      cases n with
      | zero => unfold mayN; cases v.f0 == 5 <;> simp
      | succ n => unfold mayN; simp
    rw [hc]
    obtain ⟨f0, f1, f2, f3⟩ := v
    refine Eve.succ (F := MayF ⟨f0, f1, f2, f3⟩ n) ?_
    show Eve (fun k => mooringref24_May.f (k + 1) f0 f1 f2 f3 n) _
    have b1 : (f1 == 0) = decide (f1 = 0) := by by_cases h : f1 = 0 <;> simp [h]
    have b2 : (f1 == 1) = decide (f1 = 1) := by by_cases h : f1 = 1 <;> simp [h]
    have b3 : nt f2 = decide (f2.toList = []) := by unfold nt; by_cases h : f2.toList = [] <;> simp [h]
    have b4 : ∀ c : Int, (f0 == c) = decide (f0 = c) := fun c => by by_cases h : f0 = c <;> simp [h]
    simp only [mooringref24_May.f, sh, len0, b1, b2, b3, b4]
    have hl : f3.length ≤ 2513169434900 := hs.here.1
    have hi : ∀ x ∈ f3, Sz x := hs.inner
    clear b1 b2 b3 b4 hc hs
    obtain ⟨E, hE⟩ : ∃ E, E = decide (f3.length = 0) := ⟨_, rfl⟩
    rw [← hE]
    by_cases h0 : f0 = 0
    · refine Eve.of fun k => ?_
      have h5 : ¬ f0 = 5 := by omega
      by_cases h1 : f1 = 0 <;> by_cases h2 : f2.toList = [] <;> simp only [h0, h1, h2, if_true, if_false, decide_true, decide_false, Bool.true_and, Bool.false_and, Bool.and_true, Bool.and_false, Bool.not_false, Bool.true_or, show ¬ ((0 : Int) = 5) by decide]
    by_cases h1 : f0 = 1
    · refine Eve.of fun k => ?_
      by_cases h3 : f1 = 0
      · by_cases h2 : f2.toList = [] <;> simp only [h1, h3, h2, if_true, if_false, decide_true, decide_false, Bool.true_and, Bool.false_and, Bool.and_true, Bool.and_false, Bool.not_false, Bool.true_or, Bool.or_true, show ¬ ((1 : Int) = 5) by decide, show ¬ ((1 : Int) = 0) by decide]
      · by_cases h4 : f1 = 1
        · by_cases h2 : f2.toList = [] <;> simp only [h1, h4, h2, if_true, if_false, decide_true, decide_false, Bool.true_and, Bool.false_and, Bool.and_true, Bool.and_false, Bool.not_false, Bool.true_or, Bool.or_true, show ¬ ((1 : Int) = 5) by decide, show ¬ ((1 : Int) = 0) by decide]
        · by_cases h2 : f2.toList = [] <;> simp only [h1, h3, h4, h2, if_true, if_false, decide_true, decide_false, Bool.true_and, Bool.false_and, Bool.and_true, Bool.and_false, Bool.not_false, Bool.true_or, Bool.or_true, Bool.or_false, show ¬ ((1 : Int) = 5) by decide, show ¬ ((1 : Int) = 0) by decide]
    by_cases h2 : f0 = 2
    · refine Eve.of fun k => ?_
      by_cases h3 : f2.toList = [] <;> simp only [h2, h3, if_true, if_false, decide_true, decide_false, Bool.true_and, Bool.false_and, Bool.and_true, Bool.and_false, Bool.not_false, Bool.true_or, Bool.or_true, show ¬ ((2 : Int) = 5) by decide, show ¬ ((2 : Int) = 0) by decide, show ¬ ((2 : Int) = 1) by decide]
    by_cases h3 : f0 = 3
    · subst h3
      simp only [show ¬ ((3 : Int) = 0) by decide, show ¬ ((3 : Int) = 1) by decide, show ¬ ((3 : Int) = 2) by decide, show ¬ ((3 : Int) = 4) by decide, show ¬ ((3 : Int) = 5) by decide, if_true, if_false, decide_true, decide_false, Bool.true_and, Bool.false_and, Bool.and_true, Bool.and_false, Bool.not_false, Bool.not_true, Bool.true_or, Bool.false_or, Bool.or_true, Bool.or_false, true_or, or_true, false_or, or_false]
      refine Eve.succ (Eve.of fun k => ?_)
      rw [mooringref24_May.j0, if_pos rfl, len0, ← hE]
      by_cases h1 : f1 = 0 <;> simp only [h1, if_true, if_false, decide_true, decide_false, Bool.true_and, Bool.false_and, Bool.and_true, Bool.and_false, Bool.not_false, Bool.not_true, Bool.true_or, Bool.false_or, Bool.or_true, Bool.or_false]
    by_cases h4 : f0 = 4
    · subst h4
      simp only [show ¬ ((4 : Int) = 0) by decide, show ¬ ((4 : Int) = 1) by decide, show ¬ ((4 : Int) = 2) by decide, show ¬ ((4 : Int) = 3) by decide, show ¬ ((4 : Int) = 5) by decide, if_true, if_false, decide_true, decide_false, Bool.true_and, Bool.false_and, Bool.and_true, Bool.and_false, Bool.not_false, Bool.not_true, Bool.true_or, Bool.false_or, Bool.or_true, Bool.or_false, true_or, or_true, false_or, or_false]
      refine Eve.succ (Eve.of fun k => ?_)
      rw [mooringref24_May.j0, if_pos rfl, len0, ← hE]
      by_cases h1 : f1 = 0 <;> simp only [h1, if_true, if_false, decide_true, decide_false, Bool.true_and, Bool.false_and, Bool.and_true, Bool.and_false, Bool.not_false, Bool.not_true, Bool.true_or, Bool.false_or, Bool.or_true, Bool.or_false]
    by_cases h5 : f0 = 5
    · subst h5
      simp only [show ¬ ((5 : Int) = 0) by decide, show ¬ ((5 : Int) = 1) by decide, show ¬ ((5 : Int) = 2) by decide, show ¬ ((5 : Int) = 3) by decide, show ¬ ((5 : Int) = 4) by decide, if_true, if_false, decide_true, decide_false, Bool.true_and, Bool.false_and, Bool.and_true, Bool.and_false, Bool.not_false, Bool.not_true, Bool.true_or, Bool.false_or, Bool.or_true, Bool.or_false, or_self]
      refine Eve.succ ?_
      simp only [mooringref24_May.j0, if_true, if_false, decide_true, decide_false, Bool.true_and, Bool.false_and, Bool.and_true, Bool.and_false, Bool.not_false, Bool.not_true, Bool.true_or, Bool.false_or, Bool.or_true, Bool.or_false, Bool.false_eq_true]
      by_cases h1 : f1 = 0
      · by_cases h2 : f2.toList = []
        · simp only [h1, h2, if_true, if_false, decide_true, decide_false, Bool.true_and, Bool.false_and, Bool.and_true, Bool.and_false, Bool.not_false, Bool.not_true, Bool.true_or, Bool.false_or, Bool.or_true, Bool.or_false]
          refine Eve.succ ?_
          simp only [mooringref24_May.j1]
          cases n with
          | zero =>
            refine Eve.if_pos (by decide) (Eve.of fun k => ?_)
            simp
          | succ n =>
            refine Eve.if_neg (by simp; omega) ?_
            have hw : wrap64 (((n + 1 : Nat) : Int) - 1) = (n : Int) := by unfold wrap64; omega
            have h := may_l (l := f3) hl ((n + 1 : Nat) : Int) (mayN n) (fun x hx => by rw [hw]; exact ih n (by omega) (by omega) x (hi x hx)) 5 0 f2 f3.length 0 (by omega)
            simpa using h
        · simp only [h1, h2, if_true, if_false, decide_true, decide_false, Bool.true_and, Bool.false_and, Bool.and_true, Bool.and_false, Bool.not_false, Bool.not_true, Bool.true_or, Bool.false_or, Bool.or_true, Bool.or_false]
          exact Eve.succ (Eve.of fun k => by rw [mooringref24_May.j1, if_pos rfl])
      · simp only [h1, if_true, if_false, decide_true, decide_false, Bool.true_and, Bool.false_and, Bool.and_true, Bool.and_false, Bool.not_false, Bool.not_true, Bool.true_or, Bool.false_or, Bool.or_true, Bool.or_false]
        exact Eve.succ (Eve.of fun k => by rw [mooringref24_May.j1, if_pos rfl])
    · simp only [h0, h1, h2, h3, h4, h5, if_true, if_false, decide_true, decide_false, Bool.true_and, Bool.false_and, Bool.and_true, Bool.and_false, Bool.not_false, Bool.not_true, Bool.true_or, Bool.false_or, Bool.or_true, Bool.or_false, or_self]
      exact Eve.succ (Eve.of fun k => by rw [mooringref24_May.j0, if_neg (by decide), if_neg h5])
theorem sz_zero : Sz z24 := .mk _ (by decide) (fun x hx => nomatch hx)
theorem walk_sz : ∀ (p : List Int) (v y : V), Sz v → walkP v p = some y → Sz y := by
  intro p
  induction p with
  | nil => intro v y h e; rw [← Option.some.inj (show some v = some y from e)]; exact h
  | cons i p ih =>
    intro v y h e
    rw [walkP_cons] at e
    split at e
    · cases hx : v.f3[i.toNat]? with
      | none => rw [hx] at e; cases e
      | some x =>
        rw [hx] at e
        exact ih x y (h.inner x (List.mem_of_getElem? hx)) e
    · cases e
theorem take_sz (v : V) (h : Sz v) (p : List Int) (k : Int) : Sz (MeK.takeO v p k).1 := by
  unfold MeK.takeO
  split
  · cases hx : walkP v p with
    | none => exact sz_zero
    | some y =>
      dsimp only
      split
      · exact walk_sz p v y h hx
      · exact sz_zero
  · exact sz_zero
end Go.Proofs.Ytcilojakgnjjmaa.MeQ
/- Which values are alike: those that are one. -/
set_option linter.unusedSimpArgs false
set_option linter.unusedVariables false
namespace Go.Proofs.Ytcilojakgnjjmaa.MeR
open Go Go.RowKit Go.Proofs.YtcilojakgnjjmaaW.PrintWords Go.Proofs.YtcilojakgnjjmaaW.PrintLast Go.Proofs.YtcilojakgnjjmaaW.PrintMore Mem PAll MeP MeT MeV MeX MeQ
abbrev SameF (v u : V) (k : Nat) := mooringref24_Same.f k v.f0 v.f1 v.f2 v.f3 u.f0 u.f1 u.f2 u.f3
theorem same_l {la lb : List V} (hl : la.length ≤ 2513169434900) (he : la.length = lb.length) (hx : ∀ x ∈ la, ∀ y, ∃ r, Eve (SameF x y) r ∧ (r = true ↔ x = y)) (f0 f1 g0 g1 : Int) (f2 g2 : ByteArray) : ∀ (m j : Nat), j + m = la.length → ∃ r, Eve (fun k => mooringref24_Same.l0 k j f0 f1 f2 la g0 g1 g2 lb) r ∧ (r = true ↔ la.drop j = lb.drop j) := by
  intro m
  induction m with
  | zero =>
    intro j hj
    refine ⟨true, Eve.succ (Eve.of fun k => ?_), ?_⟩
    · rw [mooringref24_Same.l0, if_neg (by omega)]
    · rw [List.drop_eq_nil_of_le (by omega), List.drop_eq_nil_of_le (by omega)]
      simp
  | succ m ih =>
    intro j hj
    have hj2 : j < la.length := by omega
    have hj3 : j < lb.length := by omega
    obtain ⟨r, hr, hi⟩ := hx la[j] (List.getElem_mem hj2) lb[j]
    have e : (fun k => mooringref24_Same.l0 (k + 1) j f0 f1 f2 la g0 g1 g2 lb) = fun k => if (j : Int) < (la.length : Int) then (if (0 : Int) ≤ j then (if (j : Int) < (lb.length : Int) then ((SameF la[j] lb[j] k).bind fun t => if t = true then mooringref24_Same.l0 k (wrap64 ((j : Int) + 1)) f0 f1 f2 la g0 g1 g2 lb else some false) else none) else none) else some true := by
      funext k
      rw [mooringref24_Same.l0, rd_at hj2, rd_at hj3]
    cases hb : r
    · rw [hb] at hr hi
      refine ⟨false, Eve.succ ?_, ?_⟩
      · rw [e]
        exact Eve.if_pos (by omega) (Eve.if_pos (by omega) (Eve.if_pos (by omega) (Eve.bind hr (Eve.if_neg (by decide) (Eve.of fun _ => rfl)))))
      · rw [drop_at hj2, drop_at hj3]
        refine ⟨fun h => (by cases h), fun h => ?_⟩
        exact absurd (hi.2 (List.cons.inj h).1) (by decide)
    · rw [hb] at hr hi
      obtain ⟨s, hs, hsi⟩ := ih (j + 1) (by omega)
      refine ⟨s, Eve.succ ?_, ?_⟩
      · rw [e]
        refine Eve.if_pos (by omega) (Eve.if_pos (by omega) (Eve.if_pos (by omega) (Eve.bind hr (Eve.if_pos rfl ?_))))
        rw [wrap_nat (by omega)]
        exact hs
      · rw [drop_at hj2, drop_at hj3, hsi]
        have h1 := hi.1 rfl
        exact ⟨fun h => by rw [h1, h], fun h => (List.cons.inj h).2⟩
theorem bytes_inj {a b : ByteArray} : a.toList = b.toList ↔ a = b := by
  rw [Lib.toList_data, Lib.toList_data]
  exact ⟨fun h => ByteArray.ext (Array.toList_inj.1 h), fun h => by rw [h]⟩
theorem same_ev (v : V) (h : Sz v) : ∀ u, ∃ r, Eve (SameF v u) r ∧ (r = true ↔ v = u) := by
  induction v using V_ind with
  | h v ih =>
    intro u
    have hx : ∀ x ∈ v.f3, ∀ y, ∃ r, Eve (SameF x y) r ∧ (r = true ↔ x = y) := fun x hx y => ih x hx (h.inner x hx) y
    have hl := h.here.1
    obtain ⟨a0, a1, a2, a3⟩ := v
    obtain ⟨b0, b1, b2, b3⟩ := u
    have hne : ∀ {c : Prop} [Decidable c], ¬ c → ((S24.mk a0 a1 a2 a3 = S24.mk b0 b1 b2 b3) → c) → (false = true ↔ S24.mk a0 a1 a2 a3 = S24.mk b0 b1 b2 b3) := fun hc h => ⟨fun h => (by cases h), fun e => absurd (h e) hc⟩
    have bad : ∀ k, mooringref24_Same.j0 (k + 1) true a0 a1 a2 a3 b0 b1 b2 b3 = some false := fun k => by rw [mooringref24_Same.j0, if_pos rfl]
    by_cases h0 : a0 = b0
    · by_cases h1 : a1 = b1
      · by_cases h2 : a2.toList = b2.toList
        · by_cases h3 : a3.length = b3.length
          · obtain ⟨r, hr, hi⟩ := same_l hl h3 hx a0 a1 b0 b1 a2 b2 a3.length 0 (Nat.zero_add _)
            refine ⟨r, Eve.succ ?_, ?_⟩
            · show Eve (fun k => mooringref24_Same.f (k + 1) a0 a1 a2 a3 b0 b1 b2 b3) r
              have hh : ((a3.length : Int) != (b3.length : Int)) = false := by rw [h3]; simp
              simp only [mooringref24_Same.f, if_pos h0, if_pos h1, if_pos h2, hh]
              refine Eve.succ ?_
              simp only [mooringref24_Same.j0, Bool.false_eq_true, if_false]
              exact hr
            · rw [hi, List.drop_zero, List.drop_zero, h0, h1, bytes_inj.1 h2]
              exact ⟨fun e => congrArg (S24.mk b0 b1 b2) e, fun e => by injection e⟩
          · refine ⟨false, Eve.succ ?_, hne h3 (fun e => by injection e with _ _ _ e; rw [e])⟩
            show Eve (fun k => mooringref24_Same.f (k + 1) a0 a1 a2 a3 b0 b1 b2 b3) false
            have hh : ((a3.length : Int) != (b3.length : Int)) = true := by rw [bne_iff_ne]; omega
            simp only [mooringref24_Same.f, if_pos h0, if_pos h1, if_pos h2, hh]
            exact Eve.succ (Eve.of bad)
        · refine ⟨false, Eve.succ ?_, hne h2 (fun e => by injection e with _ _ e _; rw [e])⟩
          show Eve (fun k => mooringref24_Same.f (k + 1) a0 a1 a2 a3 b0 b1 b2 b3) false
          simp only [mooringref24_Same.f, if_pos h0, if_pos h1, if_neg h2]
          exact Eve.succ (Eve.of bad)
      · refine ⟨false, Eve.succ ?_, hne h1 (fun e => by injection e with _ e _ _)⟩
        show Eve (fun k => mooringref24_Same.f (k + 1) a0 a1 a2 a3 b0 b1 b2 b3) false
        simp only [mooringref24_Same.f, if_pos h0, if_neg h1]
        exact Eve.succ (Eve.of bad)
    · refine ⟨false, Eve.succ ?_, hne h0 (fun e => by injection e with e _ _ _)⟩
      show Eve (fun k => mooringref24_Same.f (k + 1) a0 a1 a2 a3 b0 b1 b2 b3) false
      simp only [mooringref24_Same.f, if_neg h0]
      exact Eve.succ (Eve.of bad)
open MeN
theorem same_calls (v u : V) (h : Sz v) (A B : Option Addr) (c d : Nat) (w : World) (hv : kV.C w A v.f3.length v.f3) (hvl : v.f3.length ≤ c) (hu : kV.C w B u.f3.length u.f3) (hul : u.f3.length ≤ d) :
    ∃ r, (r = true ↔ v = u) ∧ Calls Try.prog 12 #[.agg (aggV v A c), .agg (aggV u B d)] w fun e w' => e = .returned (.bool r) ∧ Below w.heap.size w w' := by
  obtain ⟨r, ⟨k, hk⟩, hi⟩ := same_ev v h u
  exact ⟨r, hi, mooringref24_Same.calls k _ _ _ A c _ _ _ _ B d _ r w hv hvl hu hul (hk k (Nat.le_refl _))⟩
theorem rmay_calls (v : V) (h : Sz v) (A : Option Addr) (c : Nat) (w : World) (hv : kV.C w A v.f3.length v.f3) (hvl : v.f3.length ≤ c) :
    Calls Try.prog 14 #[.agg (aggV v A c), .int .i64 16] w fun e w' => e = .returned (.bool (mayN 16 v)) ∧ Below w.heap.size w w' := by
  obtain ⟨k, hk⟩ := may_ev 16 (by decide) v h
  exact mooringref24_May.calls k _ _ _ A c _ _ _ w hv hvl (hk k (Nat.le_refl _))
theorem light_calls (v : V) (h : Sz v) (A : Option Addr) (c : Nat) (w : World) (hv : kV.C w A v.f3.length v.f3) (hvl : v.f3.length ≤ c) :
    ∃ r, Calls Try.prog 8 #[.agg (aggV v A c)] w fun e w' => e = .returned (.bool r) ∧ Below w.heap.size w w' := by
  obtain ⟨n, d, k, hk⟩ := size_any v h
  replace hk : mooringref24_Size.f k v.f0 v.f1 v.f2 v.f3 = some (wrap64 n, d) := hk k (Nat.le_refl _)
  have e : mooringlaw24_light.f k v.f0 v.f1 v.f2 v.f3 = some (if wrap64 n ≤ 2000 then decide (d ≤ 200) else false) := by
    unfold mooringlaw24_light.f
    rw [hk]
    show (if wrap64 n ≤ 2000 then some (decide (d ≤ 200)) else some false) = _
    split <;> rfl
  exact ⟨_, mooringlaw24_light.calls k _ _ _ A c _ _ w hv hvl e⟩
end Go.Proofs.Ytcilojakgnjjmaa.MeR
