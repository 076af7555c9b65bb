import Derived.Test.YtnpphmgibgfjoaaRows
import Derived.Test.YtnpphmgibgfjoaaWWords
import Derived.SizedLaws
import Derived.ChangeArms
import Derived.Deep.Slices
/- How an argument that is read as data is told by a kind of the words: what a row's proof needs of each type. -/
namespace Go.Proofs.Ytnpphmgibgfjoaa.Opns
open Go.RowKit Go.Proofs.YtnpphmgibgfjoaaW.PrintWords Go.Deep

theorem one_le {H : Type} (d : DataW H) : 1 ≤ Rows.uptoBulk d := by
  cases d with
  | lit l => cases l <;> simp [Rows.uptoBulk]
  | nil => simp [Rows.uptoBulk]
  | ptr d => simp [Rows.uptoBulk]
  | slice elems spare => simp [Rows.uptoBulk]
  | agg parts => simp [Rows.uptoBulk]
  | iface t d => simp [Rows.uptoBulk]
  | map entries => simp [Rows.uptoBulk]
  | held h => simp [Rows.uptoBulk]
theorem mem_all {H : Type} {P : Program} {e : TypeId} {x : DataW H} {n : Nat} : ∀ {xs : List (DataW H)}, x ∈ xs → n ∈ x.weights P e → n ∈ DataW.weightsAll P e xs
  | [], hx, _ => by cases hx
  | y :: r, hx, hn => by
    simp only [DataW.weightsAll, List.mem_append]
    rcases List.mem_cons.1 hx with rfl | hx
    · exact .inl hn
    · exact .inr (mem_all hx hn)

/-- What is read at type t is of kind d: good, and of no more bulk than its reading. -/
structure Opens {α : Type} (t : TypeId) (d : Kd α) (good : α → Prop) (bulk : α → Nat) : Prop where
  out : ∀ {H : Type} (enc : TypeId × Value → H) (w : World) (fuel : Nat) (cs : List Value) (y : DataW H) (ps : List MemPlace),
    DataW.trod enc Try.prog w 0 (fun _ => true) true fuel t cs = some (y, ps) → (∀ m ∈ y.weights Try.prog t, m ≤ reachBytes) → ∃ x, d.K w x cs ∧ good x ∧ bulk x ≤ Rows.uptoBulk y

theorem Opens.imp {α : Type} {t : TypeId} {d : Kd α} {good good' : α → Prop} {bulk bulk' : α → Nat} (h : Opens t d good bulk) (hg : ∀ x, good x → good' x) (hb : ∀ x, bulk' x ≤ bulk x) : Opens t d good' bulk' := by
  refine ⟨?_⟩
  intro H enc w fuel cs y ps h1 hw
  obtain ⟨x, a, b, c⟩ := h.out enc w fuel cs y ps h1 hw
  exact ⟨x, a, hg x b, Nat.le_trans (hb x) c⟩
theorem opens_int {t : TypeId} {k : IntKind} (ht : Try.prog.underlying t = some (.int k)) : Opens t (Kd.int k) (fun n => (Lit.int k n).wf = true) (fun _ => 1) := by
  refine ⟨?_⟩
  intro H enc w fuel cs y ps h _
  obtain ⟨n, rfl, hx, hw⟩ := DataW.trod_int ht h
  exact ⟨n, rfl, hw, one_le _⟩
theorem opens_bool {t : TypeId} (ht : Try.prog.underlying t = some .bool) : Opens t Kd.bool (fun _ => True) (fun _ => 1) := by
  refine ⟨?_⟩
  intro H enc w fuel cs y ps h _
  obtain ⟨n, rfl, hx⟩ := DataW.trod_bool ht h
  exact ⟨n, rfl, trivial, one_le _⟩
theorem opens_string {t : TypeId} (ht : Try.prog.underlying t = some .string) : Opens t Kd.string (fun s => s.size ≤ reachBytes) (fun s => s.size + 1) := by
  refine ⟨?_⟩
  intro H enc w fuel cs y ps h hw
  obtain ⟨n, rfl, hx, _⟩ := DataW.trod_string ht h
  obtain ⟨rfl, rfl⟩ := Prod.mk.inj hx
  refine ⟨n, rfl, ?_, ?_⟩
  · have := hw n.data.toList.length (by simp [DataW.weights])
    rwa [data_length] at this
  · simp only [Rows.uptoBulk]
    rw [data_length]
    exact Nat.le_refl _
def lbulk {α : Type} (b : α → Nat) (xs : List α) : Nat := (xs.map b).foldr (· + ·) 0
theorem lbulk_cons {α : Type} (b : α → Nat) (x : α) (xs : List α) : lbulk b (x :: xs) = b x + lbulk b xs := rfl
theorem lbulk_ge {α : Type} (b : α → Nat) {x : α} {xs : List α} (h : x ∈ xs) : b x ≤ lbulk b xs := by
  induction xs with
  | nil => cases h
  | cons y r ih =>
    rw [lbulk_cons]
    rcases List.mem_cons.1 h with rfl | h
    · omega
    · have := ih h; omega
theorem lbulk_len {α : Type} (b : α → Nat) (hb : ∀ x, 1 ≤ b x) (xs : List α) : xs.length ≤ lbulk b xs := by
  induction xs with
  | nil => simp
  | cons y r ih => rw [lbulk_cons, List.length_cons]; have := hb y; omega
theorem lbulk_le {α : Type} {H : Type} (b : α → Nat) : ∀ (xs : List α) (ys : List (DataW H)), xs.length = ys.length → (∀ (i : Nat) (x : α) (y : DataW H), xs[i]? = some x → ys[i]? = some y → b x ≤ Rows.uptoBulk y) → lbulk b xs ≤ Rows.uptoBulkAll ys
  | [], _, _, _ => by simp [lbulk]
  | x :: xs, [], h, _ => by simp at h
  | x :: xs, y :: ys, h, k => by
    rw [lbulk_cons]
    simp only [Rows.uptoBulkAll]
    have h1 := k 0 x y rfl rfl
    have h2 := lbulk_le b xs ys (by simpa using h) (fun i a c ha hc => k (i + 1) a c (by simpa using ha) (by simpa using hc))
    omega
theorem opens_slice {α : Type} [Inhabited α] {t e : TypeId} {d : Kd α} {good : α → Prop} {bulk : α → Nat} {B : Nat} (ht : Try.prog.underlying t = some (.slice e)) (hc : Try.prog.cellsOf e = d.sz) (hB : Try.prog.bytesOf e = B) (he : Opens e d good bulk) :
    Opens t (Kd.slice e d) (fun xs => (∀ x ∈ xs, good x) ∧ xs.length * B ≤ reachBytes) (fun xs => lbulk bulk xs + 1) := by
  refine ⟨?_⟩
  intro H enc w fuel cs y ps h hw
  rcases open_slice ht h with ⟨rfl, hx⟩ | ⟨a, len, cap, m, n, D, Pl, rfl, _, hl, hm, hmm, hx, hel⟩
  · obtain ⟨rfl, rfl⟩ := Prod.mk.inj hx
    exact ⟨[], ⟨none, 0, rfl, Nat.le_refl _, rfl, Nat.zero_le _, fun h0 => absurd h0 (Nat.lt_irrefl 0)⟩, ⟨fun x hx => (List.not_mem_nil hx).elim, by show ([] : List α).length * B ≤ _; rw [List.length_nil, Nat.zero_mul]; exact Nat.zero_le _⟩, one_le _⟩
  · have e1 : y = _ := congrArg Prod.fst hx
    clear hx
    subst e1
    have hlm : len ≤ m := by rw [hmm]; exact hl
    have hws : ∀ i, i < len → ∀ q ∈ (D i).weights Try.prog e, q ≤ reachBytes := by
      intro i hi q hq
      refine hw q ?_
      simp only [DataW.weights, ht, List.mem_cons, List.mem_append]
      exact .inr (.inl (mem_all (List.mem_map.2 ⟨i, List.mem_range.2 hi, rfl⟩) hq))
    obtain ⟨X, hX⟩ := choose_lt (α := α) (n := len) (p := fun i x => ∃ cs', w.cells? 0 (a.add (i * Try.prog.cellsOf e)) (Try.prog.cellsOf e) = some cs' ∧ d.K w x cs' ∧ good x ∧ bulk x ≤ Rows.uptoBulk (D i)) (fun i hi => by
      obtain ⟨cs', h1, h2⟩ := hel i (by omega)
      obtain ⟨x, h3, h4, h5⟩ := he.out enc w n cs' (D i) (Pl i) h2 (hws i hi)
      exact ⟨x, cs', h1, h3, h4, h5⟩)
    have hlen : ((List.range len).map X).length = len := by simp
    refine ⟨(List.range len).map X, ⟨some a, cap, by rw [hlen], by rw [hlen]; exact hl, hlen.trans hlen.symm, by rw [hlen]; unfold maxLen at hm; omega, fun _ => ⟨a, rfl, fun j p hj => ?_⟩⟩, ⟨fun x hx => ?_, ?_⟩, ?_⟩
    · have hj' : j < len := by
        have := (List.getElem?_eq_some_iff.1 hj).1
        simpa using this
      obtain ⟨cs', h1, h3, _, _⟩ := hX j hj'
      have hp : p = X j := by simp [hj'] at hj; exact hj.symm
      subst hp
      obtain ⟨_, hcl, hcell⟩ := World.cells?_some h1
      rw [hc] at hcl hcell
      refine ⟨cs', hcl, h3, fun i u hu => ?_⟩
      have hi : i < d.sz := by rw [← hcl]; exact (List.getElem?_eq_some_iff.1 hu).1
      have := hcell i hi
      rw [hu, Go.Deep.add_add] at this
      exact this
    · obtain ⟨i, hi, rfl⟩ := List.mem_map.1 hx
      exact (hX i (List.mem_range.1 hi)).choose_spec.2.2.1
    · rw [hlen]
      have := hw ((((List.range len).map D).length + ((List.range (m - len)).map fun j => D (len + j)).length) * Try.prog.bytesOf e) (by simp only [DataW.weights, ht]; exact List.mem_cons_self)
      rw [hB] at this
      refine Nat.le_trans (Nat.mul_le_mul_right _ ?_) this
      simp
    · have := lbulk_le (H := H) bulk ((List.range len).map X) ((List.range len).map D) (by simp) (fun i x y hx hy => by
        have hi : i < len := by
          have := (List.getElem?_eq_some_iff.1 hx).1
          simpa using this
        simp [hi] at hx hy
        rw [← hx, ← hy]
        exact (hX i hi).choose_spec.2.2.2)
      simp only [Rows.uptoBulk]
      omega
/-- Fields in line, from a place on. -/
structure OpensF {α : Type} (fs : List Field) (off : Nat) (d : Kd α) (good : α → Prop) (bulk : α → Nat) : Prop where
  out : ∀ {H : Type} (enc : TypeId × Value → H) (w : World) (n : Nat) (cs : List Value) (xs : List (DataW H × List MemPlace)), cs.length = off + d.sz → xs.length = fs.length →
    (∀ (i : Nat) (f : Field), fs[i]? = some f → DataW.trod enc Try.prog w 0 (fun _ => true) true n f.type ((cs.drop f.offset).take (Try.prog.cellsOf f.type)) = xs[i]?) →
    (∀ m ∈ DataW.weightsEach Try.prog (fs.map (·.type)) (xs.map (·.1)), m ≤ reachBytes) → ∃ x, d.K w x (cs.drop off) ∧ good x ∧ bulk x ≤ Rows.uptoBulkAll (xs.map (·.1))
theorem opensF_one {α : Type} {f : Field} {d : Kd α} {good : α → Prop} {bulk : α → Nat} (hc : Try.prog.cellsOf f.type = d.sz) (he : Opens f.type d good bulk) : OpensF [f] f.offset d good bulk := by
  refine ⟨?_⟩
  intro H enc w n cs xs hl hxl hx hw
  obtain ⟨⟨y, ps⟩, rfl⟩ : ∃ x, xs = [x] := by
    match xs, hxl with
    | [x], _ => exact ⟨x, rfl⟩
  have h1 := hx 0 f rfl
  have hcut : (cs.drop f.offset).take (Try.prog.cellsOf f.type) = cs.drop f.offset := List.take_of_length_le (by rw [List.length_drop, hc]; omega)
  rw [hcut] at h1
  obtain ⟨x, k1, k2, k3⟩ := he.out enc w n _ y ps h1 (fun m hm => hw m (by simp [DataW.weightsEach]; exact hm))
  exact ⟨x, k1, k2, by simp only [List.map_cons, List.map_nil, Rows.uptoBulkAll]; omega⟩
theorem opensF_cons {α β : Type} {f : Field} {fs : List Field} {off : Nat} {d : Kd α} {d2 : Kd β} {good : α → Prop} {good2 : β → Prop} {bulk : α → Nat} {bulk2 : β → Nat} (hc : Try.prog.cellsOf f.type = d.sz) (ho : off = f.offset + d.sz)
    (he : Opens f.type d good bulk) (hf : OpensF fs off d2 good2 bulk2) : OpensF (f :: fs) f.offset (Kd.pair d d2) (fun x => good x.1 ∧ good2 x.2) (fun x => bulk x.1 + bulk2 x.2) := by
  refine ⟨?_⟩
  intro H enc w n cs xs hl hxl hx hw
  obtain ⟨⟨y, ps⟩, r, rfl⟩ : ∃ x r, xs = x :: r := by
    match xs, hxl with
    | x :: r, _ => exact ⟨x, r, rfl⟩
  have hl' : cs.length = f.offset + (d.sz + d2.sz) := hl
  have h1 := hx 0 f rfl
  rw [hc] at h1
  obtain ⟨x, k1, k2, k3⟩ := he.out enc w n _ y ps h1 (fun m hm => hw m (by simp only [List.map_cons, DataW.weightsEach, List.mem_append]; exact .inl hm))
  obtain ⟨x2, j1, j2, j3⟩ := hf.out enc w n cs r (by omega) (by simpa using hxl) (fun i g hg => by have := hx (i + 1) g (by simpa using hg); simpa using this)
    (fun m hm => hw m (by simp only [List.map_cons, DataW.weightsEach, List.mem_append]; exact .inr hm))
  refine ⟨(x, x2), ⟨_, _, ?_, k1, j1⟩, ⟨k2, j2⟩, by simp only [List.map_cons, Rows.uptoBulkAll]; omega⟩
  rw [ho, ← List.drop_drop]
  exact (List.take_append_drop d.sz (cs.drop f.offset)).symm
theorem opens_struct {α β : Type} {t : TypeId} {fs : Array Field} {d : Kd α} {good : α → Prop} {bulk : α → Nat} {g : β → α} {gi : α → β} (hg : ∀ x, g (gi x) = x) (ht : Try.prog.underlying t = some (.struct fs)) (hc : Try.prog.cellsOf t = d.sz)
    (hf : OpensF fs.toList 0 d good bulk) : Opens t (Kd.iso d g) (fun x => good (g x)) (fun x => bulk (g x) + 1) := by
  refine ⟨?_⟩
  intro H enc w fuel cs y ps h hw
  obtain ⟨xs, n, rfl, hx, hl, hxl, hel⟩ := DataW.trod_struct ht h
  obtain ⟨rfl, rfl⟩ := Prod.mk.inj hx
  obtain ⟨x, k1, k2, k3⟩ := hf.out enc w n cs xs (by rw [hl, hc]; omega) (by simpa using hxl) (fun i f hi => hel i f (by simpa using hi)) (fun m hm => hw m (by simp only [DataW.weights, ht]; exact hm))
  refine ⟨gi x, ?_, by show good (g (gi x)); rw [hg]; exact k2, by show bulk (g (gi x)) + 1 ≤ _; rw [hg]; simp only [Rows.uptoBulk]; omega⟩
  show d.K w (g (gi x)) cs
  rw [hg]
  exact k1
theorem two_of {α : Type} : ∀ {xs : List α}, xs.length = 2 → ∃ a b, xs = [a, b]
  | [a, b], _ => ⟨a, b, rfl⟩
  | [], h => by simp at h
  | [_], h => by simp at h
  | _ :: _ :: _ :: _, h => by simp at h
/-- An array of two. -/
theorem opens_array2 {α : Type} {t e : TypeId} {d : Kd α} {good : α → Prop} {bulk : α → Nat} (ht : Try.prog.underlying t = some (.array 2 e)) (hc : Try.prog.cellsOf t = d.sz + d.sz) (he : Try.prog.cellsOf e = d.sz)
    (h1 : Opens e d good bulk) : Opens t (Kd.pair d d) (fun x => good x.1 ∧ good x.2) (fun x => bulk x.1 + bulk x.2 + 1) := by
  refine ⟨?_⟩
  intro H enc w fuel cs y ps h hw
  cases fuel with
  | zero => simp [DataW.trod] at h
  | succ m =>
    unfold DataW.trod at h
    rw [ht] at h
    simp only at h
    split at h
    · rename_i hl
      obtain ⟨xs, hxs, hx⟩ := Option.map_eq_some_iff.1 h
      have e1 := (congrArg Prod.fst hx).symm
      clear hx
      subst e1
      have hlen := mapM_some_length hxs
      have g0 := mapM_some_get hxs 0 0 rfl
      have g1 := mapM_some_get hxs 1 1 rfl
      obtain ⟨⟨y0, p0⟩, ⟨y1, p1⟩, rfl⟩ := two_of (xs := xs) (by simpa using hlen)
      rw [hc] at hl
      rw [he, Nat.zero_mul] at g0
      rw [he, Nat.one_mul] at g1
      simp only [DataW.weights, ht, DataW.weightsAll, List.map_cons, List.map_nil, List.mem_append] at hw
      obtain ⟨x0, a1, a2, a3⟩ := h1.out enc w m _ y0 p0 g0 (fun q hq => hw q (.inl hq))
      obtain ⟨x1, b1, b2, b3⟩ := h1.out enc w m _ y1 p1 g1 (fun q hq => hw q (.inr (.inl hq)))
      rw [List.take_of_length_le (by rw [List.length_drop]; omega)] at b1
      refine ⟨(x0, x1), ⟨_, _, ?_, a1, b1⟩, ⟨a2, b2⟩, by simp only [Rows.uptoBulk, List.map_cons, List.map_nil, Rows.uptoBulkAll]; omega⟩
      exact (List.take_append_drop d.sz cs).symm
    · cases h
end Go.Proofs.Ytnpphmgibgfjoaa.Opns
namespace Go.Proofs.Ytnpphmgibgfjoaa.Opns
open Go.RowKit Go.Proofs.YtnpphmgibgfjoaaW.PrintWords Go.Deep
theorem okw_struct {P : Program} {w : World} {r : Reach} {base : Nat} {t : TypeId} {v : Value} {fs : Array Field} (ht : P.underlying t = some (.struct fs)) (h : Value.okWide P w r base t v) : ∃ cs, v = .agg cs := by
  simp only [Value.okWide, ht] at h
  obtain ⟨cs, rfl, _⟩ := h
  exact ⟨cs, rfl⟩
theorem okw_array {P : Program} {w : World} {r : Reach} {base : Nat} {t e : TypeId} {n : Nat} {v : Value} (ht : P.underlying t = some (.array n e)) (h : Value.okWide P w r base t v) : ∃ cs, v = .agg cs := by
  simp only [Value.okWide, ht] at h
  obtain ⟨cs, rfl, _⟩ := h
  exact ⟨cs, rfl⟩
section
variable {H : Type} {enc : TypeId × Value → H} {W : World} {t : TypeId} {y : DataW H} {ps : List MemPlace}
theorem arg_slice {α : Type} {e : TypeId} {d : Kd α} {good : List α → Prop} {bulk : List α → Nat} {a : Option Addr} {len cap : Nat} (ho : Opens t (Kd.slice e d) good bulk)
    (h : DataW.Trod enc Try.prog W 0 (fun _ => true) true t (.slice a len cap) y ps) (hw : ∀ m ∈ y.weights Try.prog t, m ≤ reachBytes) :
    ∃ x : List α, len = x.length ∧ x.length ≤ cap ∧ d.C W a x.length x ∧ good x ∧ bulk x ≤ Rows.uptoBulk y := by
  obtain ⟨fuel, hf⟩ := h
  obtain ⟨x, hk, hg, hb⟩ := ho.out enc W fuel _ y ps hf hw
  obtain ⟨A, c, he, hl, hc⟩ := hk
  have he' : [Value.slice a len cap] = [.slice A x.length c] := he
  injection he' with he' _
  injection he' with h1 h2 h3
  subst h1 h2 h3
  exact ⟨x, rfl, hl, hc, hg, hb⟩
theorem arg_agg {α : Type} {d : Kd α} {good : α → Prop} {bulk : α → Nat} {cs : Array Value} (ho : Opens t d good bulk)
    (h : DataW.Trod enc Try.prog W 0 (fun _ => true) true t (.agg cs) y ps) (hw : ∀ m ∈ y.weights Try.prog t, m ≤ reachBytes) :
    ∃ x : α, d.K W x cs.toList ∧ good x ∧ bulk x ≤ Rows.uptoBulk y := by
  obtain ⟨fuel, hf⟩ := h
  exact ho.out enc W fuel _ y ps hf hw
theorem weigh {ts : List TypeId} {ds : List (DataW H)} {j : Nat} (hsz : (DataW.weightsEach Try.prog ts ds).all (· ≤ reachBytes) = true) (ht : ts[j]? = some t) (hd : ds[j]? = some y) : ∀ m ∈ y.weights Try.prog t, m ≤ reachBytes := by
  intro m hm
  have := List.all_eq_true.1 hsz m (DataW.weights_mem_each ht hd m hm)
  exact of_decide_eq_true this
theorem bulk_mem {ds : List (DataW H)} {j : Nat} (hk : Rows.uptoSmall H ds = true) (hd : ds[j]? = some y) : Rows.uptoBulk y ≤ 1048576 := by
  have h : Rows.uptoBulkAll ds ≤ 1048576 := of_decide_eq_true hk
  have : ∀ (l : List (DataW H)) (j : Nat), l[j]? = some y → Rows.uptoBulk y ≤ Rows.uptoBulkAll l := by
    intro l
    induction l with
    | nil => intro j h; simp at h
    | cons x r ih =>
      intro j h
      simp only [Rows.uptoBulkAll]
      cases j with
      | zero => obtain rfl := Option.some.inj h; omega
      | succ j => have := ih j (by simpa using h); omega
  exact Nat.le_trans (this ds j hd) h
end
end Go.Proofs.Ytnpphmgibgfjoaa.Opns
