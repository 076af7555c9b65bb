import Derived.Test.YtfikaekocgofoaaRows
import Derived.Test.YtfikaekocgofoaaJWWords
import Derived.SizedLaws
import Derived.ChangeArms
import Derived.Deep.Slices
import Derived.ArgAppend
import Derived.Test.YtfikaekocgofoaaProg
import Derived.WalkKit
import Derived.WalkSpells
import Derived.Lib.Hide
import Derived.Deep.DeepMust
import Derived.BigQuiet
import Derived.Deep.RegionWith
import Derived.WalkLawsBesides
import Derived.Lib.LazyBuf
import Derived.Great.Walk
import Derived.Test.YtfikaekocgofoaaJPAllx0
import Derived.Deep.RegionHeld3
import Derived.Lib.QuietBelow
import Derived.IntWalk
import Derived.Maps.OwnOps
import Derived.Maps.OwnSet
import Derived.Maps.Views
/- Merged texts, one behind the other: Open, Mem, WireP, UvW, Put, RdW, AtA. -/
/- How an argument that is read as data is told by a kind of the words: what a row's proof needs of each type. -/
namespace Go.Proofs.Ytfikaekocgofoaa.Opns
open Go.RowKit Go.Proofs.YtfikaekocgofoaaW.PrintWords Go.Deep

theorem one_le {H : Type} (d : DataW H) : 1 ≤ Rows.uptoBulk d := by
  cases d with
  | lit l => cases l <;> simp [Rows.uptoBulk]
  | nil => simp [Rows.uptoBulk]
  | ptr d => simp [Rows.uptoBulk]
  | slice elems spare => simp [Rows.uptoBulk]
  | agg parts => simp [Rows.uptoBulk]
  | iface t d => simp [Rows.uptoBulk]
  | map entries => simp [Rows.uptoBulk]
  | held h => simp [Rows.uptoBulk]
theorem mem_all {H : Type} {P : Program} {e : TypeId} {x : DataW H} {n : Nat} : ∀ {xs : List (DataW H)}, x ∈ xs → n ∈ x.weights P e → n ∈ DataW.weightsAll P e xs
  | [], hx, _ => by cases hx
  | y :: r, hx, hn => by
    simp only [DataW.weightsAll, List.mem_append]
    rcases List.mem_cons.1 hx with rfl | hx
    · exact .inl hn
    · exact .inr (mem_all hx hn)

/-- What is read at type t is of kind d: good, and of no more bulk than its reading. -/
structure Opens {α : Type} (t : TypeId) (d : Kd α) (good : α → Prop) (bulk : α → Nat) : Prop where
  out : ∀ {H : Type} (enc : TypeId × Value → H) (w : World) (fuel : Nat) (cs : List Value) (y : DataW H) (ps : List MemPlace),
    DataW.trod enc Try.prog w 0 (fun _ => true) true fuel t cs = some (y, ps) → (∀ m ∈ y.weights Try.prog t, m ≤ reachBytes) → ∃ x, d.K w x cs ∧ good x ∧ bulk x ≤ Rows.uptoBulk y

theorem opens_int {t : TypeId} {k : IntKind} (ht : Try.prog.underlying t = some (.int k)) : Opens t (Kd.int k) (fun n => (Lit.int k n).wf = true) (fun _ => 1) := by
  refine ⟨?_⟩
  intro H enc w fuel cs y ps h _
  obtain ⟨n, rfl, hx, hw⟩ := DataW.trod_int ht h
  exact ⟨n, rfl, hw, one_le _⟩
def lbulk {α : Type} (b : α → Nat) (xs : List α) : Nat := (xs.map b).foldr (· + ·) 0
theorem lbulk_cons {α : Type} (b : α → Nat) (x : α) (xs : List α) : lbulk b (x :: xs) = b x + lbulk b xs := rfl
theorem lbulk_le {α : Type} {H : Type} (b : α → Nat) : ∀ (xs : List α) (ys : List (DataW H)), xs.length = ys.length → (∀ (i : Nat) (x : α) (y : DataW H), xs[i]? = some x → ys[i]? = some y → b x ≤ Rows.uptoBulk y) → lbulk b xs ≤ Rows.uptoBulkAll ys
  | [], _, _, _ => by simp [lbulk]
  | x :: xs, [], h, _ => by simp at h
  | x :: xs, y :: ys, h, k => by
    rw [lbulk_cons]
    simp only [Rows.uptoBulkAll]
    have h1 := k 0 x y rfl rfl
    have h2 := lbulk_le b xs ys (by simpa using h) (fun i a c ha hc => k (i + 1) a c (by simpa using ha) (by simpa using hc))
    omega
theorem opens_slice {α : Type} [Inhabited α] {t e : TypeId} {d : Kd α} {good : α → Prop} {bulk : α → Nat} {B : Nat} (ht : Try.prog.underlying t = some (.slice e)) (hc : Try.prog.cellsOf e = d.sz) (hB : Try.prog.bytesOf e = B) (he : Opens e d good bulk) :
    Opens t (Kd.slice e d) (fun xs => (∀ x ∈ xs, good x) ∧ xs.length * B ≤ reachBytes) (fun xs => lbulk bulk xs + 1) := by
  refine ⟨?_⟩
  intro H enc w fuel cs y ps h hw
  rcases open_slice ht h with ⟨rfl, hx⟩ | ⟨a, len, cap, m, n, D, Pl, rfl, _, hl, hm, hmm, hx, hel⟩
  · obtain ⟨rfl, rfl⟩ := Prod.mk.inj hx
    exact ⟨[], ⟨none, 0, rfl, Nat.le_refl _, rfl, Nat.zero_le _, fun h0 => absurd h0 (Nat.lt_irrefl 0)⟩, ⟨fun x hx => (List.not_mem_nil hx).elim, by show ([] : List α).length * B ≤ _; rw [List.length_nil, Nat.zero_mul]; exact Nat.zero_le _⟩, one_le _⟩
  · have e1 : y = _ := congrArg Prod.fst hx
    clear hx
    subst e1
    have hlm : len ≤ m := by rw [hmm]; exact hl
    have hws : ∀ i, i < len → ∀ q ∈ (D i).weights Try.prog e, q ≤ reachBytes := by
      intro i hi q hq
      refine hw q ?_
      simp only [DataW.weights, ht, List.mem_cons, List.mem_append]
      exact .inr (.inl (mem_all (List.mem_map.2 ⟨i, List.mem_range.2 hi, rfl⟩) hq))
    obtain ⟨X, hX⟩ := choose_lt (α := α) (n := len) (p := fun i x => ∃ cs', w.cells? 0 (a.add (i * Try.prog.cellsOf e)) (Try.prog.cellsOf e) = some cs' ∧ d.K w x cs' ∧ good x ∧ bulk x ≤ Rows.uptoBulk (D i)) (fun i hi => by
      obtain ⟨cs', h1, h2⟩ := hel i (by omega)
      obtain ⟨x, h3, h4, h5⟩ := he.out enc w n cs' (D i) (Pl i) h2 (hws i hi)
      exact ⟨x, cs', h1, h3, h4, h5⟩)
    have hlen : ((List.range len).map X).length = len := by simp
    refine ⟨(List.range len).map X, ⟨some a, cap, by rw [hlen], by rw [hlen]; exact hl, hlen.trans hlen.symm, by rw [hlen]; unfold maxLen at hm; omega, fun _ => ⟨a, rfl, fun j p hj => ?_⟩⟩, ⟨fun x hx => ?_, ?_⟩, ?_⟩
    · have hj' : j < len := by
        have := (List.getElem?_eq_some_iff.1 hj).1
        simpa using this
      obtain ⟨cs', h1, h3, _, _⟩ := hX j hj'
      have hp : p = X j := by simp [hj'] at hj; exact hj.symm
      subst hp
      obtain ⟨_, hcl, hcell⟩ := World.cells?_some h1
      rw [hc] at hcl hcell
      refine ⟨cs', hcl, h3, fun i u hu => ?_⟩
      have hi : i < d.sz := by rw [← hcl]; exact (List.getElem?_eq_some_iff.1 hu).1
      have := hcell i hi
      rw [hu, Go.Deep.add_add] at this
      exact this
    · obtain ⟨i, hi, rfl⟩ := List.mem_map.1 hx
      exact (hX i (List.mem_range.1 hi)).choose_spec.2.2.1
    · rw [hlen]
      have := hw ((((List.range len).map D).length + ((List.range (m - len)).map fun j => D (len + j)).length) * Try.prog.bytesOf e) (by simp only [DataW.weights, ht]; exact List.mem_cons_self)
      rw [hB] at this
      refine Nat.le_trans (Nat.mul_le_mul_right _ ?_) this
      simp
    · have := lbulk_le (H := H) bulk ((List.range len).map X) ((List.range len).map D) (by simp) (fun i x y hx hy => by
        have hi : i < len := by
          have := (List.getElem?_eq_some_iff.1 hx).1
          simpa using this
        simp [hi] at hx hy
        rw [← hx, ← hy]
        exact (hX i hi).choose_spec.2.2.2)
      simp only [Rows.uptoBulk]
      omega
/-- Fields in line, from a place on. -/
structure OpensF {α : Type} (fs : List Field) (off : Nat) (d : Kd α) (good : α → Prop) (bulk : α → Nat) : Prop where
  out : ∀ {H : Type} (enc : TypeId × Value → H) (w : World) (n : Nat) (cs : List Value) (xs : List (DataW H × List MemPlace)), cs.length = off + d.sz → xs.length = fs.length →
    (∀ (i : Nat) (f : Field), fs[i]? = some f → DataW.trod enc Try.prog w 0 (fun _ => true) true n f.type ((cs.drop f.offset).take (Try.prog.cellsOf f.type)) = xs[i]?) →
    (∀ m ∈ DataW.weightsEach Try.prog (fs.map (·.type)) (xs.map (·.1)), m ≤ reachBytes) → ∃ x, d.K w x (cs.drop off) ∧ good x ∧ bulk x ≤ Rows.uptoBulkAll (xs.map (·.1))
end Go.Proofs.Ytfikaekocgofoaa.Opns
namespace Go.Proofs.Ytfikaekocgofoaa.Opns
open Go.RowKit Go.Proofs.YtfikaekocgofoaaW.PrintWords Go.Deep
section
variable {H : Type} {enc : TypeId × Value → H} {W : World} {t : TypeId} {y : DataW H} {ps : List MemPlace}
theorem arg_slice {α : Type} {e : TypeId} {d : Kd α} {good : List α → Prop} {bulk : List α → Nat} {a : Option Addr} {len cap : Nat} (ho : Opens t (Kd.slice e d) good bulk)
    (h : DataW.Trod enc Try.prog W 0 (fun _ => true) true t (.slice a len cap) y ps) (hw : ∀ m ∈ y.weights Try.prog t, m ≤ reachBytes) :
    ∃ x : List α, len = x.length ∧ x.length ≤ cap ∧ d.C W a x.length x ∧ good x ∧ bulk x ≤ Rows.uptoBulk y := by
  obtain ⟨fuel, hf⟩ := h
  obtain ⟨x, hk, hg, hb⟩ := ho.out enc W fuel _ y ps hf hw
  obtain ⟨A, c, he, hl, hc⟩ := hk
  have he' : [Value.slice a len cap] = [.slice A x.length c] := he
  injection he' with he' _
  injection he' with h1 h2 h3
  subst h1 h2 h3
  exact ⟨x, rfl, hl, hc, hg, hb⟩
theorem weigh {ts : List TypeId} {ds : List (DataW H)} {j : Nat} (hsz : (DataW.weightsEach Try.prog ts ds).all (· ≤ reachBytes) = true) (ht : ts[j]? = some t) (hd : ds[j]? = some y) : ∀ m ∈ y.weights Try.prog t, m ≤ reachBytes := by
  intro m hm
  have := List.all_eq_true.1 hsz m (DataW.weights_mem_each ht hd m hm)
  exact of_decide_eq_true this
end
end Go.Proofs.Ytfikaekocgofoaa.Opns
namespace Go.Proofs.Ytfikaekocgofoaa.Mem
open Go.RowKit Go.Proofs.YtfikaekocgofoaaW.PrintWords

/-- A row of whole numbers (element type e) of the call's own. -/
def Ow (k : IntKind) (e : Nat) (w : World) (base : Nat) (v : Value) (xs : List Int) : Prop := (Kd.int k).R e w base (fun _ => True) v xs
/-- One to which an append makes a row of the call's own: it is that already, or it has no room. -/
def Ap (k : IntKind) (e : Nat) (w : World) (base : Nat) (v : Value) (xs : List Int) : Prop := Ow k e w base v xs ∨ ∃ A, v = .slice A xs.length xs.length ∧ (Kd.int k).C w A xs.length xs
theorem Ow.below {k : IntKind} {e : Nat} {w w1 : World} {base : Nat} {v : Value} {xs : List Int} (h : Ow k e w base v xs) (hb : Below w.heap.size w w1) : Ow k e w1 base v xs := Kd.R_below h hb
theorem Ow.lower {k : IntKind} {e : Nat} {w : World} {base base' : Nat} {v : Value} {xs : List Int} (h : Ow k e w base v xs) (hb : base' ≤ base) : Ow k e w base' v xs := Kd.R_lower h hb
theorem Ow.reads {k : IntKind} {e : Nat} {w : World} {base : Nat} {v : Value} {xs : List Int} (h : Ow k e w base v xs) : ∃ A c, v = .slice A xs.length c ∧ xs.length ≤ c ∧ (Kd.int k).C w A xs.length xs := Kd.R_reads h
theorem Ow.nil (k : IntKind) (e : Nat) (w : World) (base : Nat) : Ow k e w base (.slice none 0 0) [] := Kd.R_nil _ _ _ _ _
theorem Ap.slice {k : IntKind} {e : Nat} {w : World} {base : Nat} {v : Value} {xs : List Int} (h : Ap k e w base v xs) : ∃ A c, v = .slice A xs.length c ∧ xs.length ≤ c := by
  rcases h with h | ⟨A, rfl, _⟩
  · obtain ⟨A, c, rfl, hc, _⟩ := Ow.reads h; exact ⟨A, c, rfl, hc⟩
  · exact ⟨A, _, rfl, Nat.le_refl _⟩
theorem Ap.below {k : IntKind} {e : Nat} {w w1 : World} {base : Nat} {v : Value} {xs : List Int} (h : Ap k e w base v xs) (hb : Below w.heap.size w w1) : Ap k e w1 base v xs := by
  rcases h with h | ⟨A, rfl, hC⟩
  · exact .inl (h.below hb)
  · exact .inr ⟨A, rfl, Kd.C_below hC hb⟩
theorem Ap.alloc {k : IntKind} {e : Nat} {w : World} {base : Nat} {v : Value} {xs : List Int} (h : Ap k e w base v xs) (o : Obj) : Ap k e (w.alloc o) base v xs := h.below (below_alloc (Below.refl _ _) o)
section
variable {P : Program} {ops : Array Oper} {rest : List Oper} {o : Oper} {a : Act} {Q : Exit → Act → World → Prop}
end
/-- The cells of an owned row. -/
theorem Ow.cells {k : IntKind} {e : Nat} {w : World} {base : Nat} {v : Value} {xs : List Int} (h : Ow k e w base v xs) (hp : 0 < xs.length) : ∃ g cap, v = .slice (some ⟨g, 0, none⟩) xs.length cap ∧ xs.length ≤ cap ∧ base ≤ g ∧ g < w.heap.size ∧ ∀ i x, xs[i]? = some x → w.cell? ⟨g, i, none⟩ = some (.int k x) := by
  obtain ⟨g, cap, rfl, hb, hl, _⟩ := Kd.R_form h hp
  obtain ⟨_, hc, hC⟩ := Kd.R_reads' h
  refine ⟨g, cap, rfl, hc, hb, hl, fun i x hx => ?_⟩
  have hr : ReadsOf (Value.int k) (0 : Int) w (some ⟨g, 0, none⟩) xs.length xs := Kd.reads_of_C hC
  have hi : i < xs.length := (List.getElem?_eq_some_iff.1 hx).1
  obtain ⟨ad, e, hcell⟩ := hr.2.2 hp
  injection e with e
  subst e
  have := hcell i hi
  rw [List.getD_eq_getElem?_getD, hx] at this
  rw [show (⟨g, 0, none⟩ : Addr).add i = ⟨g, i, none⟩ by unfold Addr.add; split <;> simp_all] at this
  exact this
end Go.Proofs.Ytfikaekocgofoaa.Mem
/- The bytes of numbers. -/
namespace Go.Proofs.Ytfikaekocgofoaa.WireP
/-- A number's bytes, little-endian, seven bits each. -/
def uv (n : Nat) : List Int := if n < 128 then [(n : Int)] else (((n % 128 : Nat) : Int) + 128) :: uv (n / 128)
termination_by n
theorem uv_lt {n : Nat} (h : n < 128) : uv n = [(n : Int)] := by rw [uv, if_pos h]
theorem uv_ge {n : Nat} (h : 128 ≤ n) : uv n = (((n % 128 : Nat) : Int) + 128) :: uv (n / 128) := by rw [uv, if_neg (by omega)]
theorem uv_pos (n : Nat) : 0 < (uv n).length := by
  rw [uv]
  split <;> simp
theorem uv_len (k n : Nat) (h : n < 128 ^ k) (hk : 0 < k) : (uv n).length ≤ k := by
  induction k generalizing n with
  | zero => omega
  | succ k ih =>
    rcases Nat.lt_or_ge n 128 with h1 | h1
    · rw [uv_lt h1]; simp
    · rw [uv_ge h1]
      have hk : 0 < k := by
        rcases Nat.eq_zero_or_pos k with rfl | h2
        · simp at h; omega
        · exact h2
      have := ih (n / 128) (by rw [Nat.pow_succ] at h; omega) hk
      simp; omega
theorem uv_len10 {n : Nat} (h : n < 18446744073709551616) : (uv n).length ≤ 10 := uv_len 10 n (by omega) (by omega)
end Go.Proofs.Ytfikaekocgofoaa.WireP
namespace Go.Proofs.Ytfikaekocgofoaa.WireP
theorem uv_first {q : Nat} {c : Int} {t : List Int} (h : uv q <+: c :: t) : (q < 128 ∧ c = q) ∨ (128 ≤ q ∧ c = ((q % 128 : Nat) : Int) + 128 ∧ uv (q / 128) <+: t) := by
  rcases Nat.lt_or_ge q 128 with h1 | h1
  · rw [uv_lt h1, List.cons_prefix_cons] at h
    exact .inl ⟨h1, h.1.symm⟩
  · rw [uv_ge h1, List.cons_prefix_cons] at h
    exact .inr ⟨h1, h.1.symm, h.2⟩
/-- What is the next number, and how many bytes it has. -/
def PkOk (ys : List Int) (n k : Nat) : Prop := (0 < k ∧ n < 18446744073709551616 ∧ uv n <+: ys ∧ k = (uv n).length) ∨ (n = 0 ∧ k = 0 ∧ ∀ m, m < 18446744073709551616 → ¬ uv m <+: ys)
structure PkI (ys : List Int) (k acc : Nat) : Prop where
  k9 : k ≤ 9
  lt : acc < 128 ^ k
  len : k ≤ ys.length
  up : ∀ m, 1 ≤ m → uv (acc + m * 128 ^ k) = ys.take k ++ uv m
  any : ∀ m, m < 18446744073709551616 → uv m <+: ys → ∃ q, m = acc + q * 128 ^ k ∧ uv m = ys.take k ++ uv q ∧ (0 < k → 1 ≤ q)
theorem pkI_start (ys : List Int) : PkI ys 0 0 := ⟨by omega, by simp, by omega, fun m _ => by simp, fun m _ _ => ⟨m, by simp, by simp, by omega⟩⟩
theorem pk_rest {ys : List Int} {k q : Nat} (h : ys.take k ++ uv q <+: ys) : uv q <+: ys.drop k := by
  have e : ys = ys.take k ++ ys.drop k := (List.take_append_drop k ys).symm
  have h2 : ys.take k ++ uv q <+: ys.take k ++ ys.drop k := e ▸ h
  exact (List.prefix_append_right_inj _).1 h2
theorem drop_at {ys : List Int} {k : Nat} {c : Int} (h : ys[k]? = some c) : ys.drop k = c :: ys.drop (k + 1) := by
  have hk := (List.getElem?_eq_some_iff.1 h).1
  rw [List.drop_eq_getElem_cons hk, (List.getElem?_eq_some_iff.1 h).2]
theorem take_at {ys : List Int} {k : Nat} {c : Int} (h : ys[k]? = some c) : ys.take (k + 1) = ys.take k ++ [c] := by rw [List.take_add_one, h]; rfl
theorem pkI_more {ys : List Int} {k acc : Nat} {c : Nat} (h : PkI ys k acc) (hk : k ≤ 8) (hc : ys[k]? = some (c : Int)) (h1 : 128 ≤ c) (h2 : c < 256) : PkI ys (k + 1) (acc + (c % 128) * 128 ^ k) := by
  have e1 : c % 128 = c - 128 := by omega
  have hp : 128 ^ (k + 1) = 128 ^ k * 128 := Nat.pow_succ ..
  refine ⟨by omega, ?_, ?_, ?_, ?_⟩
  · have h3 := h.lt
    have : c % 128 * 128 ^ k ≤ 127 * 128 ^ k := Nat.mul_le_mul_right _ (by omega)
    rw [hp]; omega
  · have := (List.getElem?_eq_some_iff.1 hc).1; omega
  · intro m hm
    have e2 : acc + c % 128 * 128 ^ k + m * 128 ^ (k + 1) = acc + (c - 128 + 128 * m) * 128 ^ k := by
      rw [hp, e1, Nat.add_mul, Nat.add_assoc]
      congr 2
      rw [Nat.mul_comm 128 m, Nat.mul_assoc, Nat.mul_comm (128 ^ k) 128]
    rw [e2, h.up _ (by omega), uv_ge (n := c - 128 + 128 * m) (by omega), take_at hc, List.append_assoc]
    rw [show (c - 128 + 128 * m) % 128 = c - 128 by omega, show (c - 128 + 128 * m) / 128 = m by omega]
    rw [show ((c - 128 : Nat) : Int) + 128 = (c : Int) by omega]
    rfl
  · intro m hm hpre
    obtain ⟨q, hq, hu, _⟩ := h.any m hm hpre
    rw [hu] at hpre
    have hr := pk_rest hpre
    rw [drop_at hc] at hr
    rcases uv_first hr with ⟨h3, h4⟩ | ⟨h3, h4, _⟩
    · omega
    · refine ⟨q / 128, ?_, ?_, by omega⟩
      · rw [hq, hp]
        have e3 : q = c % 128 + 128 * (q / 128) := by omega
        have e4 : q * 128 ^ k = c % 128 * 128 ^ k + q / 128 * (128 ^ k * 128) := by
          calc q * 128 ^ k = (c % 128 + 128 * (q / 128)) * 128 ^ k := by rw [← e3]
            _ = _ := by rw [Nat.add_mul, Nat.mul_comm 128 (q / 128), Nat.mul_assoc, Nat.mul_comm 128 (128 ^ k)]
        omega
      · rw [hu, uv_ge h3, take_at hc, List.append_assoc, h4]
        rfl
theorem pkI_done {ys : List Int} {k acc : Nat} {c : Nat} (h : PkI ys k acc) (hc : ys[k]? = some (c : Int)) (h1 : c < 128) (h2 : k = 9 → c ≤ 1) (h3 : c = 0 → k = 0) : PkOk ys (acc + c * 128 ^ k) (k + 1) := by
  have hu : uv (acc + c * 128 ^ k) = ys.take (k + 1) := by
    rcases Nat.eq_zero_or_pos c with h0 | h0
    · obtain rfl := h3 h0
      subst h0
      have := h.lt
      have e : acc = 0 := by simpa using this
      subst e
      rw [take_at hc]
      simp [uv_lt]
    · rw [h.up c h0, take_at hc, uv_lt h1]
  have hk := (List.getElem?_eq_some_iff.1 hc).1
  refine .inl ⟨by omega, ?_, ?_, ?_⟩
  · have h5 := h.lt
    rcases Nat.lt_or_ge k 9 with h4 | h4
    · have h6 : 128 ^ (k + 1) ≤ 128 ^ 9 := Nat.pow_le_pow_right (by omega) (by omega)
      have h7 : c * 128 ^ k ≤ 127 * 128 ^ k := Nat.mul_le_mul_right _ (by omega)
      rw [Nat.pow_succ] at h6
      have h8 : (128 : Nat) ^ 9 = 9223372036854775808 := by decide
      omega
    · have e9 : k = 9 := by have := h.k9; omega
      have := h2 e9
      subst e9
      have h8 : (128 : Nat) ^ 9 = 9223372036854775808 := by decide
      have h7 : c * 128 ^ 9 ≤ 1 * 128 ^ 9 := Nat.mul_le_mul_right _ this
      omega
  · rw [hu]; exact List.take_prefix _ _
  · rw [hu, List.length_take]; omega
theorem pkI_end {ys : List Int} {k acc : Nat} (h : PkI ys k acc) (hk : ys.length ≤ k) : PkOk ys 0 0 := by
  refine .inr ⟨rfl, rfl, fun m hm hp => ?_⟩
  obtain ⟨q, _, hu, _⟩ := h.any m hm hp
  rw [hu] at hp
  have := pk_rest hp
  rw [List.drop_of_length_le hk] at this
  have h1 := this.length_le
  have h2 := uv_pos q
  rw [List.length_nil] at h1
  omega
theorem pkI_zero {ys : List Int} {k acc : Nat} (h : PkI ys k acc) (hc : ys[k]? = some 0) (hk : 0 < k) : PkOk ys 0 0 := by
  refine .inr ⟨rfl, rfl, fun m hm hp => ?_⟩
  obtain ⟨q, _, hu, hq⟩ := h.any m hm hp
  have := hq hk
  rw [hu] at hp
  have h1 := pk_rest hp
  rw [drop_at hc] at h1
  rcases uv_first h1 with ⟨h3, h4⟩ | ⟨h3, h4, _⟩ <;> omega
theorem pkI_big {ys : List Int} {acc : Nat} {c : Int} (h : PkI ys 9 acc) (hc : ys[9]? = some c) (h1 : 1 < c) : PkOk ys 0 0 := by
  refine .inr ⟨rfl, rfl, fun m hm hp => ?_⟩
  obtain ⟨q, hm2, hu, hq⟩ := h.any m hm hp
  have := hq (by omega)
  have h8 : (128 : Nat) ^ 9 = 9223372036854775808 := by decide
  rw [h8] at hm2
  have hq1 : q = 1 := by omega
  rw [hu] at hp
  have h5 := pk_rest hp
  rw [drop_at hc] at h5
  rcases uv_first h5 with ⟨h3, h4⟩ | ⟨h3, h4, _⟩ <;> omega
/-- No code begins another: what is read is what was written. -/
theorem uv_prefix : ∀ (a b : Nat) (t : List Int), uv a <+: uv b ++ t → a = b := by
  intro a
  induction a using Nat.strongRecOn with
  | ind a ih =>
    intro b t h
    rcases Nat.lt_or_ge b 128 with h1 | h1
    · rw [uv_lt h1] at h
      rcases uv_first (c := (b : Int)) h with ⟨h2, h3⟩ | ⟨h2, h3, _⟩ <;> omega
    · rw [uv_ge h1] at h
      rcases uv_first h with ⟨h2, h3⟩ | ⟨h2, h3, h4⟩
      · omega
      · have := ih (a / 128) (by omega) (b / 128) t h4
        omega
theorem pk_of_uv {n : Nat} {t : List Int} {m k : Nat} (hn : n < 18446744073709551616) (h : PkOk (uv n ++ t) m k) : m = n ∧ k = (uv n).length := by
  rcases h with ⟨_, _, h1, h2⟩ | ⟨_, _, h1⟩
  · have := uv_prefix m n t h1
    subst this
    exact ⟨rfl, h2⟩
  · exact absurd (List.prefix_append _ _) (h1 n hn)
end Go.Proofs.Ytfikaekocgofoaa.WireP
/- A number's bytes: the program's, the document's. -/
namespace Go.Proofs.Ytfikaekocgofoaa.UvW
open Go.RowKit Go.Proofs.YtfikaekocgofoaaW.PrintWords Mem WireP
abbrev BK : Kd Int := Kd.int .u8
theorem info5 : (Try.prog.info? 5).map (fun i => (i.zero, i.size, i.bytes)) = some (some (.int .u8 0), 1, 1) := by kernel_rfl
/-- The loop's state: what was written, the number that is left. -/
def UvI (xs : List Int) (n : Nat) (ys : List Int) (m : Int) : Prop := 0 ≤ m ∧ ys ++ uv m.toNat = xs ++ uv n
theorem uvI_more {xs ys : List Int} {n : Nat} {m : Int} (h : UvI xs n ys m) (hm : 128 ≤ m) : UvI xs n (ys ++ [m % 128 + 128]) (m / 128) := by
  refine ⟨by have := h.1; omega, ?_⟩
  rw [← h.2, uv_ge (n := m.toNat) (by omega), List.append_assoc]
  have e1 : ((m.toNat % 128 : Nat) : Int) = m % 128 := by omega
  have e2 : m.toNat / 128 = (m / 128).toNat := by omega
  rw [e1, e2]; rfl
theorem uvI_done {xs ys : List Int} {n : Nat} {m : Int} (h : UvI xs n ys m) (hm : m < 128) : ys ++ [m] = xs ++ uv n := by
  rw [← h.2, uv_lt (n := m.toNat) (by omega)]
  have := h.1
  rw [show ((m.toNat : Nat) : Int) = m by omega]
theorem uvI_len {xs ys : List Int} {n : Nat} {m : Int} (h : UvI xs n ys m) : ys.length + 1 ≤ xs.length + (uv n).length := by
  have := congrArg List.length h.2
  have := uv_pos m.toNat
  simp only [List.length_append] at *
  omega
theorem ow0 (w : World) (b : Nat) : Ow .u8 5 w b (.slice none 0 0) [] := Ow.nil _ _ _ _
set_option maxHeartbeats 400000 in
theorem ref_uvarint (n : Int) (w : World) (hn : 0 ≤ n ∧ n < 18446744073709551616) :
    Calls Try.prog 78 #[.int .u64 n] w fun e w' => ∃ v, e = .returned v ∧ Ow .u8 5 w' w.heap.size v (uv n.toNat) ∧ Below w.heap.size w w' := by
  have HL : Hid ((uv n.toNat).length ≤ 10) := Lib.hid (uv_len10 (n := n.toNat) (by omega))
  have HI : Hid (UvI [] n.toNat [] n) := Lib.hid ⟨hn.1, rfl⟩
  have HT := Lib.hid hn.2
  clear hn
  go_enter Try.func78, Try.ntmps78
  go_wp2_with fail
  go_loopw [0, 3] (fun n' v wr => ∃ (ni : Int) (ys : List Int), n' = .int .u64 ni ∧ Hid (Ow .u8 5 wr w.heap.size v ys) ∧ Hid (UvI [] n.toNat ys ni) ∧ Hid (ni < 18446744073709551616) ∧ Hid (Below w.heap.size w wr)) (fun n' _ _ => (intOf n').toNat)
  case atStart => exact ⟨_, _, rfl, Lib.hid (ow0 _ _), HI, HT, Lib.hid (Below.refl _ _)⟩
  case round =>
    obtain ⟨ni, ys, rfl, HA, HE, HS, HB⟩ := hrel
    have HM : Hid ((ys.length + 1) * 1 ≤ 140737488355328) := Lib.hid (by have h1 := uvI_len HE.out; have h2 := HL.out; rw [List.length_nil] at h1; omega)
    by_cases h : 128 ≤ ni
    · have h1 : decide (128 ≤ ni) = true := decide_eq_true h
      have HN := Lib.hid h
      clear h HI
      go_wp2_with (at_builtin; go_must (refine Kd.R_append BK (w0 := w) w.heap.size rfl _ _ 45 5 (.int .u8 0) 1 rfl Try.underlying45 info5 rfl (by decide) (by decide) _ _ _ [_] (fun _ => True) (fun _ => False) rfl rfl rfl (fun _ hk => hk.elim) (fun _ _ => trivial) (by exact HA.out) (by exact HB.out) (by exact HB.out.size) (by exact HM.out) ?_); intro v1 w1 ho hb hg hg2; clear HA HB hg hg2; have HA := Lib.hid ho; have HB := Lib.hid hb; clear ho hb)
      go_roundw
      case rel =>
        refine ⟨_, _, rfl, HA, Lib.hid ?_, Lib.hid ?_, HB⟩
        have h0 := HN.out
        have := uvI_more HE.out HN.out
        · rw [Go.IntKind.wrap_u64, Int.tmod_eq_emod_of_nonneg (by omega), Int.tdiv_eq_ediv_of_nonneg (by omega)]
          rw [show (ni % 128 + 128) % 256 = ni % 128 + 128 by omega, show ni / 128 % 18446744073709551616 = ni / 128 by have := HS.out; omega]
          exact this
        · have := HS.out; rw [Go.IntKind.wrap_u64]; omega
      case measure => have := HN.out; simp only [intOf]; rw [Go.IntKind.wrap_u64, Int.tdiv_eq_ediv_of_nonneg (by omega)]; omega
    · have h1 : decide (128 ≤ ni) = false := decide_eq_false h
      have HN : Hid (ni < 128) := Lib.hid (by omega)
      clear h HI
      go_wp2_with (at_builtin; go_must (refine Kd.R_append BK (w0 := w) w.heap.size rfl _ _ 45 5 (.int .u8 0) 1 rfl Try.underlying45 info5 rfl (by decide) (by decide) _ _ _ [_] (fun _ => True) (fun _ => False) rfl rfl rfl (fun _ hk => hk.elim) (fun _ _ => trivial) (by exact HA.out) (by exact HB.out) (by exact HB.out.size) (by exact HM.out) ?_); intro v1 w1 ho hb hg hg2; clear HA HB hg hg2; have HA := Lib.hid ho; have HB := Lib.hid hb; clear ho hb)
      go_ret
      refine ⟨_, rfl, ?_, HB.out⟩
      have e := uvI_done HE.out HN.out
      have hm : ni % 256 = ni := by have := HN.out; have := HE.out.1; omega
      rw [List.nil_append] at e
      rw [← e, ← hm]
      exact HA.out
end Go.Proofs.Ytfikaekocgofoaa.UvW
/- Numbers behind bytes: the program's put and the document's. -/
set_option linter.unusedSimpArgs false
namespace Go.Proofs.Ytfikaekocgofoaa.Put
open Go Go.RowKit Go.Proofs.YtfikaekocgofoaaW.PrintWords Mem WireP UvW
/-- Many numbers' bytes, one behind the other. -/
def uvs (l : List Int) : List Int := l.flatMap (fun n => uv n.toNat)
theorem uvs_nil : uvs [] = [] := rfl
theorem uvs_append (a b : List Int) : uvs (a ++ b) = uvs a ++ uvs b := by unfold uvs; rw [List.flatMap_append]
theorem uvs_one (n : Int) : uvs [n] = uv n.toNat := by unfold uvs; simp
theorem uvs_cons (n : Int) (l : List Int) : uvs (n :: l) = uv n.toNat ++ uvs l := by unfold uvs; rw [List.flatMap_cons]
def Nat63 (l : List Int) : Prop := ∀ n ∈ l, 0 ≤ n ∧ n < 9223372036854775808
theorem uvs_len {l : List Int} (h : Nat63 l) : (uvs l).length ≤ 10 * l.length := by
  induction l with
  | nil => simp [uvs]
  | cons n l ih =>
    rw [uvs_cons, List.length_append, List.length_cons]
    have h1 := h n (List.mem_cons_self ..)
    have := uv_len10 (n := n.toNat) (by omega)
    have := ih (fun m hm => h m (List.mem_cons_of_mem _ hm))
    omega
theorem take_one {l : List Int} {i : Nat} {x : Int} (h : l[i]? = some x) : uvs (l.take (i + 1)) = uvs (l.take i) ++ uv x.toNat := by
  rw [List.take_add_one, h, uvs_append]
  congr 1
  exact uvs_one x
theorem nat63_take {l : List Int} (h : Nat63 l) (i : Nat) : Nat63 (l.take i) := fun n hn => h n (List.mem_of_mem_take hn)
theorem wrap_u {x : Int} (h : 0 ≤ x ∧ x < 9223372036854775808) : IntKind.u64.wrap x = x := by rw [Go.IntKind.wrap_u64]; omega
set_option maxRecDepth 100000 in
set_option maxHeartbeats 4000000 in
/-- A row's own block holds what is appended to: the document's put. -/
theorem rput_calls (w0 : World) (base g : Nat) (v : Value) (xs : List Int) (cs : Array Value) (ns : List Int) (w : World) (hx : BK.R 5 w base (fun k => k ≠ g) v xs) (hn : w.heap[g]? = some (.cells cs 3 (0, 0))) (hcs : cs.toList = nums .i64 ns) (hb : Below base w0 w) (hbase : base ≤ w.heap.size) (hg : Nat63 ns) (hl : xs.length + 10 * ns.length + 10 ≤ 140737488355328) :
    Calls Try.prog 47 #[v, .slice (some ⟨g, 0, none⟩) ns.length ns.length] w fun e w' => ∃ v', e = .returned v' ∧ Ow .u8 5 w' base v' (xs ++ uvs ns) ∧ Below base w0 w' := by
  have HX := Lib.hid hx
  have HN := Lib.hid hn
  have HCS := Lib.hid hcs
  have HB0 := Lib.hid hb
  have HBS := Lib.hid hbase
  have HG := Lib.hid hg
  have HL := Lib.hid hl
  have hns : ns.length ≤ 9223372036854775807 := by omega
  have HGL := Lib.hid (blk_lt hn)
  clear hx hn hcs hb hbase hg hl
  go_enter Try.func47, Try.ntmps47
  go_wp2_with fail
  go_loopw [0, 5] (fun b' i' wr => ∃ (i : Nat) (ys : List Int) (bv : Value), bv = b' ∧ i' = .int .i64 i ∧ Hid (i ≤ ns.length) ∧ Hid (ys = xs ++ uvs (ns.take i)) ∧ Hid (BK.R 5 wr base (fun k => k ≠ g) bv ys) ∧ Hid (wr.heap[g]? = some (.cells cs 3 (0, 0))) ∧ Hid (Below base w0 wr) ∧ Hid (base ≤ wr.heap.size)) (fun _ i' _ => (ns.length - intOf i').toNat)
  case atStart => exact ⟨0, xs, v, rfl, rfl, Lib.hid (Nat.zero_le _), Lib.hid (by rw [List.take_zero, uvs_nil, List.append_nil]), HX, HN, HB0, HBS⟩
  case round =>
    obtain ⟨i, ys, bv, rfl, rfl, HI, HY, HO, HN1, HB, HBS1⟩ := hrel
    by_cases h : i < ns.length
    · have hlt : decide (i < ns.length) = true := decide_eq_true h
      have hlt2 : decide ((i : Int) < (ns.length : Int)) = true := decide_eq_true (by omega)
      have i0 : (0 : Int) ≤ i := by omega
      have i1 : (i : Int) < ns.length := by omega
      obtain ⟨x, hx⟩ : ∃ x, ns[i]? = some x := ⟨_, List.getElem?_eq_getElem h⟩
      have c0 : wr.cell? ⟨g, i, none⟩ = some (.int .i64 x) := by
        rw [blk_cell HN1.out i, ← Array.getElem?_toList, HCS.out]
        simp [nums, hx]
      have HXI := Lib.hid hx
      have HXG := Lib.hid (HG.out x (List.mem_of_getElem? hx))
      have HLT := Lib.hid h
      have HLY : Hid (ys.length + (uv x.toNat).length ≤ 140737488355328) := Lib.hid (by
        have h1 := uvs_len (nat63_take HG.out i)
        have h2 := HL.out
        have h3 := uv_len10 (n := x.toNat) (by have := HXG.out; omega)
        rw [HY.out, List.length_append]
        rw [List.length_take] at h1
        omega)
      clear h hx
      go_wp2_with fail
      refine (ref_uvarint (IntKind.u64.wrap x) wr (by rw [wrap_u HXG.out]; have := HXG.out; omega)).mono ?_
      rintro e w1 ⟨u, rfl, ho, hb⟩
      rw [wrap_u HXG.out] at ho
      obtain ⟨U, cu, rfl, hcu, hCU⟩ := ho.reads
      have HU := Lib.hid hCU
      have HO1 := Lib.hid (Kd.R_below HO.out hb)
      have HN2 := Lib.hid (blk_below HN1.out hb)
      have HB1 := Lib.hid (below_then HB.out HBS1.out hb)
      have HBS2 : Hid (base ≤ w1.heap.size) := Lib.hid (Nat.le_trans HBS1.out hb.size)
      have HNE : Hid (some g ≠ bv.ownBlock) := Lib.hid (Kd.R_away HO.out (fun k hk => hk))
      have HG1 : Hid (g < w1.heap.size) := Lib.hid (blk_lt HN2.out)
      obtain ⟨zs, hzs⟩ : ∃ zs, zs = uv x.toNat := ⟨_, rfl⟩
      rw [← hzs] at HU HLY ⊢
      have HZ := Lib.hid hzs
      clear ho hb hcu hCU c0 hzs HO HN1 HB HBS1
      go_wp2_with (at_builtin; go_must (refine Kd.R_append_rows BK (w0 := w0) base rfl _ _ 45 5 (.int .u8 0) 1 rfl Try.underlying45 info5 rfl (by decide) (by decide) _ ys zs U zs.length cu (fun k => k ≠ g) (fun _ => False) rfl rfl HO1.out HU.out (fun y cs hk => hk) (fun _ hk => hk.elim) (fun k hk => by have := HG1.out; omega) HB1.out HBS2.out ?hl ?_; (case hl => have := HLY.out; omega)); intro v2 w2 ho hb hg hat; have HO3 := Lib.hid ho; have HB3 := Lib.hid hb; have HN3 := Lib.hid (blk_grown HN2.out hg HNE.out); have HBS3 : Hid (base ≤ w2.heap.size) := Lib.hid (Nat.le_trans HBS2.out hg.size); clear ho hb hg hat HO1 HB1 HN2 HBS2)
      go_roundw
      case rel =>
        refine ⟨i + 1, _, v2, rfl, by go_num, Lib.hid (by have := HLT.out; omega), Lib.hid ?_, HO3, HN3, HB3, HBS3⟩
        rw [take_one HXI.out, HY.out, HZ.out, List.append_assoc]
      case measure => have := HLT.out; simp only [intOf]; omega
    · obtain rfl : i = ns.length := by have := HI.out; omega
      have hlt : decide (ns.length < ns.length) = false := decide_eq_false (Nat.lt_irrefl _)
      have hlt2 : decide ((ns.length : Int) < (ns.length : Int)) = false := decide_eq_false (by omega)
      clear h
      have hy : ys = xs ++ uvs ns := by rw [HY.out, List.take_length]
      subst hy
      clear HY
      go_wp2_with fail
      go_ret
      exact ⟨_, rfl, Kd.R_mono HO.out (fun _ _ => trivial), HB.out⟩
end Go.Proofs.Ytfikaekocgofoaa.Put
/- What the program's reader does. -/
set_option linter.unusedSimpArgs false
namespace Go.Proofs.Ytfikaekocgofoaa.RdW
open Go.RowKit Go.Proofs.YtfikaekocgofoaaW.PrintWords Mem WireP UvW
/-- A reader: its bytes, how far it is, what was wrong. -/
def IsRd (w : World) (base p : Nat) (xs : List Int) (a : Nat) (e : Int) : Prop :=
  ∃ A c, BK.R 5 w base (fun k => k ≠ p) (.slice A xs.length c) xs ∧ w.heap[p]? = some (.cells #[.slice A xs.length c, .int .i64 a, .int .i64 e] 107 (0, 0)) ∧ base ≤ p ∧ a ≤ xs.length
theorem IsRd.grown {w w1 : World} {base p : Nat} {xs : List Int} {a : Nat} {e : Int} (h : IsRd w base p xs a e) (hb : Below w.heap.size w w1) : IsRd w1 base p xs a e := by
  obtain ⟨A, c, h1, h2, h3, h4⟩ := h
  exact ⟨A, c, Kd.R_below h1 hb, blk_below h2 hb, h3, h4⟩
theorem IsRd.lower {w : World} {base base' p : Nat} {xs : List Int} {a : Nat} {e : Int} (h : IsRd w base p xs a e) (hb : base' ≤ base) : IsRd w base' p xs a e := by
  obtain ⟨A, c, h1, h2, h3, h4⟩ := h
  exact ⟨A, c, Kd.R_lower h1 hb, h2, Nat.le_trans hb h3, h4⟩
theorem grown_set (w : World) (p j : Nat) (u : Value) : w.grownBy (w.setCell ⟨p, j, none⟩ u) (some p) := by
  have e := setCells_same p [u] j w
  simp only [World.setCells] at e
  exact ⟨e.1, e.2.1, e.2.2.1, by rw [e.2.2.2]; exact Nat.le_refl _, fun k _ hk => Below.heap_setCell w _ _ _ (fun h => hk (by rw [h]))⟩
theorem IsRd.set1 {w : World} {base p : Nat} {xs : List Int} {a : Nat} {e : Int} (h : IsRd w base p xs a e) (a' : Nat) (ha : a' ≤ xs.length) : IsRd (w.setCell ⟨p, 1, none⟩ (.int .i64 a')) base p xs a' e := by
  obtain ⟨A, c, h1, h2, h3, h4⟩ := h
  exact ⟨A, c, Kd.R_far h1 (fun k hk => hk) _, blk_put h2 1 _ rfl, h3, ha⟩
theorem IsRd.set2 {w : World} {base p : Nat} {xs : List Int} {a : Nat} {e : Int} (h : IsRd w base p xs a e) (e' : Int) : IsRd (w.setCell ⟨p, 2, none⟩ (.int .i64 e')) base p xs a e' := by
  obtain ⟨A, c, h1, h2, h3, h4⟩ := h
  exact ⟨A, c, Kd.R_far h1 (fun k hk => hk) _, blk_put h2 2 _ rfl, h3, h4⟩
theorem IsRd.lt {w : World} {base p : Nat} {xs : List Int} {a : Nat} {e : Int} (h : IsRd w base p xs a e) : p < w.heap.size := by
  obtain ⟨A, c, h1, h2, h3, h4⟩ := h
  exact blk_lt h2
theorem IsRd.cells {w : World} {base p : Nat} {xs : List Int} {a : Nat} {e : Int} (h : IsRd w base p xs a e) : ∃ A c, xs.length ≤ c ∧ BK.C w A xs.length xs ∧ w.cell? ⟨p, 0, none⟩ = some (.slice A xs.length c) ∧ w.cell? ⟨p, 1, none⟩ = some (.int .i64 a) ∧ w.cell? ⟨p, 2, none⟩ = some (.int .i64 e) ∧ (∀ j, w.frozen? ⟨p, j, none⟩ = false) := by
  obtain ⟨A, c, h1, h2, h3, h4⟩ := h
  obtain ⟨_, hc, hC⟩ := Kd.R_reads' h1
  exact ⟨A, c, hc, hC, blk_cell h2 0, blk_cell h2 1, blk_cell h2 2, blk_frozen h2⟩
theorem clone_calls (A : Option Addr) (c : Nat) (xs : List Int) (w : World) (_ : xs.length ≤ c) (hx : BK.C w A xs.length xs) (hl : xs.length ≤ 140737488355328) :
    Calls Try.prog 71 #[.slice A xs.length c] w fun e w' => ∃ v, e = .returned v ∧ Ow .u8 5 w' w.heap.size v xs ∧ Below w.heap.size w w' := by
  have hq := fun W n c => Go.run_eql_slice_nil (P := Try.prog) W 45 5 A n c Try.underlying45
  cases A with
  | none =>
    have e : xs = [] := by
      rcases Nat.eq_zero_or_pos xs.length with h0 | h0
      · exact List.eq_nil_of_length_eq_zero h0
      · obtain ⟨ad, h, _⟩ := hx.2.2 h0
        cases h
    subst e
    clear hx hl
    go_enter Try.func71, Try.ntmps71
    go_wp2
    go_ret
    exact ⟨_, rfl, ow0 _ _, Below.refl _ _⟩
  | some ad =>
    have HC := Lib.hid hx
    have HL := Lib.hid hl
    have HB := Lib.hid (below_alloc (Below.refl w.heap.size w) (.cells #[] 5))
    have HO : Hid (BK.R 5 (w.alloc (.cells #[] 5)) w.heap.size (fun _ => True) (.slice (some ⟨w.heap.size, 0, none⟩) 0 0) []) := Lib.hid ⟨fun _ _ => trivial, OwnRow.lit w w.heap.size (ps := []) (inner := []) (Reps.none _ _) (Nat.le_refl _) (Nat.zero_le _)⟩
    clear hx hl
    go_enter Try.func71, Try.ntmps71
    go_wp2_with (at_builtin; go_must (refine Kd.R_append_rows BK (w0 := w) w.heap.size rfl _ _ 45 5 (.int .u8 0) 1 rfl Try.underlying45 info5 rfl (by decide) (by decide) _ [] xs _ _ _ (fun _ => True) (fun _ => False) rfl rfl (by exact HO.out) (by exact Kd.C_alloc HC.out _) (fun y cs hk => hk) (fun _ hk => hk.elim) (fun _ _ => trivial) (by exact HB.out) (by exact HB.out.size) ?hl ?_; (case hl => have := HL.out; simp; omega)); intro v1 w2 ho hb hg hg2; rw [List.nil_append] at ho; clear HB hg hg2 HO; have HO := Lib.hid ho; have HB := Lib.hid hb; clear ho hb)
    go_ret
    exact ⟨_, rfl, HO.out, HB.out⟩
theorem read_calls (A : Option Addr) (c : Nat) (xs : List Int) (w : World) (hc : xs.length ≤ c) (hx : BK.C w A xs.length xs) (hl : xs.length ≤ 140737488355328) :
    Calls Try.prog 39 #[.slice A xs.length c] w fun e w' => ∃ p, e = .returned (.pointer (some ⟨p, 0, none⟩)) ∧ IsRd w' w.heap.size p xs 0 0 ∧ Below w.heap.size w w' := by
  go_enter Try.func39, Try.ntmps39
  go_wp2_with fail
  refine (clone_calls A c xs w hc hx hl).mono ?_
  rintro e w1 ⟨v, rfl, ho, hb⟩
  obtain ⟨A1, c1, rfl, hc1, _⟩ := ho.reads
  have HO := Lib.hid ho
  have HB := Lib.hid hb
  clear ho hb hx hc hl hc1
  go_wp2_with fail
  go_ret
  refine ⟨_, rfl, ⟨A1, c1, Kd.R_mono (Kd.R_alloc (Kd.R_bound HO.out) _) (fun k hk => by have := hk.2.2.1; omega), heap_alloc_new _ _, HB.out.size, Nat.zero_le _⟩, below_alloc HB.out _⟩
theorem fine_calls (base p : Nat) (xs : List Int) (a : Nat) (e : Int) (w : World) (h : IsRd w base p xs a e) :
    Calls Try.prog 84 #[.pointer (some ⟨p, 0, none⟩)] w fun r w' => r = .returned (.bool (e == 0)) ∧ w = w' := by
  obtain ⟨A, c, _, _, c0, c1, c2, cf⟩ := h.cells
  clear h
  go_enter Try.func84, Try.ntmps84
  go_wp2
  go_ret
  exact ⟨rfl, rfl⟩
theorem fail_calls (base p : Nat) (xs : List Int) (a : Nat) (e e1 : Int) (w : World) (h : IsRd w base p xs a e) :
    Calls Try.prog 86 #[.pointer (some ⟨p, 0, none⟩), .int .i64 e1] w fun r w' => r = .returned (.tuple #[]) ∧ IsRd w' base p xs a (if e = 0 then e1 else e) ∧ w.grownBy w' (some p) := by
  obtain ⟨A, c, _, _, c0, c1, c2, cf⟩ := h.cells
  have H := Lib.hid h
  clear h
  by_cases he : e = 0
  · subst he
    go_enter Try.func86, Try.ntmps86
    go_wp2
    refine Go.Great.bodyPost_end0 (by kernel_rfl) rfl ?_
    exact ⟨rfl, H.out.set2 _, grown_set _ _ _ _⟩
  · have h1 : (e == 0) = false := beq_eq_false_iff_ne.2 he
    have HE := Lib.hid he
    clear he
    go_enter Try.func86, Try.ntmps86
    go_wp2
    refine Go.Great.bodyPost_end0 (by kernel_rfl) rfl ?_
    exact ⟨rfl, H.out, World.grownBy.refl _ _⟩
theorem err_calls (base p : Nat) (xs : List Int) (a : Nat) (e : Int) (w : World) (h : IsRd w base p xs a e) :
    Calls Try.prog 74 #[.pointer (some ⟨p, 0, none⟩)] w fun r w' => r = .returned (.int .i64 e) ∧ w = w' := by
  obtain ⟨A, c, _, _, c0, c1, c2, cf⟩ := h.cells
  clear h
  go_enter Try.func74, Try.ntmps74
  go_wp2
  go_ret
  exact ⟨rfl, rfl⟩
theorem info5' : ∃ i, Try.prog.info? 5 = some i ∧ i.size = 1 := by
  obtain ⟨i, hi, hz⟩ := Option.map_eq_some_iff.1 info5
  simp only [Prod.mk.injEq] at hz
  exact ⟨i, hi, hz.2.1⟩
theorem cut_bytes (A : Option Addr) (c : Nat) (xs : List Int) (m : Nat) (hm : m ≤ xs.length) (hc : xs.length ≤ c) : ∃ A' : Option Addr, (∀ W : World, (Instr.slice 45 (.slice A xs.length c) (some (.int .i64 (m : Int))) none none).run Try.prog W = .ok (.slice A' (xs.length - m) (c - m)) W) ∧
    ∀ w : World, BK.C w A xs.length xs → BK.C w A' (xs.length - m) (xs.drop m) := by
  obtain ⟨i, hi, hz⟩ := info5'
  obtain ⟨A', h1, h2⟩ := print_cut (P := Try.prog) 45 5 .i64 Try.underlying45 hi hz A xs.length c m hm
  exact ⟨A', h1, fun w h => Kd.C_of_reads (d := (0 : Int)) (h2 w .u8 xs hc (Kd.reads_of_C h))⟩
theorem at_B {w : World} {A : Option Addr} {n : Nat} {xs : List Int} (h : BK.C w A n xs) (i : Nat) (h1 : i < n) : ∃ ad x, xs[i]? = some x ∧ A = some ad ∧ w.cell? (ad.add i) = some (.int .u8 x) := by
  have hr : ReadsOf (Value.int .u8) (0 : Int) w A n xs := Kd.reads_of_C h
  obtain ⟨ad, e, hcell⟩ := hr.2.2 (by omega)
  have hl : i < xs.length := by have := hr.1; omega
  have := hcell i h1
  rw [List.getD_eq_getElem?_getD, List.getElem?_eq_getElem hl] at this
  exact ⟨ad, _, List.getElem?_eq_getElem hl, e, this⟩
theorem and127' : ∀ k : Fin 256, Go.bits .and .u8 ((k.1 : Nat) : Int) 127 = ((k.1 % 128 : Nat) : Int) := by decide +kernel
theorem pow7 (k : Nat) : (2 : Nat) ^ (7 * k) = 128 ^ k := by rw [Nat.pow_mul]
theorem digit {k y acc : Nat} {x : Int} (hk : k ≤ 8 ∨ (k = 9 ∧ y ≤ 1)) (hy : y < 256) (hx : x = (y : Int)) (ha : acc < 128 ^ k) :
    ∃ (z : Int) (s : Nat), Op.shift .shl .u64 (IntKind.u64.wrap (Go.bits .and .u8 x 127)) .i64 (wrap64 (7 * (k : Int))) = pure (.int .u64 z) ∧ Go.bits .or .u64 (acc : Int) z = (s : Int) ∧ s = acc + (y % 128) * 128 ^ k := by
  subst hx
  have e1 := and127' ⟨y, hy⟩
  simp only at e1
  have hb : (y % 128) * 128 ^ k < 18446744073709551616 := by
    rcases hk with hk | ⟨rfl, hy1⟩
    · have h6 : 128 ^ k ≤ 128 ^ 8 := Nat.pow_le_pow_right (by omega) hk
      have h7 : y % 128 * 128 ^ k ≤ 127 * 128 ^ 8 := Nat.mul_le_mul (by omega) h6
      exact Nat.lt_of_le_of_lt h7 (by decide +kernel)
    · have h7 : y % 128 * 128 ^ 9 ≤ 1 * 128 ^ 9 := Nat.mul_le_mul_right _ (by omega)
      exact Nat.lt_of_le_of_lt h7 (by decide +kernel)
  have hac : acc < 18446744073709551616 := by
    have h6 : 128 ^ k ≤ 128 ^ 9 := Nat.pow_le_pow_right (by omega) (by omega)
    exact Nat.lt_of_lt_of_le ha (Nat.le_trans h6 (by decide +kernel))
  have e2 : wrap64 (7 * (k : Int)) = ((7 * k : Nat) : Int) := by unfold wrap64; omega
  have e3 : IntKind.u64.wrap (((y % 128 : Nat) : Int)) = ((y % 128 : Nat) : Int) := by rw [Go.IntKind.wrap_u64]; omega
  have e4 : IntKind.u64.wrap (((y % 128 : Nat) : Int) * 2 ^ (7 * k)) = (((y % 128) * 128 ^ k : Nat) : Int) := by
    have : ((y % 128 : Nat) : Int) * 2 ^ (7 * k) = (((y % 128) * 128 ^ k : Nat) : Int) := by
      rw [Int.natCast_mul, ← pow7, Int.natCast_pow]; rfl
    rw [this, Go.IntKind.wrap_u64]
    omega
  refine ⟨(((y % 128) * 128 ^ k : Nat) : Int), acc + (y % 128) * 128 ^ k, ?_, ?_, rfl⟩
  · rw [e1, e3, e2, shift_shl_any _ _ _ _ (by omega), show min ((7 * k : Nat) : Int).toNat (IntKind.u64).bits = 7 * k by simp [IntKind.bits]; omega, e4]
  · rw [bits_or_u64_nat _ _ hac hb]
    congr 1
    have := Nat.two_pow_add_eq_or_of_lt (i := 7 * k) (b := acc) (by rw [pow7]; exact ha) (y % 128)
    rw [pow7] at this
    rw [Nat.or_comm, Nat.mul_comm (y % 128), ← this]
    omega
set_option maxHeartbeats 1600000 in
theorem peek_calls (base p : Nat) (xs : List Int) (a : Nat) (e : Int) (w : World) (h : IsRd w base p xs a e) (hb : ∀ c ∈ xs, 0 ≤ c ∧ c < 256) :
    Calls Try.prog 85 #[.pointer (some ⟨p, 0, none⟩)] w fun r w' => ∃ n k : Nat, r = .returned (.tuple #[.int .u64 n, .int .i64 k]) ∧ PkOk (xs.drop a) n k ∧ Below w.heap.size w w' := by
  obtain ⟨A, c, hc, hC, c0, c1, c2, cf⟩ := h.cells
  have ha : a ≤ xs.length := h.choose_spec.choose_spec.2.2.2
  obtain ⟨A1, hcut, hC1⟩ := cut_bytes A c xs a ha hc
  have hlen : (xs.drop a).length = xs.length - a := List.length_drop ..
  have hC2 := hC1 w hC
  rw [← hlen] at hC2 hcut
  have HC := Lib.hid hC2
  have hyl : (xs.drop a).length ≤ 9223372036854775807 := by have := hC.2.1; omega
  have HX : Hid (∀ c ∈ xs.drop a, 0 ≤ c ∧ c < 256) := Lib.hid (fun c hc => hb c (List.mem_of_mem_drop hc))
  have HB := Lib.hid (Below.refl w.heap.size w)
  clear hC1 hC hC2 hb h hc hlen
  generalize hys : xs.drop a = ys at *
  clear hys
  go_enter Try.func85, Try.ntmps85
  go_wp2_with fail
  go_quiet (fail)
  have HB := Lib.hid (below_drew HB.out)
  go_wp2_with fail
  go_loopw [4, 17] (fun n' i' wr => ∃ k acc : Nat, n' = .int .u64 acc ∧ i' = .int .i64 k ∧ Hid (PkI ys k acc) ∧ Hid (Below w.heap.size w wr)) (fun _ i' _ => (ys.length - intOf i').toNat)
  case atStart => exact ⟨0, 0, rfl, rfl, Lib.hid (pkI_start _), Lib.hid (by first | exact HB.out | exact pw_below_drewN (Below.refl _ _) _)⟩
  case round =>
    obtain ⟨k, acc, rfl, rfl, HI, HB⟩ := hrel
    by_cases h : k < ys.length
    · have h1 : decide (k < ys.length) = true := decide_eq_true h
      have i0 : (0 : Int) ≤ k := by omega
      obtain ⟨ad, x, hx, hA, cx⟩ := at_B (Kd.C_below HC.out HB.out) k h
      subst hA
      have hxr := HX.out x (List.mem_of_getElem? hx)
      obtain ⟨y, hy⟩ := Int.eq_ofNat_of_zero_le hxr.1
      have HY := Lib.hid hx
      have HR := Lib.hid hxr
      have HXY := Lib.hid hy
      clear hx hxr hy
      have n9 : (k == 9) = ((k : Int) == 9) := by rw [Bool.eq_iff_iff, beq_iff_eq, beq_iff_eq]; omega
      have nk : decide (0 < k) = decide ((0 : Int) < k) := by rw [decide_eq_decide]; omega
      cases b9 : ((k : Int) == 9) <;> cases b1 : decide (1 < x) <;> cases bz : (x == 0) <;> cases bk : decide ((0 : Int) < k) <;> cases bl : decide (x < 128)
      all_goals
        rw [b9] at n9
        rw [bk] at nk
        have HF := Lib.hid (And.intro b9 (And.intro b1 (And.intro bz (And.intro bk bl))))
        first
          | (exfalso; simp only [beq_iff_eq, beq_eq_false_iff_ne, decide_eq_true_eq, decide_eq_false_iff_not] at b9 b1 bz bk bl; have := HR.out; have := HI.out.k9; omega)
          | skip
      all_goals
        first
          | (have hbad : k = 9 ∧ 1 < x := by simp only [beq_iff_eq, decide_eq_true_eq] at b9 b1; omega
             have HP := Lib.hid (pkI_big (hbad.1 ▸ HI.out) (hbad.1 ▸ HY.out) hbad.2)
             clear hbad
             go_wp2_with fail
             go_ret2
             exact ⟨0, 0, rfl, HP.out, HB.out⟩)
          | (have hbad : x = 0 ∧ 0 < k := by simp only [beq_iff_eq, decide_eq_true_eq] at bz bk; omega
             have HP := Lib.hid (pkI_zero HI.out (hbad.1 ▸ HY.out) hbad.2)
             clear hbad
             go_wp2_with fail
             go_ret2
             exact ⟨0, 0, rfl, HP.out, HB.out⟩)
          | (have hd : x < 128 ∧ (k = 9 → x ≤ 1) ∧ (x = 0 → k = 0) := by simp only [beq_iff_eq, beq_eq_false_iff_ne, decide_eq_true_eq, decide_eq_false_iff_not] at b9 b1 bz bk bl; omega
             obtain ⟨z, s, hs1, hs2, hs3⟩ := digit (k := k) (y := y) (acc := acc) (x := x) (by have := HI.out.k9; have := HXY.out; omega) (by have := HR.out; have := HXY.out; omega) HXY.out HI.out.lt
             have HP := Lib.hid (pkI_done (c := y) HI.out (by rw [← HXY.out]; exact HY.out) (by have := HXY.out; omega) (by have := HXY.out; omega) (by have := HXY.out; omega))
             have HS := Lib.hid hs3
             have HYS : Hid (y < 128) := Lib.hid (by have := HXY.out; omega)
             clear hd hs3
             go_wp2_with fail
             go_ret2
             refine ⟨s, k + 1, rfl, ?_, HB.out⟩
             rw [HS.out, Nat.mod_eq_of_lt HYS.out]
             exact HP.out)
          | (have hd : 128 ≤ x ∧ k ≤ 8 := by have := HI.out.k9; simp only [beq_iff_eq, beq_eq_false_iff_ne, decide_eq_true_eq, decide_eq_false_iff_not] at b9 b1 bz bk bl; omega
             obtain ⟨z, s, hs1, hs2, hs3⟩ := digit (k := k) (y := y) (acc := acc) (x := x) (by omega) (by have := HR.out; have := HXY.out; omega) HXY.out HI.out.lt
             have HP := Lib.hid (pkI_more (c := y) HI.out hd.2 (by rw [← HXY.out]; exact HY.out) (by have := HXY.out; omega) (by have := HXY.out; have := HR.out; omega))
             have HS := Lib.hid hs3
             clear hd hs3
             go_wp2_with fail
             go_roundw
             case rel =>
               refine ⟨k + 1, s, rfl, ?_, Lib.hid (by rw [HS.out]; exact HP.out), HB⟩
               first | rfl | (rw [show ((k : Int) + 1) = ((k + 1 : Nat) : Int) by omega]) | (rw [show wrap64 ((k : Int) + 1) = ((k + 1 : Nat) : Int) by unfold wrap64; omega])
             case measure => simp only [intOf]; first | omega | (unfold wrap64; omega))
    · have h1 : decide (k < ys.length) = false := decide_eq_false h
      have HP := Lib.hid (pkI_end HI.out (by omega))
      clear h
      go_wp2_with fail
      go_ret2
      exact ⟨0, 0, rfl, HP.out, HB.out⟩
theorem pk_len {ys : List Int} {n k : Nat} (h : PkOk ys n k) : k ≤ ys.length := by
  rcases h with ⟨_, _, h1, h2⟩ | ⟨_, h2, _⟩
  · rw [h2]; exact h1.length_le
  · omega
theorem pk_lt {ys : List Int} {n k : Nat} (h : PkOk ys n k) : n < 18446744073709551616 := by
  rcases h with ⟨_, h1, _⟩ | ⟨h2, _⟩ <;> omega
/-- What reading a number does. -/
def Rd1 (xs : List Int) (a : Nat) (e : Int) (n a' : Nat) (e' : Int) : Prop := (e ≠ 0 ∧ n = 0 ∧ a' = a ∧ e' = e) ∨ (e = 0 ∧ ∃ k, PkOk (xs.drop a) n k ∧ a' = a + k ∧ e' = if k = 0 then 5 else 0)
theorem grown_none {w w1 : World} (hb : Below w.heap.size w w1) (p : Nat) : w.grownBy w1 (some p) := grown_of_below hb _
theorem IsRd.le {w : World} {base p : Nat} {xs : List Int} {a : Nat} {e : Int} (h : IsRd w base p xs a e) : a ≤ xs.length := h.choose_spec.choose_spec.2.2.2
theorem IsRd.small {w : World} {base p : Nat} {xs : List Int} {a : Nat} {e : Int} (h : IsRd w base p xs a e) : xs.length ≤ 9223372036854775807 := by
  obtain ⟨A, c, _, hC, _⟩ := h.cells
  exact hC.2.1
theorem left_calls (base p : Nat) (xs : List Int) (a : Nat) (e : Int) (w : World) (h : IsRd w base p xs a e) :
    Calls Try.prog 75 #[.pointer (some ⟨p, 0, none⟩)] w fun r w' => r = .returned (.int .i64 ((xs.length - a : Nat) : Int)) ∧ Below w.heap.size w w' := by
  obtain ⟨A, c, _, _, c0, c1, c2, cf⟩ := h.cells
  have ha := h.le
  have hs := h.small
  have HB := Lib.hid (Below.refl w.heap.size w)
  obtain ⟨z, hz⟩ : ∃ z : Int, z = ((xs.length - a : Nat) : Int) := ⟨_, rfl⟩
  have e1 : wrap64 z = z := by unfold wrap64; omega
  have e2 : ((xs.length : Int) - a) = z := by omega
  rw [← hz]
  clear h hz ha hs
  go_enter Try.func75, Try.ntmps75
  go_wp2_with fail
  go_quiet (fail)
  go_wp2_with fail
  go_ret
  exact ⟨congrArg (fun y => Ending.returned (Value.int .i64 y)) e1, by first | exact HB.out | exact pw_below_drewN (Below.refl _ _) _⟩
theorem done_calls (base p : Nat) (xs : List Int) (a : Nat) (e : Int) (w : World) (h : IsRd w base p xs a e) :
    Calls Try.prog 43 #[.pointer (some ⟨p, 0, none⟩)] w fun r w' => r = .returned (.int .i64 (if e = 0 then (if a < xs.length then 5 else 0) else e)) ∧ Below w.heap.size w w' := by
  have H := Lib.hid h
  have ha := h.le
  clear h
  by_cases he : e = 0
  · subst he
    rw [if_pos rfl]
    by_cases hl : a < xs.length
    · rw [if_pos hl]
      have h1 : decide ((0 : Int) < ((xs.length - a : Nat) : Int)) = true := decide_eq_true (by omega)
      obtain ⟨z, hz⟩ : ∃ z : Int, z = ((xs.length - a : Nat) : Int) := ⟨_, rfl⟩
      rw [← hz] at h1
      have HZ := Lib.hid hz
      clear hz hl ha
      go_enter Try.func43, Try.ntmps43
      go_wp2_with fail
      refine (err_calls base p xs a 0 w H.out).mono ?_
      rintro r w1 ⟨rfl, rfl⟩
      go_wp2_with fail
      refine (left_calls base p xs a 0 w H.out).mono ?_
      rw [← HZ.out]
      rintro r w1 ⟨rfl, hb⟩
      have HB := Lib.hid hb
      clear hb
      go_wp2_with fail
      go_ret
      exact ⟨rfl, HB.out⟩
    · rw [if_neg hl]
      have hz : xs.length - a = 0 := by omega
      have HZ := Lib.hid hz
      clear hz hl ha
      go_enter Try.func43, Try.ntmps43
      go_wp2_with fail
      refine (err_calls base p xs a 0 w H.out).mono ?_
      rintro r w1 ⟨rfl, rfl⟩
      go_wp2_with fail
      refine (left_calls base p xs a 0 w H.out).mono ?_
      rw [HZ.out]
      rintro r w1 ⟨rfl, hb⟩
      have HB := Lib.hid hb
      clear hb
      go_wp2_with fail
      go_ret
      exact ⟨rfl, HB.out⟩
  · have h1 : (e == 0) = false := beq_eq_false_iff_ne.2 he
    have h2 : (e != 0) = true := by rw [bne_iff_ne]; exact he
    rw [if_neg he]
    clear he ha
    go_enter Try.func43, Try.ntmps43
    go_wp2_with fail
    refine (err_calls base p xs a e w H.out).mono ?_
    rintro r w1 ⟨rfl, rfl⟩
    go_wp2_with fail
    go_ret
    exact ⟨rfl, Below.refl _ _⟩
/-- A number without sign, read as one with. -/
theorem set1' {w : World} {base p : Nat} {xs : List Int} {a : Nat} {e : Int} (h : IsRd w base p xs a e) (a' : Nat) (ha : a' ≤ xs.length) (s : Int) (hs : s = (a' : Int)) : IsRd (w.setCell ⟨p, 1, none⟩ (.int .i64 s)) base p xs a' e := by
  subst hs
  exact h.set1 a' ha
def RdN (xs : List Int) (a : Nat) (e most n : Int) (a' : Nat) (e' : Int) : Prop :=
  (e ≠ 0 ∧ n = 0 ∧ a' = a ∧ e' = e) ∨ (e = 0 ∧ ∃ m k, PkOk (xs.drop a) m k ∧ ((k = 0 ∧ n = 0 ∧ a' = a ∧ e' = 5) ∨ (0 < k ∧ most < (m : Int) ∧ n = 0 ∧ a' = a ∧ e' = 3) ∨ (0 < k ∧ (m : Int) ≤ most ∧ n = m ∧ a' = a + k ∧ e' = 0)))
/-- What the next number of at most another one is, and how many bytes it has. -/
def NmR (xs : List Int) (a : Nat) (e most : Int) (n kk : Nat) (e' : Int) : Prop :=
  (e ≠ 0 ∧ n = 0 ∧ kk = 0 ∧ e' = e) ∨ (e = 0 ∧ ∃ m k, PkOk (xs.drop a) m k ∧ ((k = 0 ∧ n = 0 ∧ kk = 0 ∧ e' = 5) ∨ (0 < k ∧ most < (m : Int) ∧ n = 0 ∧ kk = 0 ∧ e' = 3) ∨ (0 < k ∧ (m : Int) ≤ most ∧ n = m ∧ kk = k ∧ e' = 0)))
set_option maxHeartbeats 800000 in
theorem number_calls (base p : Nat) (xs : List Int) (a : Nat) (e most : Int) (w : World) (h : IsRd w base p xs a e) (hb : ∀ c ∈ xs, 0 ≤ c ∧ c < 256) (hm : -9223372036854775808 ≤ most ∧ most < 9223372036854775808) :
    Calls Try.prog 72 #[.pointer (some ⟨p, 0, none⟩), .int .i64 most] w fun r w' => ∃ (n k : Nat) (e' : Int), r = .returned (.tuple #[.int .i64 n, .int .i64 k]) ∧ NmR xs a e most n k e' ∧ IsRd w' base p xs a e' ∧ w.grownBy w' (some p) := by
  have H := Lib.hid h
  have HR := Lib.hid hb
  have HM := Lib.hid hm
  clear h hb hm
  by_cases he : e = 0
  · subst he
    go_enter Try.func72, Try.ntmps72
    go_wp2_with fail
    refine (fine_calls base p xs a 0 w H.out).mono ?_
    rintro r w1 ⟨rfl, rfl⟩
    go_wp2_with fail
    refine (peek_calls base p xs a 0 w H.out HR.out).mono ?_
    rintro r w1 ⟨n, k, rfl, hp, hb⟩
    have HP := Lib.hid hp
    have H1 := Lib.hid (H.out.grown hb)
    have HG := Lib.hid (grown_none hb p)
    have HN := Lib.hid (pk_lt hp)
    clear hb hp
    by_cases hk : k = 0
    · subst hk
      go_wp2_with fail
      refine (fail_calls base p xs a 0 5 w1 H1.out).mono ?_
      rintro r w2 ⟨rfl, h2, hg⟩
      have H2 := Lib.hid h2
      have HG2 := Lib.hid (World.grownBy.trans HG.out hg)
      clear h2 hg
      go_wp2_with fail
      go_ret2
      exact ⟨0, 0, 5, rfl, .inr ⟨rfl, n, 0, HP.out, .inl ⟨rfl, rfl, rfl, rfl⟩⟩, H2.out, HG2.out⟩
    · have b1 : ((k : Int) == 0) = false := by rw [beq_eq_false_iff_ne]; omega
      have HK0 := Lib.hid hk
      clear hk
      by_cases hx : 9223372036854775807 < n
      · have hd : decide ((9223372036854775807 : Int) < (n : Int)) = true := decide_eq_true (by omega)
        have HX := Lib.hid hx
        clear hx
        go_wp2_with fail
        refine (fail_calls base p xs a 0 3 w1 H1.out).mono ?_
        rintro r w2 ⟨rfl, h2, hg⟩
        have H2 := Lib.hid h2
        have HG2 := Lib.hid (World.grownBy.trans HG.out hg)
        clear h2 hg
        go_wp2_with fail
        go_ret2
        exact ⟨0, 0, 3, rfl, .inr ⟨rfl, n, k, HP.out, .inr (.inl ⟨by have := HK0.out; omega, by have := HX.out; have := HM.out; omega, rfl, rfl, rfl⟩)⟩, H2.out, HG2.out⟩
      · have hd : decide ((9223372036854775807 : Int) < (n : Int)) = false := decide_eq_false (by omega)
        have ew : wrap64 (n : Int) = (n : Int) := by unfold wrap64; omega
        have HX := Lib.hid hx
        clear hx
        by_cases hmo : most < (n : Int)
        · have hd2 : decide (most < (n : Int)) = true := decide_eq_true hmo
          have HMO := Lib.hid hmo
          clear hmo
          go_wp2_with fail
          refine (fail_calls base p xs a 0 3 w1 H1.out).mono ?_
          rintro r w2 ⟨rfl, h2, hg⟩
          have H2 := Lib.hid h2
          have HG2 := Lib.hid (World.grownBy.trans HG.out hg)
          clear h2 hg
          go_wp2_with fail
          go_ret2
          exact ⟨0, 0, 3, rfl, .inr ⟨rfl, n, k, HP.out, .inr (.inl ⟨by have := HK0.out; omega, HMO.out, rfl, rfl, rfl⟩)⟩, H2.out, HG2.out⟩
        · have hd2 : decide (most < (n : Int)) = false := decide_eq_false hmo
          have HMO := Lib.hid hmo
          clear hmo
          go_wp2_with fail
          go_ret2
          exact ⟨n, k, 0, congrArg (fun z => Ending.returned (Value.tuple #[.int .i64 z, .int .i64 (k : Int)])) (by first | rfl | exact ew), .inr ⟨rfl, n, k, HP.out, .inr (.inr ⟨by have := HK0.out; omega, by have := HMO.out; omega, rfl, rfl, rfl⟩)⟩, H1.out, HG.out⟩
  · have HE := Lib.hid he
    have h1 : (e == 0) = false := beq_eq_false_iff_ne.2 he
    clear he
    go_enter Try.func72, Try.ntmps72
    go_wp2_with fail
    refine (fine_calls base p xs a e w H.out).mono ?_
    rintro r w1 ⟨rfl, rfl⟩
    go_wp2_with fail
    go_ret2
    exact ⟨0, 0, e, rfl, .inl ⟨HE.out, rfl, rfl, rfl⟩, H.out, World.grownBy.refl _ _⟩
theorem nmR_len {xs : List Int} {a : Nat} {e most : Int} {n k : Nat} {e' : Int} (h : NmR xs a e most n k e') (ha : a ≤ xs.length) : a + k ≤ xs.length := by
  rcases h with ⟨_, _, h, _⟩ | ⟨_, m, j, hp, h⟩
  · omega
  · have h1 := pk_len hp
    rw [List.length_drop] at h1
    rcases h with ⟨_, _, h, _⟩ | ⟨_, _, _, h, _⟩ | ⟨_, _, _, h, _⟩ <;> omega
theorem numberR (base p : Nat) (xs : List Int) (a : Nat) (e most : Int) (w : World) (h : IsRd w base p xs a e) (hb : ∀ c ∈ xs, 0 ≤ c ∧ c < 256) (hm : -9223372036854775808 ≤ most ∧ most < 9223372036854775808) :
    Calls Try.prog 41 #[.pointer (some ⟨p, 0, none⟩), .int .i64 most] w fun r w' => ∃ (n : Int) (a' : Nat) (e' : Int), r = .returned (.int .i64 n) ∧ RdN xs a e most n a' e' ∧ IsRd w' base p xs a' e' ∧ w.grownBy w' (some p) := by
  have H := Lib.hid h
  have HR := Lib.hid hb
  have HM := Lib.hid hm
  clear h hb hm
  go_enter Try.func41, Try.ntmps41
  go_wp2_with fail
  refine (number_calls base p xs a e most w H.out HR.out HM.out).mono ?_
  rintro r w1 ⟨n, k, e', rfl, hp, h1, hg⟩
  have HP := Lib.hid hp
  have H1 := Lib.hid h1
  have HG := Lib.hid hg
  have hl := nmR_len hp h1.le
  have hs := h1.small
  obtain ⟨A, c, _, _, c0, c1, c2, cf⟩ := h1.cells
  have HL := Lib.hid hl
  clear hp h1 hg
  by_cases hk : 0 < k
  · have hd : decide ((0 : Int) < (k : Int)) = true := decide_eq_true (by omega)
    have hd' : decide (0 < k) = true := decide_eq_true hk
    have hsum : (a : Int) + (k : Int) ≤ 9223372036854775807 := by omega
    have HK := Lib.hid hk
    clear hl hs hk
    go_wp2_with fail
    go_ret
    refine ⟨n, a + k, e', rfl, ?_, set1' H1.out (a + k) HL.out _ (by omega), World.grownBy.trans HG.out (grown_set _ _ _ _)⟩
    have hk := HK.out
    rcases HP.out with ⟨_, _, h, _⟩ | ⟨h0, m, j, hp, h⟩
    · omega
    · rcases h with ⟨_, _, h, _⟩ | ⟨_, _, _, h, _⟩ | ⟨g1, g2, rfl, rfl, rfl⟩
      · omega
      · omega
      · exact .inr ⟨h0, n, k, hp, .inr (.inr ⟨g1, g2, rfl, rfl, rfl⟩)⟩
  · obtain rfl : k = 0 := by omega
    clear hl hs hk
    go_wp2_with fail
    go_ret
    refine ⟨n, a, e', rfl, ?_, H1.out, HG.out⟩
    rcases HP.out with ⟨g1, g2, g3, g4⟩ | ⟨h0, m, j, hp, h⟩
    · exact .inl ⟨g1, by rw [g2]; rfl, rfl, g4⟩
    · rcases h with ⟨g1, rfl, _, g4⟩ | ⟨g1, g2, rfl, _, g5⟩ | ⟨g1, _, _, g2, _⟩
      · exact .inr ⟨h0, m, j, hp, .inl ⟨g1, rfl, rfl, g4⟩⟩
      · exact .inr ⟨h0, m, j, hp, .inr (.inl ⟨g1, g2, rfl, rfl, g5⟩)⟩
      · omega
end Go.Proofs.Ytfikaekocgofoaa.RdW
/- Which maps may be: atlas.Check. -/
namespace Go.Proofs.Ytfikaekocgofoaa.AtA
open Go.RowKit Go.Proofs.YtfikaekocgofoaaW.PrintWords Go.Proofs.YtfikaekocgofoaaW.PrintMore Mem PAll
open Go.Maps (Keyed int_keyed keyOf_int_mk)
abbrev Od := S37
abbrev kO := k37
/-- From 0 to b? -/
def winB (a b : Int) : Bool := decide (0 ≤ a ∧ a ≤ b)
theorem win_calls (a b : Int) (w : World) : Calls Try.prog 52 #[.int .i64 a, .int .i64 b] w fun e w' => e = .returned (.bool (winB a b)) ∧ w = w' := by
  by_cases h0 : 0 ≤ a
  · have e1 : winB a b = decide (a ≤ b) := by unfold winB; rw [decide_eq_decide]; exact ⟨fun h => h.2, fun h => ⟨h0, h⟩⟩
    rw [e1]
    have h1 : decide (0 ≤ a) = true := decide_eq_true h0
    clear e1 h0
    go_enter Try.func52, Try.ntmps52
    go_wp2
    go_ret
    exact ⟨rfl, rfl⟩
  · have e1 : winB a b = false := decide_eq_false (fun h => h0 h.1)
    rw [e1]
    have h1 : decide (0 ≤ a) = false := decide_eq_false h0
    clear e1 h0
    go_enter Try.func52, Try.ntmps52
    go_wp2
    go_ret
    exact ⟨rfl, rfl⟩
/-- May an OSD be? -/
def osdB (o : Od) : Bool := winB o.f0 999 && (winB o.f6 999 && (winB o.f7 999 && (winB o.f3 16777216 && (winB o.f4 2147483647 && (winB o.f5 2147483647 && (!o.f1 || (decide (1 ≤ o.f4) && decide (1 ≤ o.f5))))))))
/-- May a pool be? -/
def poolB (k m p d : Int) : Bool := decide (1 ≤ k) && (decide (1 ≤ m) && (decide (k ≤ 32) && (decide (m ≤ 32 - k) && (decide (1 ≤ p) && (decide (p ≤ 32) && winB d 2)))))
set_option maxHeartbeats 4000000 in
theorem osd_calls (o : Od) (w : World) : Calls Try.prog 53 #[.agg #[.int .i64 o.f0, .bool o.f1, .bool o.f2, .int .i64 o.f3, .int .i64 o.f4, .int .i64 o.f5, .int .i64 o.f6, .int .i64 o.f7]] w fun e w' => e = .returned (.bool (osdB o)) ∧ Below w.heap.size w w' := by
  have HB := Lib.hid (below_alloc (Below.refl w.heap.size w) (.cells #[.int .i64 o.f0, .bool o.f1, .bool o.f2, .int .i64 o.f3, .int .i64 o.f4, .int .i64 o.f5, .int .i64 o.f6, .int .i64 o.f7] 37))
  cases b1 : winB o.f0 999
  · have e : osdB o = false := by simp [osdB, b1]
    rw [e]
    clear e
    go_enter Try.func53, Try.ntmps53
    go_wp2_with (go_at_call 52; refine (win_calls _ _ _).mono ?_; rintro e w1 ⟨rfl, rfl⟩)
    go_ret
    exact ⟨rfl, by first | exact HB.out | exact below_alloc (Below.refl _ _) _⟩
  cases b2 : winB o.f6 999
  · have e : osdB o = false := by simp [osdB, b1, b2]
    rw [e]
    clear e
    go_enter Try.func53, Try.ntmps53
    go_wp2_with (go_at_call 52; refine (win_calls _ _ _).mono ?_; rintro e w1 ⟨rfl, rfl⟩)
    go_ret
    exact ⟨rfl, by first | exact HB.out | exact below_alloc (Below.refl _ _) _⟩
  cases b3 : winB o.f7 999
  · have e : osdB o = false := by simp [osdB, b1, b2, b3]
    rw [e]
    clear e
    go_enter Try.func53, Try.ntmps53
    go_wp2_with (go_at_call 52; refine (win_calls _ _ _).mono ?_; rintro e w1 ⟨rfl, rfl⟩)
    go_ret
    exact ⟨rfl, by first | exact HB.out | exact below_alloc (Below.refl _ _) _⟩
  cases b4 : winB o.f3 16777216
  · have e : osdB o = false := by simp [osdB, b1, b2, b3, b4]
    rw [e]
    clear e
    go_enter Try.func53, Try.ntmps53
    go_wp2_with (go_at_call 52; refine (win_calls _ _ _).mono ?_; rintro e w1 ⟨rfl, rfl⟩)
    go_ret
    exact ⟨rfl, by first | exact HB.out | exact below_alloc (Below.refl _ _) _⟩
  cases b5 : winB o.f4 2147483647
  · have e : osdB o = false := by simp [osdB, b1, b2, b3, b4, b5]
    rw [e]
    clear e
    go_enter Try.func53, Try.ntmps53
    go_wp2_with (go_at_call 52; refine (win_calls _ _ _).mono ?_; rintro e w1 ⟨rfl, rfl⟩)
    go_ret
    exact ⟨rfl, by first | exact HB.out | exact below_alloc (Below.refl _ _) _⟩
  cases b6 : winB o.f5 2147483647
  · have e : osdB o = false := by simp [osdB, b1, b2, b3, b4, b5, b6]
    rw [e]
    clear e
    go_enter Try.func53, Try.ntmps53
    go_wp2_with (go_at_call 52; refine (win_calls _ _ _).mono ?_; rintro e w1 ⟨rfl, rfl⟩)
    go_ret
    exact ⟨rfl, by first | exact HB.out | exact below_alloc (Below.refl _ _) _⟩
  cases b7 : o.f1
  · have e : osdB o = true := by simp [osdB, b1, b2, b3, b4, b5, b6, b7]
    rw [e]
    clear e
    go_enter Try.func53, Try.ntmps53
    go_wp2_with (go_at_call 52; refine (win_calls _ _ _).mono ?_; rintro e w1 ⟨rfl, rfl⟩)
    go_ret
    exact ⟨rfl, by first | exact HB.out | exact below_alloc (Below.refl _ _) _⟩
  cases b8 : decide (1 ≤ o.f4)
  · have e : osdB o = false := by simp only [osdB, b1, b2, b3, b4, b5, b6, b7, b8]; rfl
    rw [e]
    clear e
    go_enter Try.func53, Try.ntmps53
    go_wp2_with (go_at_call 52; refine (win_calls _ _ _).mono ?_; rintro e w1 ⟨rfl, rfl⟩)
    go_ret
    exact ⟨rfl, by first | exact HB.out | exact below_alloc (Below.refl _ _) _⟩
  cases b9 : decide (1 ≤ o.f5)
  · have e : osdB o = false := by simp only [osdB, b1, b2, b3, b4, b5, b6, b7, b8, b9]; rfl
    rw [e]
    clear e
    go_enter Try.func53, Try.ntmps53
    go_wp2_with (go_at_call 52; refine (win_calls _ _ _).mono ?_; rintro e w1 ⟨rfl, rfl⟩)
    go_ret
    exact ⟨rfl, by first | exact HB.out | exact below_alloc (Below.refl _ _) _⟩
  · have e : osdB o = true := by simp only [osdB, b1, b2, b3, b4, b5, b6, b7, b8, b9]; rfl
    rw [e]
    clear e
    go_enter Try.func53, Try.ntmps53
    go_wp2_with (go_at_call 52; refine (win_calls _ _ _).mono ?_; rintro e w1 ⟨rfl, rfl⟩)
    go_ret
    exact ⟨rfl, by first | exact HB.out | exact below_alloc (Below.refl _ _) _⟩
set_option maxHeartbeats 4000000 in
theorem pool_calls (k m p d : Int) (w : World) : Calls Try.prog 51 #[.agg #[.int .i64 k, .int .i64 m, .int .i64 p, .int .i64 d]] w fun e w' => e = .returned (.bool (poolB k m p d)) ∧ Below w.heap.size w w' := by
  have HB := Lib.hid (below_alloc (Below.refl w.heap.size w) (.cells #[.int .i64 k, .int .i64 m, .int .i64 p, .int .i64 d] 23))
  cases b1 : decide (1 ≤ k)
  · have e : poolB k m p d = false := by simp only [poolB, b1]; rfl
    rw [e]
    clear e
    go_enter Try.func51, Try.ntmps51
    go_wp2_with (go_at_call 52; refine (win_calls _ _ _).mono ?_; rintro e w1 ⟨rfl, rfl⟩)
    go_ret
    exact ⟨rfl, by first | exact HB.out | exact below_alloc (Below.refl _ _) _⟩
  cases b2 : decide (1 ≤ m)
  · have e : poolB k m p d = false := by simp only [poolB, b1, b2]; rfl
    rw [e]
    clear e
    go_enter Try.func51, Try.ntmps51
    go_wp2_with (go_at_call 52; refine (win_calls _ _ _).mono ?_; rintro e w1 ⟨rfl, rfl⟩)
    go_ret
    exact ⟨rfl, by first | exact HB.out | exact below_alloc (Below.refl _ _) _⟩
  cases b3 : decide (k ≤ 32)
  · have e : poolB k m p d = false := by simp only [poolB, b1, b2, b3]; rfl
    rw [e]
    clear e
    go_enter Try.func51, Try.ntmps51
    go_wp2_with (go_at_call 52; refine (win_calls _ _ _).mono ?_; rintro e w1 ⟨rfl, rfl⟩)
    go_ret
    exact ⟨rfl, by first | exact HB.out | exact below_alloc (Below.refl _ _) _⟩
  cases b4 : decide (m ≤ 32 - k)
  · have e : poolB k m p d = false := by simp only [poolB, b1, b2, b3, b4]; rfl
    have k1 : 1 ≤ k := of_decide_eq_true b1
    have k2 : k ≤ 32 := of_decide_eq_true b3
    rw [e]
    clear e
    go_enter Try.func51, Try.ntmps51
    go_wp2_with (go_at_call 52; refine (win_calls _ _ _).mono ?_; rintro e w1 ⟨rfl, rfl⟩)
    go_ret
    exact ⟨rfl, by first | exact HB.out | exact below_alloc (Below.refl _ _) _⟩
  cases b5 : decide (1 ≤ p)
  · have e : poolB k m p d = false := by simp only [poolB, b1, b2, b3, b4, b5]; rfl
    have k1 : 1 ≤ k := of_decide_eq_true b1
    have k2 : k ≤ 32 := of_decide_eq_true b3
    rw [e]
    clear e
    go_enter Try.func51, Try.ntmps51
    go_wp2_with (go_at_call 52; refine (win_calls _ _ _).mono ?_; rintro e w1 ⟨rfl, rfl⟩)
    go_ret
    exact ⟨rfl, by first | exact HB.out | exact below_alloc (Below.refl _ _) _⟩
  cases b6 : decide (p ≤ 32)
  · have e : poolB k m p d = false := by simp only [poolB, b1, b2, b3, b4, b5, b6]; rfl
    have k1 : 1 ≤ k := of_decide_eq_true b1
    have k2 : k ≤ 32 := of_decide_eq_true b3
    rw [e]
    clear e
    go_enter Try.func51, Try.ntmps51
    go_wp2_with (go_at_call 52; refine (win_calls _ _ _).mono ?_; rintro e w1 ⟨rfl, rfl⟩)
    go_ret
    exact ⟨rfl, by first | exact HB.out | exact below_alloc (Below.refl _ _) _⟩
  cases b7 : winB d 2
  · have e : poolB k m p d = false := by simp only [poolB, b1, b2, b3, b4, b5, b6, b7]; rfl
    have k1 : 1 ≤ k := of_decide_eq_true b1
    have k2 : k ≤ 32 := of_decide_eq_true b3
    rw [e]
    clear e
    go_enter Try.func51, Try.ntmps51
    go_wp2_with (go_at_call 52; refine (win_calls _ _ _).mono ?_; rintro e w1 ⟨rfl, rfl⟩)
    go_ret
    exact ⟨rfl, by first | exact HB.out | exact below_alloc (Below.refl _ _) _⟩
  · have e : poolB k m p d = true := by simp only [poolB, b1, b2, b3, b4, b5, b6, b7]; rfl
    have k1 : 1 ≤ k := of_decide_eq_true b1
    have k2 : k ≤ 32 := of_decide_eq_true b3
    rw [e]
    clear e
    go_enter Try.func51, Try.ntmps51
    go_wp2_with (go_at_call 52; refine (win_calls _ _ _).mono ?_; rintro e w1 ⟨rfl, rfl⟩)
    go_ret
    exact ⟨rfl, by first | exact HB.out | exact below_alloc (Below.refl _ _) _⟩
abbrev DW := DataW Unit
abbrev OM (w : World) (b n : Nat) (D : DW) : Prop := w.ownsMap Try.prog 3 (plainElem Try.prog 3) b n D
theorem keyI : Keyed Try.prog 3 := int_keyed Try.underlying3
theorem zeroI (w : World) : (zeroValue 3).run Try.prog w = .ok (.int .i64 0) w := by kernel_rfl
theorem look_rack {w : World} {b n : Nat} {D : DW} (h : OM w b n D) (v : Int) (hv : (Lit.int .i64 v).wf = true) : ∃ c, (Instr.lookup 90 (.map (some b)) (.int .i64 v) true).run Try.prog w = .ok (.tuple #[.int .i64 c, .bool (Maps.has D (.int .i64 v))]) w ∧ D.atKey (.int .i64 v) (.lit (.int .i64 0)) = .lit (.int .i64 c) := by
  obtain ⟨y, ps, hrun, hy⟩ := h.look_ok keyI Try.underlying90 (zeroI w) (plainElem_int Try.underlying3 (by decide)) (keyOf_int_mk Try.underlying3 hv)
  obtain ⟨c, rfl, hc, _⟩ := plainElem_int_inv Try.underlying3 hy
  exact ⟨c, hrun, congrArg Prod.fst hc⟩
/-- May the first k be? -/
def Good (l : List Od) (k : Nat) : Prop := ∀ i o, i < k → l[i]? = some o → osdB o = true ∧ ∀ j p, j < i → l[j]? = some p → p.f0 < o.f0 ∧ (p.f6 = o.f6 → p.f7 = o.f7)
/-- What the map of racks holds. -/
def Racks (l : List Od) (k : Nat) (D : DW) : Prop := (∀ i o, i < k → l[i]? = some o → Maps.has D (.int .i64 o.f6) = true ∧ D.atKey (.int .i64 o.f6) (.lit (.int .i64 0)) = .lit (.int .i64 o.f7)) ∧ (∀ h : Int, Maps.has D (.int .i64 h) = true → ∃ i o, i < k ∧ l[i]? = some o ∧ o.f6 = h)
theorem racks_put {l : List Od} {k : Nat} {D : DW} {o : Od} (h : Racks l k D) (hm : Go.Maps.IsMap D) (ho : l[k]? = some o) (hg : Good l (k + 1)) : Racks l (k + 1) (D.put (.int .i64 o.f6) (.lit (.int .i64 o.f7))) := by
  refine ⟨fun i p hi hp => ?_, fun v hv => ?_⟩
  · by_cases e : p.f6 = o.f6
    · have hr : p.f7 = o.f7 := by
        rcases Nat.lt_or_ge i k with hik | hik
        · exact ((hg k o (by omega) ho).2 i p hik hp).2 e
        · obtain rfl : i = k := by omega
          rw [ho] at hp
          rw [Option.some.inj hp]
      rw [e, hr]
      exact ⟨Go.Maps.has_put_same hm (by trivial) _, Go.Maps.atKey_put_same hm (by trivial) _ _⟩
    · have hik : i < k := by
        rcases Nat.lt_or_ge i k with hik | hik
        · exact hik
        · obtain rfl : i = k := by omega
          rw [ho] at hp
          exact absurd (by rw [Option.some.inj hp]) e
      have hne : (Lit.int .i64 p.f6) ≠ (Lit.int .i64 o.f6) := by intro hh; injection hh with _ hh; exact e hh
      rw [Go.Maps.has_put_other hne, Go.Maps.atKey_put_other hne]
      exact h.1 i p hik hp
  · by_cases e : v = o.f6
    · exact ⟨k, o, by omega, ho, e.symm⟩
    · rw [Go.Maps.has_put_other (by intro hh; injection hh with _ hh; exact e hh)] at hv
      obtain ⟨i, p, h1, h2, h3⟩ := h.2 v hv
      exact ⟨i, p, by omega, h2, h3⟩
theorem good_step {l : List Od} {k : Nat} {D : DW} {o : Od} (hg : Good l k) (hr : Racks l k D) (ho : l[k]? = some o) (h1 : osdB o = true) (h2 : ∀ p, 0 < k → l[k - 1]? = some p → p.f0 < o.f0) (h3 : Maps.has D (.int .i64 o.f6) = true → D.atKey (.int .i64 o.f6) (.lit (.int .i64 0)) = .lit (.int .i64 o.f7)) : Good l (k + 1) := by
  intro i p hi hp
  rcases Nat.lt_or_ge i k with hik | hik
  · exact hg i p hik hp
  · obtain rfl : i = k := by omega
    rw [ho] at hp
    obtain rfl := Option.some.inj hp
    refine ⟨h1, fun j q hj hq => ⟨?_, fun e => ?_⟩⟩
    · have hk : 0 < i := by omega
      have hlt : i - 1 < l.length := by have := (List.getElem?_eq_some_iff.1 ho).1; omega
      have hb := h2 l[i - 1] hk (List.getElem?_eq_getElem hlt)
      rcases Nat.lt_or_ge j (i - 1) with hj2 | hj2
      · have := ((hg (i - 1) l[i - 1] (by omega) (List.getElem?_eq_getElem hlt)).2 j q hj2 hq).1
        omega
      · obtain rfl : j = i - 1 := by omega
        rw [List.getElem?_eq_getElem hlt] at hq
        rw [← Option.some.inj hq]; exact hb
    · have := hr.1 j q hj hq
      rw [e] at this
      have h4 := h3 this.1
      rw [this.2] at h4
      injection h4 with h4
      injection h4
theorem not_good {l : List Od} {k n : Nat} {o : Od} (hk : k < n) (ho : l[k]? = some o) (h : osdB o = false ∨ ∃ j p, j < k ∧ l[j]? = some p ∧ (o.f0 ≤ p.f0 ∨ (p.f6 = o.f6 ∧ p.f7 ≠ o.f7))) : ¬ Good l n := by
  intro hg
  have := hg k o hk ho
  rcases h with h | ⟨j, p, h1, h2, h3⟩
  · rw [h] at this; exact absurd this.1 (by decide)
  · have h4 := this.2 j p h1 h2
    rcases h3 with h3 | ⟨h3, h5⟩
    · omega
    · exact h5 (h4.2 h3)
open Classical in
/-- May the map's OSDs be? -/
noncomputable def goodB (l : List Od) : Bool := decide (Good l l.length)
open Classical in
theorem goodB_no {l : List Od} (h : ¬ Good l l.length) : goodB l = false := decide_eq_false h
open Classical in
theorem goodB_yes {l : List Od} (h : Good l l.length) : goodB l = true := decide_eq_true h
open Classical in
theorem goodB_iff {l : List Od} : goodB l = true ↔ Good l l.length := decide_eq_true_iff
/-- What Check tells of the OSDs. -/
noncomputable def chkI (l : List Od) : Int := if goodB l = true then 0 else 1
theorem chkI_no {l : List Od} (h : ¬ Good l l.length) : chkI l = 1 := by unfold chkI; rw [goodB_no h]; rfl
theorem chkI_yes {l : List Od} (h : Good l l.length) : chkI l = 0 := by unfold chkI; rw [goodB_yes h]; rfl
noncomputable def mayB (ep k m p d : Int) (l : List Od) : Bool := winB ep 1048576 && (poolB k m p d && (decide (l.length ≤ 64) && goodB l))
theorem om_below {w w1 : World} {b n : Nat} {D : DW} (h : OM w b n D) (hb : Below w.heap.size w w1) : OM w1 b n D := h.kept (grown_of_below hb none) (by simp)
theorem made (w : World) (o : Obj) : OM ((w.alloc o).alloc (.map #[] 0)) (w.heap.size + 1) 0 (.map []) := by
  have e : (w.alloc o).heap.size = w.heap.size + 1 := by simp
  exact e ▸ World.ownsMap_made (w.alloc o) Try.prog _ _
section
variable (ep k m p d : Int) (A : Option Addr) (c : Nat) (l : List Od) (w : World)
def boxM : Array Value := #[.int .i64 ep, .int .i64 k, .int .i64 m, .int .i64 p, .int .i64 d, .slice A l.length c]
theorem check_ep (h : winB ep 1048576 = false) :
    Calls Try.prog 29 #[.agg (boxM ep k m p d A c l)] w fun e w' => e = .returned (.int .i64 1) ∧ Below w.heap.size w w' := by
  unfold boxM
  have HB := Lib.hid (below_alloc (Below.refl w.heap.size w) (.cells #[.int .i64 ep, .int .i64 k, .int .i64 m, .int .i64 p, .int .i64 d, .slice A l.length c] 28))
  go_enter Try.func29, Try.ntmps29
  go_wp2_with fail
  refine (win_calls _ _ _).mono ?_
  rintro e w1 ⟨rfl, rfl⟩
  rw [h]
  go_wp2_with fail
  go_ret
  exact ⟨rfl, HB.out⟩
theorem check_pool (h0 : winB ep 1048576 = true) (h : poolB k m p d = false) :
    Calls Try.prog 29 #[.agg (boxM ep k m p d A c l)] w fun e w' => e = .returned (.int .i64 1) ∧ Below w.heap.size w w' := by
  unfold boxM
  have HB := Lib.hid (below_alloc (Below.refl w.heap.size w) (.cells #[.int .i64 ep, .int .i64 k, .int .i64 m, .int .i64 p, .int .i64 d, .slice A l.length c] 28))
  go_enter Try.func29, Try.ntmps29
  go_wp2_with fail
  refine (win_calls _ _ _).mono ?_
  rintro e w1 ⟨rfl, rfl⟩
  rw [h0]
  go_wp2_with fail
  refine (pool_calls _ _ _ _ _).mono ?_
  rintro e w1 ⟨rfl, hb⟩
  rw [h]
  have HB2 := Lib.hid (below_then HB.out HB.out.size hb)
  clear hb
  go_wp2_with fail
  go_ret
  exact ⟨rfl, HB2.out⟩
theorem check_many (h0 : winB ep 1048576 = true) (h1 : poolB k m p d = true) (h2 : 64 < l.length) (hs : l.length ≤ 9223372036854775807) :
    Calls Try.prog 29 #[.agg (boxM ep k m p d A c l)] w fun e w' => e = .returned (.int .i64 1) ∧ Below w.heap.size w w' := by
  unfold boxM
  have HB := Lib.hid (below_alloc (Below.refl w.heap.size w) (.cells #[.int .i64 ep, .int .i64 k, .int .i64 m, .int .i64 p, .int .i64 d, .slice A l.length c] 28))
  have c5 : (w.alloc (.cells #[.int .i64 ep, .int .i64 k, .int .i64 m, .int .i64 p, .int .i64 d, .slice A l.length c] 28)).cell? ⟨w.heap.size, 5, none⟩ = some (.slice A l.length c) := blk_cell (blk_new w _) 5
  have hd : decide (64 < l.length) = true := decide_eq_true h2
  have hd2 : decide ((64 : Int) < (l.length : Int)) = true := decide_eq_true (by omega)
  clear h2
  go_enter Try.func29, Try.ntmps29
  go_wp2_with fail
  refine (win_calls _ _ _).mono ?_
  rintro e w1 ⟨rfl, rfl⟩
  rw [h0]
  go_wp2_with fail
  refine (pool_calls _ _ _ _ _).mono ?_
  rintro e w1 ⟨rfl, hb⟩
  rw [h1]
  have HB2 := Lib.hid (below_then HB.out HB.out.size hb)
  have c5' : w1.cell? ⟨w.heap.size, 5, none⟩ = some (.slice A l.length c) := (hb.cell (p := ⟨w.heap.size, 5, none⟩) (by simp)).trans c5
  clear hb
  go_wp2_with fail
  go_ret
  exact ⟨rfl, HB2.out⟩
theorem bad_rack {l : List Od} {n : Nat} {D : DW} {o : Od} {rk : Int} (hr : Racks l n D) (hk : Maps.has D (.int .i64 o.f6) = true) (hat : D.atKey (.int .i64 o.f6) (.lit (.int .i64 0)) = .lit (.int .i64 rk)) (hne : rk ≠ o.f7) : ∃ j p, j < n ∧ l[j]? = some p ∧ (o.f0 ≤ p.f0 ∨ (p.f6 = o.f6 ∧ p.f7 ≠ o.f7)) := by
  obtain ⟨j, q, hj, hq, e⟩ := hr.2 o.f6 hk
  refine ⟨j, q, hj, hq, .inr ⟨e, fun e3 => ?_⟩⟩
  have h := (hr.1 j q hj hq).2
  rw [e, hat] at h
  injection h with h
  injection h with _ h
  exact hne (h.trans e3)
/-- An element's cells. -/
theorem at_O {w : World} {A : Option Addr} {n : Nat} {xs : List Od} (h : kO.C w A n xs) (i : Nat) (h1 : i < n) : ∃ ad o, xs[i]? = some o ∧ A = some ad ∧ w.cell? (ad.add (i * 8)) = some (.int .i64 o.f0) ∧ w.cell? ⟨(ad.add (i * 8)).block, (ad.add (i * 8)).off + 1, none⟩ = some (.bool o.f1) ∧ w.cell? ⟨(ad.add (i * 8)).block, (ad.add (i * 8)).off + 2, none⟩ = some (.bool o.f2) ∧ w.cell? ⟨(ad.add (i * 8)).block, (ad.add (i * 8)).off + 3, none⟩ = some (.int .i64 o.f3) ∧ w.cell? ⟨(ad.add (i * 8)).block, (ad.add (i * 8)).off + 4, none⟩ = some (.int .i64 o.f4) ∧ w.cell? ⟨(ad.add (i * 8)).block, (ad.add (i * 8)).off + 5, none⟩ = some (.int .i64 o.f5) ∧ w.cell? ⟨(ad.add (i * 8)).block, (ad.add (i * 8)).off + 6, none⟩ = some (.int .i64 o.f6) ∧ w.cell? ⟨(ad.add (i * 8)).block, (ad.add (i * 8)).off + 7, none⟩ = some (.int .i64 o.f7) := by
  obtain ⟨ad, hA, a0, a1, a2, a3, a4, a5, a6, a7⟩ := at_T37 h (i : Int) (by omega) (by omega)
  have hl : i < xs.length := by have := h.1; omega
  have e : rd_T37 xs (i : Int) = xs[i] := by simp [rd_T37, List.getD_eq_getElem?_getD, List.getElem?_eq_getElem hl]
  rw [e] at a0 a1 a2 a3 a4 a5 a6 a7
  exact ⟨ad, xs[i], List.getElem?_eq_getElem hl, hA, a0, a1, a2, a3, a4, a5, a6, a7⟩
abbrev aggO (o : Od) : Array Value := #[.int .i64 o.f0, .bool o.f1, .bool o.f2, .int .i64 o.f3, .int .i64 o.f4, .int .i64 o.f5, .int .i64 o.f6, .int .i64 o.f7]
theorem blkO {w : World} {g : Nat} {o : Od} (h : w.heap[g]? = some (.cells (aggO o) 37 (0, 0))) : w.cell? ⟨g, 0, none⟩ = some (.int .i64 o.f0) ∧ w.cell? ⟨g, 1, none⟩ = some (.bool o.f1) ∧ w.cell? ⟨g, 2, none⟩ = some (.bool o.f2) ∧ w.cell? ⟨g, 3, none⟩ = some (.int .i64 o.f3) ∧ w.cell? ⟨g, 4, none⟩ = some (.int .i64 o.f4) ∧ w.cell? ⟨g, 5, none⟩ = some (.int .i64 o.f5) ∧ w.cell? ⟨g, 6, none⟩ = some (.int .i64 o.f6) ∧ w.cell? ⟨g, 7, none⟩ = some (.int .i64 o.f7) :=
  ⟨blk_cell h 0, blk_cell h 1, blk_cell h 2, blk_cell h 3, blk_cell h 4, blk_cell h 5, blk_cell h 6, blk_cell h 7⟩
abbrev aggM (ep k m p d : Int) (A : Option Addr) (n c : Nat) : Array Value := #[.int .i64 ep, .int .i64 k, .int .i64 m, .int .i64 p, .int .i64 d, .slice A n c]
set_option maxHeartbeats 4000000 in
set_option maxRecDepth 100000 in
theorem check_loop (h0 : winB ep 1048576 = true) (h1 : poolB k m p d = true) (h2 : l.length ≤ 64) (hx : kO.C w A l.length l) (hwf : ∀ o ∈ l, (Lit.int .i64 o.f6).wf = true) (hwf7 : ∀ o ∈ l, (Lit.int .i64 o.f7).wf = true) :
    Calls Try.prog 29 #[.agg (aggM ep k m p d A l.length c)] w fun e w' => e = .returned (.int .i64 (chkI l)) ∧ Below w.heap.size w w' := by
  have HB := Lib.hid (below_alloc (Below.refl w.heap.size w) (.cells (aggM ep k m p d A l.length c) 28))
  have hblk : (w.alloc (.cells (aggM ep k m p d A l.length c) 28)).heap[w.heap.size]? = some (.cells (aggM ep k m p d A l.length c) 28 (0, 0)) := blk_new w _
  have c5 : (w.alloc (.cells (aggM ep k m p d A l.length c) 28)).cell? ⟨w.heap.size, 5, none⟩ = some (.slice A l.length c) := blk_cell hblk 5
  have hd : decide (64 < l.length) = false := decide_eq_false (by omega)
  have hd2 : decide ((64 : Int) < (l.length : Int)) = false := decide_eq_false (by omega)
  have HC := Lib.hid hx
  have HF := Lib.hid hwf
  have HF7 := Lib.hid hwf7
  have HBK := Lib.hid hblk
  have hmm := @run_makeMap Try.prog
  clear hx hwf hwf7 hblk
  go_enter Try.func29, Try.ntmps29
  go_wp2_with fail
  refine (win_calls _ _ _).mono ?_
  rintro e w1 ⟨rfl, rfl⟩
  rw [h0]
  go_wp2_with fail
  refine (pool_calls _ _ _ _ _).mono ?_
  rintro e w1 ⟨rfl, hb⟩
  rw [h1]
  have HB2 := Lib.hid (below_then HB.out HB.out.size hb)
  have HBK2 := Lib.hid (blk_below HBK.out hb)
  clear hb c5 HB HBK
  have c5 : w1.cell? ⟨w.heap.size, 5, none⟩ = some (.slice A l.length c) := blk_cell HBK2.out 5
  have HM0 : Hid (OM (w1.alloc (.map #[] 0)) w1.heap.size 0 (.map [])) := Lib.hid (World.ownsMap_made w1 Try.prog _ _)
  have HBK3 := Lib.hid (blk_below HBK2.out (below_alloc (Below.refl _ _) (.map #[] 0)))
  have HB3 := Lib.hid (below_alloc HB2.out (.map #[] 0))
  have HLT : Hid (w.heap.size < w1.heap.size) := Lib.hid (blk_lt HBK2.out)
  have HLE : Hid (w.heap.size ≤ w1.heap.size) := Lib.hid HB2.out.size
  have c5m : (w1.alloc (.map #[] 0)).cell? ⟨w.heap.size, 5, none⟩ = some (.slice A l.length c) := blk_cell HBK3.out 5
  obtain ⟨wb, hwb⟩ : ∃ wb, wb = w1.heap.size := ⟨_, rfl⟩
  go_wp2_with fail
  rw [← hwb]
  rw [← hwb] at HM0 HLT HLE
  clear hwb
  go_loopw [28] (fun i' wr => ∃ (n : Nat) (D : DW), i' = .int .i64 n ∧ Hid (n ≤ l.length) ∧ Hid (Good l n) ∧ Hid (Racks l n D) ∧ Hid (OM wr wb n D) ∧ Hid (wr.heap[w.heap.size]? = some (.cells (aggM ep k m p d A l.length c) 28 (0, 0))) ∧ Hid (Below w.heap.size w wr)) (fun i' _ => (l.length - intOf i').toNat)
  case atStart => exact ⟨0, .map [], rfl, Lib.hid (by omega), Lib.hid (fun i o hi => absurd hi (by omega)), Lib.hid ⟨fun i o hi => absurd hi (by omega), fun h hh => by cases hh⟩, HM0, HBK3, HB3⟩
  case round =>
    obtain ⟨n, D, rfl, HN, HG, HR, HM, HBX, HB⟩ := hrel
    clear c5 c5m HM0 HB3 HBK3 HB2 HBK2
    have hn := HN.out
    by_cases h : n < l.length
    · have hlt : decide (n < l.length) = true := decide_eq_true h
      have i0 : (0 : Int) ≤ n := by omega
      obtain ⟨ad, o, ho, hA, a0, a1, a2, a3, a4, a5, a6, a7⟩ := at_O (Kd.C_below HC.out HB.out) n h
      subst hA
      have HON := Lib.hid ho
      have hw6 := HF.out o (List.mem_of_getElem? ho)
      have HW6 := Lib.hid hw6
      have HBA := Lib.hid (below_alloc (Below.refl wr.heap.size wr) (.cells (aggO o) 37))
      obtain ⟨rk, hlook, hat⟩ := look_rack (om_below HM.out HBA.out) o.f6 hw6
      have HAT := Lib.hid hat
      obtain ⟨kn, hkn⟩ : ∃ kn, kn = Maps.has D (.int .i64 o.f6) := ⟨_, rfl⟩
      rw [← hkn] at hlook
      have HKN := Lib.hid hkn
      have HB4 := Lib.hid (below_alloc HB.out (.cells (aggO o) 37))
      have HM4 := Lib.hid (om_below HM.out HBA.out)
      have HBX4 := Lib.hid (blk_alloc HBX.out (.cells (aggO o) 37))
      have HOB4 : Hid ((wr.alloc (.cells (aggO o) 37)).heap[wr.heap.size]? = some (.cells (aggO o) 37 (0, 0))) := Lib.hid (blk_new wr _)
      have HSZ : Hid (wb < wr.heap.size) := Lib.hid HM.out.lt
      clear ho hw6 hat hkn HM HB HBX
      go_wp2_with fail
      obtain ⟨w4, hw4⟩ : ∃ w4, w4 = wr.alloc (.cells (aggO o) 37) := ⟨_, rfl⟩
      obtain ⟨go, hgo⟩ : ∃ go, go = wr.heap.size := ⟨_, rfl⟩
      rw [← hw4] at HB4 HM4 HBX4 HOB4 ⊢
      rw [← hgo] at HOB4 HSZ ⊢
      clear hw4 hgo hlook a0 a1 a2 a3 a4 a5 a6 a7 HBA
      obtain ⟨y0, y1, y2, y3, y4, y5, y6, y7⟩ := blkO HOB4.out
      have x5 : w4.cell? ⟨w.heap.size, 5, none⟩ = some (.slice (some ad) l.length c) := blk_cell HBX4.out 5
      have z0 := cell_regrown y0
      have z1 := cell_regrown y1
      have z2 := cell_regrown y2
      have z3 := cell_regrown y3
      have z4 := cell_regrown y4
      have z5 := cell_regrown y5
      have z6 := cell_regrown y6
      have z7 := cell_regrown y7
      have zx := cell_regrown x5
      clear y0 y1 y2 y3 y4 y5 y6 y7 x5
      obtain ⟨ob, hob⟩ : ∃ ob, ob = osdB o := ⟨_, rfl⟩
      have HOB := Lib.hid hob
      have T : Hid (∀ dd os, Calls Try.prog 53 #[.agg (aggO o)] (Sort.grow (redrawn w4 dd) os) fun e w' => e = .returned (.bool ob) ∧ Below (Sort.grow (redrawn w4 dd) os).heap.size (Sort.grow (redrawn w4 dd) os) w') := Lib.hid (fun dd os => by rw [hob]; exact osd_calls o _)
      clear hob
      cases ob with
      | false =>
        go_wp2_with fail
        refine wp_region_quiet_below (by kernel_rfl) (by kernel_rfl) ?_
        repeat (go_big_quiet_step ((go_at_call 53; exact Calls.regrown_of (T.out _ _))))
        refine wpQuiet_nil ?_
        intro _ hw'
        obtain ⟨⟨dq, osq⟩, hw''⟩ := hw'
        subst hw''
        have HB5 := Lib.hid (below_then HB4.out HB4.out.size (below_regrown w4 dq osq))
        go_wp2_with fail
        go_ret
        refine ⟨?_, HB5.out⟩
        have hng : chkI l = 1 := chkI_no (not_good h HON.out (.inl HOB.out.symm))
        rw [hng]; rfl
      | true =>
        have key : ∃ low : Bool, (low = true → ∃ j q, j < n ∧ l[j]? = some q ∧ o.f0 ≤ q.f0) ∧ (low = false → ∀ q, 0 < n → l[n - 1]? = some q → q.f0 < o.f0) ∧
            ((n = 0 ∧ low = false) ∨ (0 < n ∧ ∃ q, l[n - 1]? = some q ∧ low = decide (o.f0 ≤ q.f0))) := by
          rcases Nat.eq_zero_or_pos n with h0 | h0
          · exact ⟨false, (fun h => absurd h (by decide)), (fun _ q hp => by omega), .inl ⟨h0, rfl⟩⟩
          · have hlt2 : n - 1 < l.length := by omega
            refine ⟨decide (o.f0 ≤ (l[n - 1]).f0), fun h => ⟨n - 1, l[n - 1], by omega, List.getElem?_eq_getElem hlt2, of_decide_eq_true h⟩, fun h q _ hq => ?_, .inr ⟨h0, l[n - 1], List.getElem?_eq_getElem hlt2, rfl⟩⟩
            rw [List.getElem?_eq_getElem hlt2] at hq
            have := of_decide_eq_false h
            rw [← Option.some.inj hq]; omega
        obtain ⟨low, hl1, hl2, hl3⟩ := key
        have HL1 := Lib.hid hl1
        have HL2 := Lib.hid hl2
        clear hl1 hl2
        obtain ⟨bad, hbad⟩ : ∃ bad, bad = (kn && !(rk == o.f7)) := ⟨_, rfl⟩
        have HBAD : Hid (bad = (kn && !(rk == o.f7))) := Lib.hid hbad
        have HEND : Hid (goodB l = true ∨ goodB l = false) := Lib.hid (by cases goodB l; exact .inr rfl; exact .inl rfl)
        rcases hl3 with ⟨hz, rfl⟩ | ⟨hz, q, hq, hlo⟩
        · have hz0 : decide (0 < n) = false := decide_eq_false (by omega)
          have hz1 : decide ((0 : Int) < (n : Int)) = false := decide_eq_false (by omega)
          cases kn
          · go_wp2_with fail
            refine wp_region_quiet_below (by kernel_rfl) (by kernel_rfl) ?_
            repeat (go_big_quiet_step ((go_at_call 53; exact Calls.regrown_of (T.out _ _))))
            refine wpQuiet_nil ?_
            intro _ hw'
            obtain ⟨⟨dq, osq⟩, hw''⟩ := hw'
            subst hw''
            have HB5 := Lib.hid (below_then HB4.out HB4.out.size (below_regrown w4 dq osq))
            have HM5 := Lib.hid (om_below HM4.out (below_regrown w4 dq osq))
            have HBX5 := Lib.hid (blk_below HBX4.out (below_regrown w4 dq osq))
            have HOB5 := Lib.hid (blk_below HOB4.out (below_regrown w4 dq osq))
            obtain ⟨w5, hw5⟩ : ∃ w5, w5 = Sort.grow (redrawn w4 dq) osq := ⟨_, rfl⟩
            rw [← hw5] at HB5 HM5 HBX5 HOB5 ⊢
            clear hw5 z0 z1 z2 z3 z4 z5 z6 z7 zx T HB4 HM4 HBX4 HOB4
            have HGD : Hid (Good l (n + 1)) := Lib.hid (good_step HG.out HR.out HON.out HOB.out.symm (HL2.out (by simp)) (fun hk => by rw [← HKN.out] at hk; cases hk))
            have HIM := Lib.hid HM5.out.isMap
            obtain ⟨y0, y1, y2, y3, y4, y5, y6, y7⟩ := blkO HOB5.out
            go_wp2_with (first | (at_mapUpdate; go_must (refine wpList_mapUpdate_own _ rfl _ _ _ 90 rfl 3 3 keyI Try.underlying90 _ wb n D rfl (by exact HM5.out) ?hn _ _ (.int .i64 o.f6) rfl rfl (keyOf_int_mk Try.underlying3 HW6.out) (.lit (.int .i64 o.f7)) [] (plainElem_int Try.underlying3 (HF7.out o (List.mem_of_getElem? HON.out))) ?_; (case hn => simp only [maxLen]; omega)); intro w2 ho hg; have HM6 := Lib.hid ho; have HB6 := Lib.hid (HB5.out.grown hg HB5.out.size (fun k hk => by injection hk with hk; have := HLE.out; omega)); have HBX6 := Lib.hid (blk_grown HBX5.out hg (by intro e; injection e with e; have := HLT.out; omega)); clear ho hg HM5 HB5 HBX5 HOB5 y0 y1 y2 y3 y4 y5 y6 y7))
            go_roundw
            case rel => exact ⟨n + 1, _, by go_num, Lib.hid (by omega), HGD, Lib.hid (racks_put HR.out HIM.out HON.out HGD.out), HM6, HBX6, HB6⟩
            case measure => simp only [intOf]; omega
          · cases hrk : (rk == o.f7)
            · have hrk2 : (rk != o.f7) = true := by rw [bne, hrk]; rfl
              have HRK := Lib.hid hrk
              clear hrk
              go_wp2_with fail
              refine wp_region_quiet_below (by kernel_rfl) (by kernel_rfl) ?_
              repeat (go_big_quiet_step ((go_at_call 53; exact Calls.regrown_of (T.out _ _))))
              refine wpQuiet_nil ?_
              intro _ hw'
              obtain ⟨⟨dq, osq⟩, hw''⟩ := hw'
              subst hw''
              have HB5 := Lib.hid (below_then HB4.out HB4.out.size (below_regrown w4 dq osq))
              go_wp2_with fail
              go_ret
              refine ⟨?_, HB5.out⟩
              have hng : chkI l = 1 := chkI_no (not_good h HON.out (.inr (bad_rack HR.out HKN.out.symm HAT.out (beq_eq_false_iff_ne.1 HRK.out))))
              rw [hng]; rfl
            · have hrk2 : (rk != o.f7) = false := by rw [bne, hrk]; rfl
              have HRK := Lib.hid hrk
              clear hrk
              go_wp2_with fail
              refine wp_region_quiet_below (by kernel_rfl) (by kernel_rfl) ?_
              repeat (go_big_quiet_step ((go_at_call 53; exact Calls.regrown_of (T.out _ _))))
              refine wpQuiet_nil ?_
              intro _ hw'
              obtain ⟨⟨dq, osq⟩, hw''⟩ := hw'
              subst hw''
              have HB5 := Lib.hid (below_then HB4.out HB4.out.size (below_regrown w4 dq osq))
              have HM5 := Lib.hid (om_below HM4.out (below_regrown w4 dq osq))
              have HBX5 := Lib.hid (blk_below HBX4.out (below_regrown w4 dq osq))
              have HOB5 := Lib.hid (blk_below HOB4.out (below_regrown w4 dq osq))
              obtain ⟨w5, hw5⟩ : ∃ w5, w5 = Sort.grow (redrawn w4 dq) osq := ⟨_, rfl⟩
              rw [← hw5] at HB5 HM5 HBX5 HOB5 ⊢
              clear hw5 z0 z1 z2 z3 z4 z5 z6 z7 zx T HB4 HM4 HBX4 HOB4
              have HGD : Hid (Good l (n + 1)) := Lib.hid (good_step HG.out HR.out HON.out HOB.out.symm (HL2.out (by simp)) (fun hk => by rw [HAT.out, beq_iff_eq.1 HRK.out]))
              have HIM := Lib.hid HM5.out.isMap
              obtain ⟨y0, y1, y2, y3, y4, y5, y6, y7⟩ := blkO HOB5.out
              go_wp2_with (first | (at_mapUpdate; go_must (refine wpList_mapUpdate_own _ rfl _ _ _ 90 rfl 3 3 keyI Try.underlying90 _ wb n D rfl (by exact HM5.out) ?hn _ _ (.int .i64 o.f6) rfl rfl (keyOf_int_mk Try.underlying3 HW6.out) (.lit (.int .i64 o.f7)) [] (plainElem_int Try.underlying3 (HF7.out o (List.mem_of_getElem? HON.out))) ?_; (case hn => simp only [maxLen]; omega)); intro w2 ho hg; have HM6 := Lib.hid ho; have HB6 := Lib.hid (HB5.out.grown hg HB5.out.size (fun k hk => by injection hk with hk; have := HLE.out; omega)); have HBX6 := Lib.hid (blk_grown HBX5.out hg (by intro e; injection e with e; have := HLT.out; omega)); clear ho hg HM5 HB5 HBX5 HOB5 y0 y1 y2 y3 y4 y5 y6 y7))
              go_roundw
              case rel => exact ⟨n + 1, _, by go_num, Lib.hid (by omega), HGD, Lib.hid (racks_put HR.out HIM.out HON.out HGD.out), HM6, HBX6, HB6⟩
              case measure => simp only [intOf]; omega
        · have hz0 : decide (0 < n) = true := decide_eq_true hz
          have hz1 : decide ((0 : Int) < (n : Int)) = true := decide_eq_true (by omega)
          obtain ⟨ad2, q2, hq2, hA2, b0, b1, b2, b3, b4, b5, b6, b7⟩ := at_O (Kd.C_below HC.out HB4.out) (n - 1) (by omega)
          rw [hq] at hq2
          obtain rfl := Option.some.inj hq2
          injection hA2 with hA2
          subst hA2
          have u0 := cell_regrown b0
          have j0 : (0 : Int) ≤ (n : Int) - 1 := by omega
          have j1 : (n : Int) - 1 < l.length := by omega
          have jw : IntKind.i64.wrap ((n : Int) - 1) = (n : Int) - 1 := IntWalk.i64_in _ (by omega)
          have jn : ((n : Int) - 1).toNat = n - 1 := by omega
          clear hq hq2 b0 b1 b2 b3 b4 b5 b6 b7
          cases low
          · have hlo2 : decide (o.f0 ≤ q.f0) = false := hlo.symm
            clear hlo
            cases kn
            · go_wp2_with fail
              refine wp_region_quiet_below (by kernel_rfl) (by kernel_rfl) ?_
              repeat (go_big_quiet_step ((go_at_call 53; exact Calls.regrown_of (T.out _ _))))
              refine wpQuiet_nil ?_
              intro _ hw'
              obtain ⟨⟨dq, osq⟩, hw''⟩ := hw'
              subst hw''
              have HB5 := Lib.hid (below_then HB4.out HB4.out.size (below_regrown w4 dq osq))
              have HM5 := Lib.hid (om_below HM4.out (below_regrown w4 dq osq))
              have HBX5 := Lib.hid (blk_below HBX4.out (below_regrown w4 dq osq))
              have HOB5 := Lib.hid (blk_below HOB4.out (below_regrown w4 dq osq))
              obtain ⟨w5, hw5⟩ : ∃ w5, w5 = Sort.grow (redrawn w4 dq) osq := ⟨_, rfl⟩
              rw [← hw5] at HB5 HM5 HBX5 HOB5 ⊢
              clear hw5 z0 z1 z2 z3 z4 z5 z6 z7 zx T HB4 HM4 HBX4 HOB4
              have HGD : Hid (Good l (n + 1)) := Lib.hid (good_step HG.out HR.out HON.out HOB.out.symm (HL2.out (by simp)) (fun hk => by rw [← HKN.out] at hk; cases hk))
              have HIM := Lib.hid HM5.out.isMap
              obtain ⟨y0, y1, y2, y3, y4, y5, y6, y7⟩ := blkO HOB5.out
              go_wp2_with (first | (at_mapUpdate; go_must (refine wpList_mapUpdate_own _ rfl _ _ _ 90 rfl 3 3 keyI Try.underlying90 _ wb n D rfl (by exact HM5.out) ?hn _ _ (.int .i64 o.f6) rfl rfl (keyOf_int_mk Try.underlying3 HW6.out) (.lit (.int .i64 o.f7)) [] (plainElem_int Try.underlying3 (HF7.out o (List.mem_of_getElem? HON.out))) ?_; (case hn => simp only [maxLen]; omega)); intro w2 ho hg; have HM6 := Lib.hid ho; have HB6 := Lib.hid (HB5.out.grown hg HB5.out.size (fun k hk => by injection hk with hk; have := HLE.out; omega)); have HBX6 := Lib.hid (blk_grown HBX5.out hg (by intro e; injection e with e; have := HLT.out; omega)); clear ho hg HM5 HB5 HBX5 HOB5 y0 y1 y2 y3 y4 y5 y6 y7))
              go_roundw
              case rel => exact ⟨n + 1, _, by go_num, Lib.hid (by omega), HGD, Lib.hid (racks_put HR.out HIM.out HON.out HGD.out), HM6, HBX6, HB6⟩
              case measure => simp only [intOf]; omega
            · cases hrk : (rk == o.f7)
              · have hrk2 : (rk != o.f7) = true := by rw [bne, hrk]; rfl
                have HRK := Lib.hid hrk
                clear hrk
                go_wp2_with fail
                refine wp_region_quiet_below (by kernel_rfl) (by kernel_rfl) ?_
                repeat (go_big_quiet_step ((go_at_call 53; exact Calls.regrown_of (T.out _ _))))
                refine wpQuiet_nil ?_
                intro _ hw'
                obtain ⟨⟨dq, osq⟩, hw''⟩ := hw'
                subst hw''
                have HB5 := Lib.hid (below_then HB4.out HB4.out.size (below_regrown w4 dq osq))
                go_wp2_with fail
                go_ret
                refine ⟨?_, HB5.out⟩
                have hng : chkI l = 1 := chkI_no (not_good h HON.out (.inr (bad_rack HR.out HKN.out.symm HAT.out (beq_eq_false_iff_ne.1 HRK.out))))
                rw [hng]; rfl
              · have hrk2 : (rk != o.f7) = false := by rw [bne, hrk]; rfl
                have HRK := Lib.hid hrk
                clear hrk
                go_wp2_with fail
                refine wp_region_quiet_below (by kernel_rfl) (by kernel_rfl) ?_
                repeat (go_big_quiet_step ((go_at_call 53; exact Calls.regrown_of (T.out _ _))))
                refine wpQuiet_nil ?_
                intro _ hw'
                obtain ⟨⟨dq, osq⟩, hw''⟩ := hw'
                subst hw''
                have HB5 := Lib.hid (below_then HB4.out HB4.out.size (below_regrown w4 dq osq))
                have HM5 := Lib.hid (om_below HM4.out (below_regrown w4 dq osq))
                have HBX5 := Lib.hid (blk_below HBX4.out (below_regrown w4 dq osq))
                have HOB5 := Lib.hid (blk_below HOB4.out (below_regrown w4 dq osq))
                obtain ⟨w5, hw5⟩ : ∃ w5, w5 = Sort.grow (redrawn w4 dq) osq := ⟨_, rfl⟩
                rw [← hw5] at HB5 HM5 HBX5 HOB5 ⊢
                clear hw5 z0 z1 z2 z3 z4 z5 z6 z7 zx T HB4 HM4 HBX4 HOB4
                have HGD : Hid (Good l (n + 1)) := Lib.hid (good_step HG.out HR.out HON.out HOB.out.symm (HL2.out (by simp)) (fun hk => by rw [HAT.out, beq_iff_eq.1 HRK.out]))
                have HIM := Lib.hid HM5.out.isMap
                obtain ⟨y0, y1, y2, y3, y4, y5, y6, y7⟩ := blkO HOB5.out
                go_wp2_with (first | (at_mapUpdate; go_must (refine wpList_mapUpdate_own _ rfl _ _ _ 90 rfl 3 3 keyI Try.underlying90 _ wb n D rfl (by exact HM5.out) ?hn _ _ (.int .i64 o.f6) rfl rfl (keyOf_int_mk Try.underlying3 HW6.out) (.lit (.int .i64 o.f7)) [] (plainElem_int Try.underlying3 (HF7.out o (List.mem_of_getElem? HON.out))) ?_; (case hn => simp only [maxLen]; omega)); intro w2 ho hg; have HM6 := Lib.hid ho; have HB6 := Lib.hid (HB5.out.grown hg HB5.out.size (fun k hk => by injection hk with hk; have := HLE.out; omega)); have HBX6 := Lib.hid (blk_grown HBX5.out hg (by intro e; injection e with e; have := HLT.out; omega)); clear ho hg HM5 HB5 HBX5 HOB5 y0 y1 y2 y3 y4 y5 y6 y7))
                go_roundw
                case rel => exact ⟨n + 1, _, by go_num, Lib.hid (by omega), HGD, Lib.hid (racks_put HR.out HIM.out HON.out HGD.out), HM6, HBX6, HB6⟩
                case measure => simp only [intOf]; omega
          · have hlo2 : decide (o.f0 ≤ q.f0) = true := hlo.symm
            clear hlo
            go_wp2_with fail
            refine wp_region_quiet_below (by kernel_rfl) (by kernel_rfl) ?_
            repeat (go_big_quiet_step ((go_at_call 53; exact Calls.regrown_of (T.out _ _))))
            refine wpQuiet_nil ?_
            intro _ hw'
            obtain ⟨⟨dq, osq⟩, hw''⟩ := hw'
            subst hw''
            have HB5 := Lib.hid (below_then HB4.out HB4.out.size (below_regrown w4 dq osq))
            go_wp2_with fail
            go_ret
            refine ⟨?_, HB5.out⟩
            have hng : chkI l = 1 := chkI_no (not_good h HON.out (.inr (by obtain ⟨j, z, h1, h2, h3⟩ := HL1.out (by simp); exact ⟨j, z, h1, h2, .inl h3⟩)))
            rw [hng]; rfl
    · obtain rfl : n = l.length := by omega
      have hlt : decide (l.length < l.length) = false := decide_eq_false (by omega)
      go_wp2_with fail
      go_ret
      refine ⟨?_, HB.out⟩
      have hg : chkI l = 0 := chkI_yes HG.out
      rw [hg]; rfl
end
end Go.Proofs.Ytfikaekocgofoaa.AtA
