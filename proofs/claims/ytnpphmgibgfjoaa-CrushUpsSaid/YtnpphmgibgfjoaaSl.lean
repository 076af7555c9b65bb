import Derived.Test.YtnpphmgibgfjoaaGrp
import Derived.Lib.SliceRun
import Derived.Lib.LazyBuf
/- slices.Clone, IndexFunc, DeleteFunc at OSDs. -/
namespace Go.Proofs.Ytnpphmgibgfjoaa.Sl
open Go Go.RowKit Go.Proofs.YtnpphmgibgfjoaaW.PrintWords Go.Proofs.YtnpphmgibgfjoaaW.PrintMore Mem PAll KW MixP MixW StrP AtA Srt Grp
open CrP hiding Od
theorem infoO : (Try.prog.info? 40).map (fun i => (i.zero, i.size, i.bytes)) = some (some (.agg #[.int .i64 0, .bool false, .bool false, .int .i64 0, .int .i64 0, .int .i64 0, .int .i64 0, .int .i64 0]), kO.sz, 56) := by kernel_rfl
theorem zeroO (w : World) : (zeroValue 40).run Try.prog w = .ok (.agg #[.int .i64 0, .bool false, .bool false, .int .i64 0, .int .i64 0, .int .i64 0, .int .i64 0, .int .i64 0]) w := by kernel_rfl
theorem kO_any {w w1 : World} {base base1 : Nat} {ok ok1 : Nat → Prop} {x : Od} {cs : List Value} (h : kO.M w base ok x cs) : kO.M w1 base1 ok1 x cs := by
  rw [k40_openM h]
  exact k40_mkM _ _ _ x
/-- clear(s) of n > 0 elements. -/
theorem run_clear_k {P : Program} (w : World) (t e ty : TypeId) (z : Value) (ht : P.underlying t = some (.slice e)) (hv : ∀ w, (zeroValue e).run P w = .ok z w) (b o n c : Nat) (hn : 0 < n)
    (h1 : ∀ v ∈ (Builtin.zeroCells z.cells n).toList, v.oneCell' = true) (hc : ∀ j, j < n * z.cells.size → (w.cell? ⟨b, o + j, none⟩).isSome = true) (hf : ∀ j, j < n * z.cells.size → w.frozen? ⟨b, o + j, none⟩ = false) :
    (Builtin.clear_ #[t] ty #[.slice (some ⟨b, o, none⟩) n c]).run P w = .ok (.tuple #[]) (w.setCells b o (Builtin.zeroCells z.cells n).toList) := by
  have hl : (Builtin.zeroCells z.cells n).toList.length = n * z.cells.size := by rw [Array.length_toList, size_zeroCells]
  have hst := run_storeCells_cells (P := P) b o (Builtin.zeroCells z.cells n).toList 0 w (by rw [hl]; simpa using hc) (by rw [hl]; simpa using hf) h1
  simp only [Nat.add_zero] at hst
  obtain ⟨m, rfl⟩ : ∃ m, n = m + 1 := ⟨n - 1, by omega⟩
  simp [Builtin.clear_, run_underlying ht, hv, hst]
theorem zeros_one (n : Nat) : ∀ v ∈ (Builtin.zeroCells (Value.agg #[.int .i64 0, .bool false, .bool false, .int .i64 0, .int .i64 0, .int .i64 0, .int .i64 0, .int .i64 0]).cells n).toList, v.oneCell' = true := by
  intro v hv
  simp only [Builtin.zeroCells, Array.toList_map, List.mem_map] at hv
  obtain ⟨i, _, rfl⟩ := hv
  have hs : (Value.agg #[.int .i64 0, .bool false, .bool false, .int .i64 0, .int .i64 0, .int .i64 0, .int .i64 0, .int .i64 0]).cells.size = 8 := rfl
  rw [hs]
  have : i % 8 < 8 := Nat.mod_lt _ (by decide)
  match i % 8, this with
  | 0, _ => rfl
  | 1, _ => rfl
  | 2, _ => rfl
  | 3, _ => rfl
  | 4, _ => rfl
  | 5, _ => rfl
  | 6, _ => rfl
  | 7, _ => rfl
/-- Behind clear(v[m:]) v[:m] is what it was. -/
theorem O_clear {W : World} {base g n cap m : Nat} {xs : List Od} (h : kO.R 40 W base (fun _ => True) (.slice (some ⟨g, 0, none⟩) n cap) xs) (hm : m < n) :
    ∃ w1, (∀ (ty c : Nat), (Builtin.clear_ #[24] ty #[.slice (some ⟨g, m * 8, none⟩) (n - m) c]).run Try.prog W = .ok (.tuple #[]) w1) ∧ kO.R 40 w1 base (fun _ => True) (.slice (some ⟨g, 0, none⟩) m cap) (xs.take m) ∧ W.grownBy w1 (some g) := by
  obtain ⟨hn, _, _⟩ := Kd.R_reads' h
  subst hn
  obtain ⟨_, inner, ho, hr⟩ := h
  rcases ho.2 with ⟨h0, _⟩ | ⟨g', cap', cur, hv, hg, hh, hnc, hcap, hsz, ht⟩
  · cases h0
  cases hv
  have e8 : kO.sz = 8 := rfl
  rw [e8] at hsz ht
  have hz : (Value.agg #[.int .i64 0, .bool false, .bool false, .int .i64 0, .int .i64 0, .int .i64 0, .int .i64 0, .int .i64 0]).cells.size = 8 := rfl
  have hlen : (Builtin.zeroCells (Value.agg #[.int .i64 0, .bool false, .bool false, .int .i64 0, .int .i64 0, .int .i64 0, .int .i64 0, .int .i64 0]).cells (xs.length - m)).toList.length = (xs.length - m) * 8 := by rw [Array.length_toList, size_zeroCells, hz]
  have hrun := fun (ty c : Nat) => run_clear_k (P := Try.prog) W 24 40 ty _ Try.underlying24 zeroO g (m * 8) (xs.length - m) c (by omega) (zeros_one _) (fun j hj => by
    rw [hz] at hj
    rw [blk_cell hh, Array.getElem?_eq_getElem (by omega)]; rfl) (fun j _ => blk_frozen hh _)
  obtain ⟨cur', h3, h4, h5⟩ := setCells_row (Builtin.zeroCells (Value.agg #[.int .i64 0, .bool false, .bool false, .int .i64 0, .int .i64 0, .int .i64 0, .int .i64 0, .int .i64 0]).cells (xs.length - m)).toList (m * 8) W cur hh (by rw [hlen]; omega)
  obtain ⟨s1, s2, s3, s4⟩ := setCells_same g (Builtin.zeroCells (Value.agg #[.int .i64 0, .bool false, .bool false, .int .i64 0, .int .i64 0, .int .i64 0, .int .i64 0, .int .i64 0]).cells (xs.length - m)).toList (m * 8) W
  have hin := ho.1
  rw [e8] at hin
  refine ⟨_, hrun, ⟨fun _ _ => trivial, inner.take (m * 8), ⟨by rw [List.length_take, List.length_take, e8]; omega, .inr ⟨g, cap, cur', by rw [List.length_take, Nat.min_eq_left (by omega)], hg, h3, by rw [List.length_take]; omega, hcap, by rw [h4, hsz, e8], ?_⟩⟩, ⟨by rw [List.length_take, List.length_take, e8]; omega, fun j p hj => ?_⟩⟩, ⟨s1, s2, s3, by rw [s4]; exact Nat.le_refl _, fun k _ hk => setCells_far _ _ k (fun he => hk (by rw [he]))⟩⟩
  · have e9 : (xs.take m).length = m := by rw [List.length_take]; omega
    rw [e9, e8, h5, List.append_assoc, List.take_append_of_le_length (by rw [List.length_take, Array.length_toList]; omega), List.take_take, Nat.min_self, ← ht, List.take_take, Nat.min_eq_left (by omega)]
  · have hjm : j < m := by
      have := (List.getElem?_eq_some_iff.1 hj).1
      rw [List.length_take] at this; omega
    rw [List.getElem?_take_of_lt hjm] at hj
    have := hr.2 j p hj
    rw [e8] at this ⊢
    rw [List.drop_take, List.take_take, Nat.min_eq_left (by omega)]
    exact kO_any this
set_option maxRecDepth 100000 in
theorem clone_calls (A : Option Addr) (c : Nat) (l : List Od) (w : World) (hx : kO.C w A l.length l) (hl : l.length ≤ 64) :
    Calls Try.prog 76 #[.slice A l.length c] w fun e w' => ∃ v, e = .returned v ∧ kO.R 40 w' w.heap.size (fun _ => True) v l ∧ Below w.heap.size w w' := by
  have HC := Lib.hid hx
  have HL := Lib.hid hl
  have HB0 := Lib.hid (Below.refl w.heap.size w)
  cases A with
  | none =>
    have h0 : l = [] := by
      rcases Nat.eq_zero_or_pos l.length with h | h
      · exact List.eq_nil_of_length_eq_zero h
      · obtain ⟨ad, e, _⟩ := hx.2.2 h; cases e
    subst h0
    clear hx hl HC
    have hq := fun w => Lib.run_eql_slice_nil (P := Try.prog) w 24 40 none 0 c 0 0 Try.underlying24
    go_enter Try.func76, Try.ntmps76
    go_wp2_with fail
    go_ret
    exact ⟨_, rfl, Kd.R_nil _ _ _ _ _, HB0.out⟩
  | some ad =>
    clear hx hl
    have hq := fun w => Lib.run_eql_slice_nil (P := Try.prog) w 24 40 (some ad) l.length c 0 0 Try.underlying24
    have HB1 := Lib.hid (below_alloc HB0.out (.cells #[] 40))
    have HO1 : Hid (kO.R 40 (w.alloc (.cells #[] 40)) w.heap.size (fun _ => True) (.slice (some ⟨w.heap.size, 0, none⟩) 0 0) []) := Lib.hid ⟨fun _ _ => trivial, OwnRow.lit w w.heap.size (ps := []) (inner := []) (Reps.none _ _) (Nat.le_refl _) (Nat.zero_le _)⟩
    go_enter Try.func76, Try.ntmps76
    go_wp2_with (first | (at_builtin; go_must (refine Kd.R_append_rows kO (w0 := w) w.heap.size rfl _ _ 24 40 (.agg #[.int .i64 0, .bool false, .bool false, .int .i64 0, .int .i64 0, .int .i64 0, .int .i64 0, .int .i64 0]) 56 rfl Try.underlying24 infoO rfl (by decide) (by decide) _ [] l (some ad) l.length c (fun _ => True) (fun _ => False) rfl rfl HO1.out (Kd.C_alloc HC.out _) (fun y cs hk => by rw [k40_open hk]; exact k40_mkM _ _ _ y) (fun _ hk => hk.elim) (fun _ _ => trivial) HB1.out HB1.out.size ?hl ?_; (case hl => have := HL.out; simp only [List.length_nil]; omega); intro v3 w3 ho hb hg hg2; rw [List.nil_append] at ho; have HO3 := Lib.hid ho; have HB3 := Lib.hid hb; clear ho hb hg hg2 HO1 HB1)))
    go_ret
    exact ⟨_, rfl, HO3.out, HB3.out⟩
/-! ### with a function that tells which go -/
abbrev cv (p q r : Nat) : Value := .func (.func 77) #[] #[.pointer (some ⟨p, 0, none⟩), .pointer (some ⟨q, 0, none⟩), .pointer (some ⟨r, 0, none⟩)]
def Tells (w0 : World) (p q r : Nat) (del : Od → Bool) : Prop := ∀ (W : World) (o : Od), Below w0.heap.size w0 W → Calls Try.prog 77 #[.agg (aggO o), .pointer (some ⟨p, 0, none⟩), .pointer (some ⟨q, 0, none⟩), .pointer (some ⟨r, 0, none⟩)] W fun e w' => e = .returned (.bool (del o)) ∧ Below W.heap.size W w'
def FirstOf (del : Od → Bool) (l : List Od) (r : Int) : Prop := (r = -1 ∧ ∀ o ∈ l, del o = false) ∨ ∃ i : Nat, r = i ∧ i < l.length ∧ (∀ o ∈ l.take i, del o = false) ∧ ∃ o, l[i]? = some o ∧ del o = true
set_option maxHeartbeats 1600000 in
theorem index_calls (p q r : Nat) (del : Od → Bool) (A : Option Addr) (c : Nat) (l : List Od) (w0 w : World) (hf : Tells w0 p q r del) (hx : kO.C w A l.length l) (hb : Below w0.heap.size w0 w) :
    Calls Try.prog 91 #[.slice A l.length c, cv p q r] w fun e w' => ∃ n : Int, e = .returned (.int .i64 n) ∧ FirstOf del l n ∧ Below w.heap.size w w' := by
  have HC := Lib.hid hx
  have HF := Lib.hid hf
  have HW := Lib.hid hb
  have hm : l.length ≤ 9223372036854775807 := hx.2.1
  have HB0 := Lib.hid (Below.refl w.heap.size w)
  clear hf hx hb
  go_enter Try.func91, Try.ntmps91
  go_wp2_with fail
  go_loopw [8] (fun i' wr => ∃ (n : Nat), i' = .int .i64 n ∧ Hid (n ≤ l.length ∧ ∀ o ∈ l.take n, del o = false) ∧ Hid (Below w.heap.size w wr)) (fun i' _ => (l.length - intOf i').toNat)
  case atStart => exact ⟨0, rfl, Lib.hid ⟨Nat.zero_le _, fun o ho => by rw [List.take_zero] at ho; exact absurd ho List.not_mem_nil⟩, HB0⟩
  case round =>
    obtain ⟨n, rfl, HN, HB⟩ := hrel
    have hn := HN.out.1
    by_cases h : n < l.length
    · have hlt : decide (n < l.length) = true := decide_eq_true h
      have i0 : (0 : Int) ≤ n := by omega
      obtain ⟨ad, o, ho, hA, a0, a1, a2, a3, a4, a5, a6, a7⟩ := at_O (Kd.C_below HC.out HB.out) n h
      subst hA
      have HQ := Lib.hid ho
      have T := Lib.hid (HF.out wr o (below_then HW.out HW.out.size HB.out))
      clear ho
      go_wp2_with fail
      refine T.out.mono ?_
      rintro e w1 ⟨rfl, hb⟩
      have HB1 := Lib.hid (below_then HB.out HB.out.size hb)
      clear hb T HB
      cases hl : del o
      · have HLK := Lib.hid hl
        clear hl
        go_wp2_with fail
        go_roundw
        case rel =>
          refine ⟨n + 1, by go_num, Lib.hid ⟨by omega, fun z hz => ?_⟩, HB1⟩
          rw [List.take_succ_eq_append_getElem h, (List.getElem?_eq_some_iff.1 HQ.out).2] at hz
          rcases List.mem_append.1 hz with hz | hz
          · exact HN.out.2 z hz
          · rw [List.mem_singleton.1 hz]; exact HLK.out
        case measure => simp only [intOf]; omega
      · have HLK := Lib.hid hl
        clear hl
        go_wp2_with fail
        go_ret
        exact ⟨n, rfl, .inr ⟨n, rfl, h, HN.out.2, o, HQ.out, HLK.out⟩, HB1.out⟩
    · obtain rfl : n = l.length := by omega
      have hlt : decide (l.length < l.length) = false := decide_eq_false (by omega)
      go_wp2_with fail
      go_ret
      exact ⟨-1, rfl, .inl ⟨rfl, by have := HN.out.2; rwa [List.take_length] at this⟩, HB.out⟩
/-- While they go: the first k are kept, those from j on are as they were. -/
structure Mid (del : Od → Bool) (l xs : List Od) (k j : Nat) : Prop where
  len : xs.length = l.length
  kj : k < j
  jn : j ≤ l.length
  kept : xs.take k = (l.take j).filter fun o => !del o
  rest : xs.drop j = l.drop j
theorem Mid.start {del : Od → Bool} {l : List Od} {i : Nat} {o : Od} (h : ∀ o ∈ l.take i, del o = false) (ho : l[i]? = some o) (hd : del o = true) : Mid del l l i (i + 1) := by
  have hi := (List.getElem?_eq_some_iff.1 ho).1
  refine ⟨rfl, Nat.lt_succ_self _, hi, ?_, rfl⟩
  rw [List.take_succ_eq_append_getElem hi, (List.getElem?_eq_some_iff.1 ho).2, List.filter_append, List.filter_eq_self.2 (fun z hz => by rw [h z hz]; rfl)]
  simp [hd]
theorem Mid.at {del : Od → Bool} {l xs : List Od} {k j : Nat} (h : Mid del l xs k j) : xs[j]? = l[j]? := by
  have e := h.rest
  have e2 : (xs.drop j)[0]? = (l.drop j)[0]? := by rw [e]
  simpa [List.getElem?_drop] using e2
theorem drop_one {α : Type} {xs : List α} {j : Nat} : xs.drop (j + 1) = (xs.drop j).drop 1 := by rw [List.drop_drop]
theorem Mid.keep {del : Od → Bool} {l xs : List Od} {k j : Nat} {o : Od} (h : Mid del l xs k j) (ho : l[j]? = some o) (hd : del o = false) : Mid del l (xs.set k o) (k + 1) (j + 1) := by
  have hj := (List.getElem?_eq_some_iff.1 ho).1
  have hkj := h.kj
  have hl := h.len
  refine ⟨by rw [List.length_set]; exact hl, by omega, hj, ?_, ?_⟩
  · have hks : k < (xs.set k o).length := by rw [List.length_set]; omega
    rw [List.take_succ_eq_append_getElem hks, List.take_succ_eq_append_getElem hj, (List.getElem?_eq_some_iff.1 ho).2, List.filter_append, List.take_set_of_le (Nat.le_refl k), h.kept]
    simp [hd]
  · rw [List.drop_set_of_lt (by omega), drop_one, h.rest, ← drop_one]
theorem Mid.skip {del : Od → Bool} {l xs : List Od} {k j : Nat} {o : Od} (h : Mid del l xs k j) (ho : l[j]? = some o) (hd : del o = true) : Mid del l xs k (j + 1) := by
  have hj := (List.getElem?_eq_some_iff.1 ho).1
  have hkj := h.kj
  refine ⟨h.len, by omega, hj, ?_, by rw [drop_one, h.rest, ← drop_one]⟩
  rw [List.take_succ_eq_append_getElem hj, (List.getElem?_eq_some_iff.1 ho).2, List.filter_append, h.kept]
  simp [hd]
set_option maxHeartbeats 4000000 in
set_option maxRecDepth 100000 in
theorem delete_calls (p q r : Nat) (del : Od → Bool) (v : Value) (l : List Od) (w0 w : World) (hf : Tells w0 p q r del) (hx : kO.R 40 w w0.heap.size (fun _ => True) v l) (hb : Below w0.heap.size w0 w) (hl : l.length ≤ 64) :
    Calls Try.prog 75 #[v, cv p q r] w fun e w' => ∃ v', e = .returned v' ∧ kO.R 40 w' w0.heap.size (fun _ => True) v' (l.filter fun o => !del o) ∧ Below w0.heap.size w0 w' := by
  have HF := Lib.hid hf
  have HW := Lib.hid hb
  have HX := Lib.hid hx
  have HL := Lib.hid hl
  have hm : l.length ≤ 9223372036854775807 := by omega
  obtain ⟨A, c, rfl⟩ := Kd.R_slice hx
  have T := Lib.hid (index_calls p q r del A c l w0 w hf (Kd.R_reads' hx).2.2 hb)
  clear hf hx hb hl
  go_enter Try.func75, Try.ntmps75
  go_wp2_with fail
  refine T.out.mono ?_
  rintro e w1 ⟨n, rfl, hn, hb⟩
  have HB1 := Lib.hid (below_then HW.out HW.out.size hb)
  have HX1 := Lib.hid (Kd.R_below HX.out hb)
  clear hb T HX HW
  rcases hn with ⟨rfl, hall⟩ | ⟨i, rfl, hi, hfirst, o, ho, hdel⟩
  · have HE : Hid ((l.filter fun o => !del o) = l) := Lib.hid (List.filter_eq_self.2 (fun o ho => by rw [hall o ho]; rfl))
    clear hall
    go_wp2_with fail
    go_ret
    refine ⟨_, rfl, ?_, HB1.out⟩
    rw [HE.out]
    exact HX1.out
  · have HS := Lib.hid (Mid.start hfirst ho hdel)
    obtain ⟨g, cap, hv, hbg, _, _⟩ := Kd.R_form HX1.out (by omega)
    injection hv with hA hlen hcp
    subst hA hcp
    have hc1 : l.length ≤ c := (Kd.R_reads' HX1.out).2.1
    have hne : ((i : Int) == -1) = false := by rw [beq_eq_false_iff_ne]; omega
    have HBG : Hid (w0.heap.size ≤ g) := Lib.hid hbg
    clear hfirst ho hdel hlen hbg
    go_wp2_with fail
    go_loopw [5, 6] (fun k' j' wr => ∃ (k j : Nat) (xs : List Od), k' = .int .i64 k ∧ j' = .int .i64 j ∧ Hid (Mid del l xs k j) ∧ Hid (kO.R 40 wr w0.heap.size (fun _ => True) (.slice (some ⟨g, 0, none⟩) l.length c) xs) ∧ Hid (Below w0.heap.size w0 wr)) (fun _ j' _ => (l.length - intOf j').toNat)
    case atStart => exact ⟨i, i + 1, l, rfl, by go_num, HS, HX1, HB1⟩
    case round =>
      obtain ⟨k, j, xs, rfl, rfl, HM, HX', HB'⟩ := hrel
      clear HX1 HB1
      have HX := Lib.hid HX'.out
      have HB := Lib.hid HB'.out
      clear HX' HB'
      have hlx := HM.out.len
      have hkj := HM.out.kj
      have hjn := HM.out.jn
      have HC := Lib.hid (Kd.R_reads' HX.out).2.2
      by_cases h : j < l.length
      · have hlt : decide (j < l.length) = true := decide_eq_true h
        have i0 : (0 : Int) ≤ j := by omega
        have k0 : (0 : Int) ≤ k := by omega
        have k1 : (k : Int) < l.length := by omega
        obtain ⟨ad, o, ho, hA, a0, a1, a2, a3, a4, a5, a6, a7⟩ := at_O HC.out j (by omega)
        injection hA with hA
        subst hA
        simp only [add_plain] at a0 a1 a2 a3 a4 a5 a6 a7
        rw [HM.out.at] at ho
        have HO := Lib.hid ho
        have HBA := Lib.hid (below_alloc (Below.refl wr.heap.size wr) (.cells (aggO o) 40))
        have HB1 := Lib.hid (below_alloc HB.out (.cells (aggO o) 40))
        have HX1 := Lib.hid (Kd.R_alloc HX.out (.cells (aggO o) 40))
        have HQ1 : Hid ((wr.alloc (.cells (aggO o) 40)).heap[wr.heap.size]? = some (.cells (aggO o) 40 (0, 0))) := Lib.hid (blk_new _ _)
        have T := Lib.hid (HF.out (wr.alloc (.cells (aggO o) 40)) o HB1.out)
        clear ho HX HB HBA HC
        go_wp2_with fail
        refine T.out.mono ?_
        rintro e w2 ⟨rfl, hb⟩
        have HB2 := Lib.hid (below_then HB1.out HB1.out.size hb)
        have HX2 := Lib.hid (Kd.R_below HX1.out hb)
        have HQ2 := Lib.hid (blk_below HQ1.out hb)
        clear hb T HB1 HX1 HQ1 a0 a1 a2 a3 a4 a5 a6 a7
        cases hd : del o
        · have HD := Lib.hid hd
          obtain ⟨y0, y1, y2, y3, y4, y5, y6, y7⟩ := blkO HQ2.out
          obtain ⟨ad2, o2, ho2, hA2, b0, b1, b2, b3, b4, b5, b6, b7⟩ := at_O (Kd.R_reads' HX2.out).2.2 k (by omega)
          injection hA2 with hA2
          subst hA2
          rw [add_plain] at b0 b1 b2 b3 b4 b5 b6 b7
          have hcells : ∀ (jj : Nat) u, [Value.int .i64 o2.f0, .bool o2.f1, .bool o2.f2, .int .i64 o2.f3, .int .i64 o2.f4, .int .i64 o2.f5, .int .i64 o2.f6, .int .i64 o2.f7][jj]? = some u → w2.cell? ⟨g, (k : Int).toNat * kO.sz + jj, none⟩ = some u := by
            intro jj u hu
            rw [show (k : Int).toNat * kO.sz + jj = k * 8 + jj from rfl]
            match jj, hu with
            | 0, hu => obtain rfl := Option.some.inj hu; exact b0
            | 1, hu => obtain rfl := Option.some.inj hu; exact b1
            | 2, hu => obtain rfl := Option.some.inj hu; exact b2
            | 3, hu => obtain rfl := Option.some.inj hu; exact b3
            | 4, hu => obtain rfl := Option.some.inj hu; exact b4
            | 5, hu => obtain rfl := Option.some.inj hu; exact b5
            | 6, hu => obtain rfl := Option.some.inj hu; exact b6
            | 7, hu => obtain rfl := Option.some.inj hu; exact b7
            | jj + 8, hu => cases hu
          have HCE := Lib.hid hcells
          clear hd hcells ho2 b0 b1 b2 b3 b4 b5 b6 b7
          go_wp2_with (first | ((with_reducible refine gate_store (t := 40) (p := 33) (v := .tmp 32) rfl ?_); go_must (refine Kd.R_store kO (w0 := w0) w0.heap.size rfl rfl 40 _ _ rfl 40 (k : Int) 0 xs o (.agg (aggO o)) (aggO o).toList [.int .i64 o2.f0, .bool o2.f1, .bool o2.f2, .int .i64 o2.f3, .int .i64 o2.f4, .int .i64 o2.f5, .int .i64 o2.f6, .int .i64 o2.f7] (fun _ => True) (fun _ => False) rfl rfl rfl rfl (by kernel_rfl) (by simp [Value.oneCell']) HX2.out k0 k1 rfl HCE.out (Nat.le_refl 8) (k40_mkM _ _ _ o) (fun _ hk => hk.elim) HB2.out ?_; intro w3 ho hb hg; have HX3 := Lib.hid ho; have HB3 := Lib.hid hb; clear ho hb hg HX2 HB2 HQ2 y0 y1 y2 y3 y4 y5 y6 y7 HCE)))
          have HX4 := Lib.hid (show kO.R 40 w3 w0.heap.size (fun _ => True) (.slice (some ⟨g, 0, none⟩) l.length c) (xs.set k o) from HX3.out)
          clear HX3
          go_wp2_with fail
          go_roundw
          case rel => exact ⟨k + 1, j + 1, xs.set k o, by go_num, by go_num, Lib.hid (HM.out.keep HO.out HD.out), HX4, HB3⟩
          case measure => simp only [intOf]; omega
        · have HD := Lib.hid hd
          clear hd
          go_wp2_with fail
          go_roundw
          case rel => exact ⟨k, j + 1, xs, rfl, by go_num, Lib.hid (HM.out.skip HO.out HD.out), HX2, HB2⟩
          case measure => simp only [intOf]; omega
      · obtain rfl : j = l.length := by omega
        have hlt : decide (l.length < l.length) = false := decide_eq_false (by omega)
        have hkj' : k < l.length := hkj
        obtain ⟨w2, hrun, h2, h3⟩ := O_clear HX.out (m := k) hkj'
        have HX2 := Lib.hid h2
        have HB2 := Lib.hid (pw_below_grown HB.out _ HB.out.size h3 (fun z hz => by cases hz; exact HBG.out))
        have k0 : (0 : Int) ≤ k := by omega
        clear h2 h3 HX HB HC
        go_wp2_with fail
        go_ret
        have hkk := HM.out.kept
        rw [List.take_length] at hkk
        refine ⟨.slice (some ⟨g, 0, none⟩) k c, ?_, by rw [← hkk]; exact HX2.out, HB2.out⟩
        rfl
end Go.Proofs.Ytnpphmgibgfjoaa.Sl
