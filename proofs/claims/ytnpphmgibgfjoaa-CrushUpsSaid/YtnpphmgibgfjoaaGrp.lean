import Derived.Test.YtnpphmgibgfjoaaAtA
import Derived.Test.YtnpphmgibgfjoaaSort
import Derived.Test.YtnpphmgibgfjoaaQT
import Derived.Maps.RangeWalk
import Derived.Outline
/- Groups of OSDs: the walk of crush.group. -/
namespace Go.Proofs.Ytnpphmgibgfjoaa.Grp
open Go Go.RowKit Go.Proofs.YtnpphmgibgfjoaaW.PrintWords Go.Proofs.YtnpphmgibgfjoaaW.PrintMore Mem PAll KW MixP MixW StrP AtA Srt
open CrP hiding Od
open Go.Maps (Keyed int_keyed keyOf_int_mk)
theorem rack_calls (o : Od) (w : World) : Calls Try.prog 69 #[.agg (aggO o)] w fun e w' => e = .returned (.int .i64 (keyN 1 o)) ∧ Below w.heap.size w w' := by
  have HB := Lib.hid (below_alloc (Below.refl w.heap.size w) (.cells (aggO o) 40))
  go_enter Try.func69, Try.ntmps69
  go_wp2
  go_ret
  exact ⟨rfl, HB.out⟩
theorem host_calls (o : Od) (w : World) : Calls Try.prog 68 #[.agg (aggO o)] w fun e w' => e = .returned (.int .i64 (keyN 2 o)) ∧ Below w.heap.size w w' := by
  have HB := Lib.hid (below_alloc (Below.refl w.heap.size w) (.cells (aggO o) 40))
  go_enter Try.func68, Try.ntmps68
  go_wp2
  go_ret
  exact ⟨rfl, HB.out⟩
theorem self_calls (o : Od) (w : World) : Calls Try.prog 67 #[.agg (aggO o)] w fun e w' => e = .returned (.int .i64 (keyN 3 o)) ∧ Below w.heap.size w w' := by
  have HB := Lib.hid (below_alloc (Below.refl w.heap.size w) (.cells (aggO o) 40))
  go_enter Try.func67, Try.ntmps67
  go_wp2
  go_ret
  exact ⟨rfl, HB.out⟩
theorem weight_calls (o : Od) (w : World) : Calls Try.prog 80 #[.agg (aggO o)] w fun e w' => e = .returned (.int .i64 (wOf o)) ∧ Below w.heap.size w w' := by
  have HB := Lib.hid (below_alloc (Below.refl w.heap.size w) (.cells (aggO o) 40))
  obtain ⟨b, hb⟩ : ∃ b, o.f2 = b := ⟨_, rfl⟩
  unfold wOf
  rw [hb]
  have HBB := Lib.hid hb
  cases b
  · have c2 : o.f2 = false := hb
    go_enter Try.func80, Try.ntmps80
    go_wp2
    go_ret
    exact ⟨rfl, HB.out⟩
  · have c2 : o.f2 = true := hb
    go_enter Try.func80, Try.ntmps80
    go_wp2
    go_ret
    exact ⟨rfl, HB.out⟩
/-! ### what the map of sums holds -/
def Sums (D : DW) (g : List Wd) : Prop := ∀ k : Int, Maps.has D (.int .i64 k) = (getW g k).isSome ∧ D.atKey (.int .i64 k) (.lit (.int .i64 0)) = .lit (.int .i64 ((getW g k).getD 0))
theorem sums_nil : Sums (.map []) [] := fun _ => ⟨rfl, rfl⟩
theorem sums_put {D : DW} {g : List Wd} (h : Sums D g) (hm : Go.Maps.IsMap D) (hu : Up g) (k w : Int) : Sums (D.put (.int .i64 k) (.lit (.int .i64 ((getW g k).getD 0 + w)))) (ins k w g) := by
  intro j
  rw [getW_ins k w g hu j]
  by_cases e : j = k
  · subst e
    rw [if_pos rfl, Go.Maps.has_put_same hm (by trivial), Go.Maps.atKey_put_same hm (by trivial)]
    exact ⟨rfl, rfl⟩
  · rw [if_neg e, Go.Maps.has_put_other (by intro hh; injection hh with _ hh; exact e hh), Go.Maps.atKey_put_other (by intro hh; injection hh with _ hh; exact e hh)]
    exact h j
theorem look_sum {w : World} {b n : Nat} {D : DW} {g : List Wd} (h : OM w b n D) (hs : Sums D g) (v : Int) (hv : (Lit.int .i64 v).wf = true) : (Instr.lookup 103 (.map (some b)) (.int .i64 v) false).run Try.prog w = .ok (.int .i64 ((getW g v).getD 0)) w := by
  obtain ⟨y, ps, hrun, hy⟩ := h.lookup keyI Try.underlying103 (zeroI w) (plainElem_int Try.underlying3 (by decide)) (keyOf_int_mk Try.underlying3 hv)
  obtain ⟨c, rfl, hc, _⟩ := plainElem_int_inv Try.underlying3 hy
  have e : D.atKey (.int .i64 v) (.lit (.int .i64 0)) = .lit (.int .i64 c) := congrArg Prod.fst hc
  have e2 : c = (getW g v).getD 0 := by
    have e3 := e.symm.trans (hs v).2
    simpa using e3
  rw [← e2]
  exact hrun
/-- What has been ranged over: out, of the map that reads as g; left is still to come. -/
structure Out (g : List Wd) (left : Lit → Bool) (out : List Wd) : Prop where
  mem : ∀ v ∈ out, getW g v.id = some v.wt ∧ left (.int .i64 v.id) = false
  all : ∀ k c, getW g k = some c → left (.int .i64 k) = true ∨ ∃ v ∈ out, v.id = k
  ap : ∀ i j : Nat, i < j → ∀ a b : Wd, out[i]? = some a → out[j]? = some b → a.id ≠ b.id
  has : ∀ k, left (.int .i64 k) = true → (getW g k).isSome = true
theorem Out.more {g : List Wd} {left : Lit → Bool} {out : List Wd} {x c : Int} (h : Out g left out) (hl : left (.int .i64 x) = true) (hc : getW g x = some c) : Out g (fun z => left z && !z.sameKey (.int .i64 x)) (out ++ [⟨x, c⟩]) := by
  have hn : ∀ v ∈ out, v.id ≠ x := fun v hv e => by have := (h.mem v hv).2; rw [e, hl] at this; cases this
  have hk : ∀ k : Int, (Lit.int .i64 k).sameKey (.int .i64 x) = decide (k = x) := fun k => by simp [Lit.sameKey]
  refine ⟨fun v hv => ?_, fun k d hd => ?_, fun i j hij a b ha hb => ?_, fun k hk2 => ?_⟩
  · rcases List.mem_append.1 hv with hv | hv
    · have := h.mem v hv
      exact ⟨this.1, by rw [this.2]; rfl⟩
    · obtain rfl := List.mem_singleton.1 hv
      exact ⟨hc, by rw [hk]; simp⟩
  · by_cases e : k = x
    · exact .inr ⟨⟨x, c⟩, by simp, e.symm⟩
    · rcases h.all k d hd with h1 | ⟨v, hv, e2⟩
      · exact .inl (by rw [h1, hk]; simp [e])
      · exact .inr ⟨v, List.mem_append_left _ hv, e2⟩
  · have hjl := (List.getElem?_eq_some_iff.1 hb).1
    simp only [List.length_append, List.length_singleton] at hjl
    rcases Nat.lt_or_ge j out.length with hj | hj
    · rw [List.getElem?_append_left hj] at hb
      rw [List.getElem?_append_left (by omega)] at ha
      exact h.ap i j hij a b ha hb
    · have : j = out.length := by omega
      subst this
      rw [List.getElem?_append_left hij] at ha
      have hb' : b = ⟨x, c⟩ := by simpa using hb.symm
      subst hb'
      exact hn a (List.mem_of_getElem? ha)
  · simp only [Bool.and_eq_true] at hk2
    exact h.has k hk2.1
theorem up_of {ys : List Wd} (h : ∀ i j : Nat, i < j → ∀ a b : Wd, ys[i]? = some a → ys[j]? = some b → a.id < b.id) : Up ys := by
  induction ys with
  | nil => trivial
  | cons u r ih =>
    refine ⟨fun v hv => ?_, ih (fun i j hij a b ha hb => h (i + 1) (j + 1) (by omega) a b (by simpa using ha) (by simpa using hb))⟩
    obtain ⟨j, hj, e⟩ := List.mem_iff_getElem.1 hv
    exact h 0 (j + 1) (by omega) u v rfl (by simp [hj, e])
theorem ids_nodup {ys : List Wd} (h : ∀ i j : Nat, i < j → ∀ a b : Wd, ys[i]? = some a → ys[j]? = some b → a.id ≠ b.id) : (ys.map (·.id)).Nodup := by
  induction ys with
  | nil => exact List.nodup_nil
  | cons u r ih =>
    rw [List.map_cons, List.nodup_cons]
    refine ⟨fun hm => ?_, ih (fun i j hij a b ha hb => h (i + 1) (j + 1) (by omega) a b (by simpa using ha) (by simpa using hb))⟩
    obtain ⟨v, hv, e⟩ := List.mem_map.1 hm
    obtain ⟨j, hj, e2⟩ := List.mem_iff_getElem.1 hv
    exact h 0 (j + 1) (by omega) u v rfl (by simp [hj, e2]) e.symm
theorem nodup_ids {ys : List Wd} (h : (ys.map (·.id)).Nodup) : ∀ i j : Nat, i < j → ∀ a b : Wd, ys[i]? = some a → ys[j]? = some b → a.id ≠ b.id := by
  induction ys with
  | nil => intro i j _ a b ha; simp at ha
  | cons u r ih =>
    rw [List.map_cons, List.nodup_cons] at h
    intro i j hij a b ha hb
    obtain ⟨j, rfl⟩ : ∃ q, j = q + 1 := ⟨j - 1, by omega⟩
    have hb' : r[j]? = some b := by simpa using hb
    cases i with
    | zero =>
      obtain rfl : u = a := by simpa using ha
      exact fun e => h.1 (List.mem_map.2 ⟨b, List.mem_of_getElem? hb', e.symm⟩)
    | succ i => exact ih h.2 i j (by omega) a b (by simpa using ha) hb'
/-- Sorted, it is the group. -/
theorem Out.sorted {g : List Wd} {left : Lit → Bool} {out ys : List Wd} (h : Out g left out) (hu : Up g) (hl : ∀ kl, left kl = false) (hp : ys.Perm out) (hs : ∀ i j : Nat, i < j → ∀ a b : Wd, ys[i]? = some a → ys[j]? = some b → a.id ≤ b.id) : ys = g := by
  have hn : (ys.map (·.id)).Nodup := (hp.map (·.id)).nodup_iff.2 (ids_nodup h.ap)
  have hup : Up ys := up_of (fun i j hij a b ha hb => by
    have h1 := hs i j hij a b ha hb
    have h2 := nodup_ids hn i j hij a b ha hb
    omega)
  refine up_unique hup hu (fun v => ?_)
  rw [hp.mem_iff, getW_mem hu]
  constructor
  · exact fun hv => (h.mem v hv).1
  · intro hv
    rcases h.all v.id v.wt hv with h1 | ⟨u, hu2, e⟩
    · rw [hl] at h1; cases h1
    · have := (h.mem u hu2).1
      rw [e, hv] at this
      have e2 : u = v := by cases u; cases v; simp at e this; rw [e, this]
      rw [← e2]; exact hu2
theorem sumK_range {lv : Nat} {k : Int} : ∀ {l : List Od}, (∀ o ∈ l, 0 ≤ wOf o ∧ wOf o ≤ 16777216) → 0 ≤ sumK lv k l ∧ sumK lv k l ≤ l.length * 16777216
  | [], _ => by simp [sumK]
  | o :: r, h => by
    have h1 := h o List.mem_cons_self
    have h2 := sumK_range (lv := lv) (k := k) (l := r) (fun q hq => h q (List.mem_cons_of_mem _ hq))
    simp only [sumK, List.length_cons]
    split <;> omega
theorem getW_range {lv : Nat} {k : Int} {l : List Od} (h : ∀ o ∈ l, 0 ≤ wOf o ∧ wOf o ≤ 16777216) : 0 ≤ (getW (group lv l) k).getD 0 ∧ (getW (group lv l) k).getD 0 ≤ l.length * 16777216 := by
  have hr := sumK_range (lv := lv) (k := k) h
  unfold group
  rw [getW_groupF lv l [] trivial]
  have e0 : getW [] k = none := rfl
  rw [e0]
  split
  · simp only [Option.getD_none, Int.zero_add, Option.getD_some]; exact hr
  · simp only [Option.getD_none]; omega
theorem group_snoc (lv : Nat) (l : List Od) (n : Nat) (o : Od) (ho : l[n]? = some o) : group lv (l.take (n + 1)) = ins (keyN lv o) (wOf o) (group lv (l.take n)) := by
  have hn := (List.getElem?_eq_some_iff.1 ho).1
  rw [List.take_succ_eq_append_getElem hn, (List.getElem?_eq_some_iff.1 ho).2]
  exact groupF_snoc lv [] _ o
theorem infoW : (Try.prog.info? 83).map (fun i => (i.zero, i.size, i.bytes)) = some (some (.agg #[.int .i64 0, .int .i64 0]), kW.sz, 16) := by kernel_rfl
/-- What a list of OSDs is good for. -/
structure GoodL (l : List Od) : Prop where
  len : l.length ≤ 64
  wt : ∀ o ∈ l, 0 ≤ wOf o ∧ wOf o ≤ 16777216
  wf : ∀ o ∈ l, ∀ lv, (Lit.int .i64 (keyN lv o)).wf = true
theorem GoodL.filter {l : List Od} (h : GoodL l) (p : Od → Bool) : GoodL (l.filter p) :=
  ⟨Nat.le_trans (List.length_filter_le _ _) h.len, fun o ho => h.wt o (List.mem_filter.1 ho).1, fun o ho => h.wf o (List.mem_filter.1 ho).1⟩
theorem wf_range {n : Int} (h0 : 0 ≤ n) (h1 : n ≤ 9223372036854775807) : (Lit.int .i64 n).wf = true := by
  simp [Lit.wf, IntKind.min, IntKind.max, IntKind.signed, IntKind.bits]
  omega
set_option maxHeartbeats 4000000 in
set_option maxRecDepth 100000 in
theorem group_calls1 (A : Option Addr) (c : Nat) (l : List Od) (w : World) (hx : kO.C w A l.length l) (hg : GoodL l) :
    Calls Try.prog 48 #[.slice A l.length c, .func (.func 69) #[] #[]] w fun e w' => ∃ v, e = .returned v ∧ kW.R 83 w' w.heap.size (fun _ => True) v (group 1 l) ∧ Below w.heap.size w w' := by
  have HC := Lib.hid hx
  have HG := Lib.hid hg
  have hm : l.length ≤ 9223372036854775807 := hx.2.1
  have HB0 := Lib.hid (below_alloc (Below.refl w.heap.size w) (.map #[] 0))
  have HM0 : Hid (OM (w.alloc (.map #[] 0)) w.heap.size 0 (.map [])) := Lib.hid (World.ownsMap_made w Try.prog _ _)
  have hmm := @run_makeMap Try.prog
  clear hx hg
  go_enter Try.func48, Try.ntmps48
  go_wp2_with fail
  go_loopw [14] (fun i' wr => ∃ (n : Nat) (D : DW), i' = .int .i64 n ∧ Hid (n ≤ l.length) ∧ Hid (Sums D (group 1 (l.take n))) ∧ Hid (OM wr w.heap.size n D) ∧ Hid (Below w.heap.size w wr)) (fun i' _ => (l.length - intOf i').toNat)
  case atStart => exact ⟨0, .map [], rfl, Lib.hid (Nat.zero_le _), Lib.hid sums_nil, HM0, HB0⟩
  case round =>
    obtain ⟨n, D, rfl, HN, HS, HM, HB⟩ := hrel
    clear HM0 HB0
    have hn := HN.out
    by_cases h : n < l.length
    · have hlt : decide (n < l.length) = true := decide_eq_true h
      have i0 : (0 : Int) ≤ n := by omega
      obtain ⟨ad, o, ho, hA, a0, a1, a2, a3, a4, a5, a6, a7⟩ := at_O (Kd.C_below HC.out HB.out) n h
      subst hA
      have hom := List.mem_of_getElem? ho
      have HST := Lib.hid (group_snoc 1 l n o ho)
      have hwf := HG.out.wf o hom 1
      have HWF := Lib.hid hwf
      have hwt := HG.out.wt o hom
      have hrg := getW_range (lv := 1) (k := keyN 1 o) (l := l.take n) (fun q hq => HG.out.wt q (List.mem_of_mem_take hq))
      have hln := HG.out.len
      have hlt2 := List.length_take_le n l
      obtain ⟨s, hs⟩ : ∃ s, s = (getW (group 1 (l.take n)) (keyN 1 o)).getD 0 := ⟨_, rfl⟩
      rw [← hs] at hrg
      have hsum : 0 ≤ s + wOf o ∧ s + wOf o ≤ 9223372036854775807 := by omega
      have HSW := Lib.hid (wf_range hsum.1 hsum.2)
      have kw : IntKind.i64.wrap (s + wOf o) = s + wOf o := IntWalk.i64_in _ (by omega)
      have HBA := Lib.hid (below_alloc (Below.refl wr.heap.size wr) (.cells (aggO o) 40))
      have HB1 := Lib.hid (below_alloc HB.out (.cells (aggO o) 40))
      have HM1 := Lib.hid (om_below HM.out HBA.out)
      have HO1 : Hid ((wr.alloc (.cells (aggO o) 40)).heap[wr.heap.size]? = some (.cells (aggO o) 40 (0, 0))) := Lib.hid (blk_new _ _)
      obtain ⟨w1, hw1⟩ : ∃ w1, w1 = wr.alloc (.cells (aggO o) 40) := ⟨_, rfl⟩
      have HS2 : Hid (Sums (D.put (.int .i64 (keyN 1 o)) (.lit (.int .i64 (s + wOf o)))) (group 1 (l.take (n + 1)))) := Lib.hid (by rw [HST.out, hs]; exact sums_put HS.out HM.out.isMap (group_up 1 _ [] trivial) _ _)
      clear ho hom hwt hrg hsum hln hlt2
      go_wp2_with fail
      rw [← hw1] at HB1 HM1 HO1 ⊢
      obtain ⟨g1, hg1⟩ : ∃ g1, g1 = wr.heap.size := ⟨_, rfl⟩
      rw [← hg1] at HO1 ⊢
      clear hw1 hg1 a0 a1 a2 a3 a4 a5 a6 a7 HBA HM HB
      obtain ⟨y0, y1, y2, y3, y4, y5, y6, y7⟩ := blkO HO1.out
      have z0 := cell_regrown y0
      have z1 := cell_regrown y1
      have z2 := cell_regrown y2
      have z3 := cell_regrown y3
      have z4 := cell_regrown y4
      have z5 := cell_regrown y5
      have z6 := cell_regrown y6
      have z7 := cell_regrown y7
      have T1 : Hid (∀ dd os, Calls Try.prog 69 #[.agg (aggO o)] (Sort.grow (redrawn w1 dd) os) fun e w' => e = .returned (.int .i64 (keyN 1 o)) ∧ Below (Sort.grow (redrawn w1 dd) os).heap.size (Sort.grow (redrawn w1 dd) os) w') := Lib.hid (fun dd os => rack_calls o _)
      have T2 : Hid (∀ dd os, Calls Try.prog 80 #[.agg (aggO o)] (Sort.grow (redrawn w1 dd) os) fun e w' => e = .returned (.int .i64 (wOf o)) ∧ Below (Sort.grow (redrawn w1 dd) os).heap.size (Sort.grow (redrawn w1 dd) os) w') := Lib.hid (fun dd os => weight_calls o _)
      have hrun : ∀ dd os, (Instr.lookup 103 (.map (some w.heap.size)) (.int .i64 (keyN 1 o)) false).run Try.prog (Sort.grow (redrawn w1 dd) os) = .ok (.int .i64 s) (Sort.grow (redrawn w1 dd) os) := fun dd os => by rw [hs]; exact look_sum (om_below HM1.out (below_regrown w1 dd os)) HS.out _ hwf
      generalize wOf o = wo at *
      generalize keyN 1 o = ko at *
      clear y0 y1 y2 y3 y4 y5 y6 y7 hwf hs
      refine QT.wp_region_tail 8 (by kernel_rfl) (by kernel_rfl) ?_
      simp only [List.take_succ_cons, List.take_zero, List.drop_succ_cons, List.drop_zero]
      repeat (go_big_quiet_step ((first | (go_at_call 69; with_reducible exact Calls.regrown_of (T1.out _ _)) | (go_at_call 80; with_reducible exact Calls.regrown_of (T2.out _ _)))))
      refine wpQuiet_nil ?_
      intro _ hw'
      obtain ⟨⟨dq, osq⟩, hw''⟩ := hw'
      subst hw''
      have HM2 := Lib.hid (om_below HM1.out (below_regrown w1 dq osq))
      have HB2 := Lib.hid (below_then HB1.out HB1.out.size (below_regrown w1 dq osq))
      obtain ⟨w2, hw2⟩ : ∃ w2, w2 = Sort.grow (redrawn w1 dq) osq := ⟨_, rfl⟩
      rw [← hw2] at HM2 HB2 ⊢
      clear hw2 z0 z1 z2 z3 z4 z5 z6 z7 T1 T2 hrun HM1 HB1 HO1 kw
      go_wp2_with (first | (at_mapUpdate; go_must (refine wpList_mapUpdate_own _ rfl _ _ _ 103 rfl 3 3 keyI Try.underlying103 _ w.heap.size n D rfl (by exact HM2.out) ?hn _ _ (.int .i64 ko) rfl rfl (keyOf_int_mk Try.underlying3 HWF.out) (.lit (.int .i64 (s + wo))) [] (plainElem_int Try.underlying3 HSW.out) ?_; (case hn => have := HG.out.len; simp only [maxLen]; omega)); intro w3 ho hg; have HM3 := Lib.hid ho; have HB3 := Lib.hid (HB2.out.grown hg HB2.out.size (fun k hk => by injection hk with hk; omega)); clear ho hg HM2 HB2))
      go_roundw
      case rel => exact ⟨n + 1, _, by go_num, Lib.hid (by omega), HS2, HM3, HB3⟩
      case measure => simp only [intOf]; omega
    · obtain rfl : n = l.length := by omega
      have hlt : decide (l.length < l.length) = false := decide_eq_false (by omega)
      rw [List.take_length] at HS
      have HUP := Lib.hid (group_up 1 l [] trivial)
      obtain ⟨G, hG⟩ : ∃ G, G = group 1 l := ⟨_, rfl⟩
      have HSL : Hid (Maps.size D ≤ l.length) := Lib.hid HM.out.size_le
      change Hid (Up (group 1 l)) at HUP
      rw [← hG] at HS HUP
      have HGE := Lib.hid hG
      obtain ⟨r, hr⟩ : ∃ r, r = wr.heap.size := ⟨_, rfl⟩
      obtain ⟨wo, hwo⟩ : ∃ wo, wo = wr := ⟨_, rfl⟩
      rw [← hwo] at HM HB hr ⊢
      have HRW : Hid (w.heap.size < r) := Lib.hid (by rw [hr]; exact HM.out.lt)
      clear h hn hG hwo
      go_wp2_with (first | (at_range; refine wpList_range_own _ rfl _ 103 rfl 3 3 keyI Try.underlying103 _ w.heap.size l.length D rfl HM.out ?_; intro w0 hrg0 hg0 hs0))
      go_frame
      rw [← hr] at hrg0 ⊢
      have HRG := Lib.hid hrg0
      have HB4 := Lib.hid (HB.out.grown hg0 HB.out.size (fun k hk => by cases hk))
      clear hrg0 hg0 hs0 HB HM hr
      go_loopw [8] (fun v wr => ∃ (left : Lit → Bool) (cnt : Nat) (out : List Wd), Hid (wr.ranges Try.prog 3 (plainElem Try.prog 3) w.heap.size r l.length D left cnt) ∧ Hid (Out G left out) ∧ Hid (out.length + cnt ≤ l.length) ∧ Hid (kW.R 83 wr w.heap.size (fun k => k ≠ w.heap.size ∧ k ≠ r) v out) ∧ Hid (Below w.heap.size w wr)) (fun _ wr => wr.rangeLeft w.heap.size r)
      case atStart =>
        refine ⟨Maps.has D, Maps.size D, [], HRG, Lib.hid ⟨fun v hv => absurd hv List.not_mem_nil, fun k c hk => .inl ?_, fun i j _ a b ha => by simp at ha, fun k hk => ?_⟩, Lib.hid (by have := HSL.out; simp; omega), Lib.hid (Kd.R_nil _ _ _ _ _), HB4⟩
        · rw [(HS.out k).1, hk]; rfl
        · rw [(HS.out k).1] at hk; exact hk
      case round =>
        obtain ⟨left, cnt, out, HRG', HOU, HCN, HO, HB'⟩ := hrel
        clear HRG HB4
        have HRG := Lib.hid HRG'.out
        have HB := Lib.hid HB'.out
        clear HRG' HB'
        go_wp2_with (first | (at_next; refine wpList_next_ranges_ii _ rfl _ rfl 3 3 .i64 .i64 keyI Try.underlying3 Try.underlying3 w.heap.size r l.length _ _ _ rfl HRG.out ?_ ?_))
        · intro _ hl0
          have HL0 := Lib.hid hl0
          clear hl0
          have hout : out.length ≤ 140737488355328 := by have := HCN.out; have := HG.out.len; omega
          obtain ⟨A8, c8, rfl⟩ := Kd.R_slice HO.out
          have HOT := Lib.hid (Kd.R_mono HO.out (ok' := fun _ => True) (fun _ _ => trivial))
          have HOS := Lib.hid hout
          clear hout
          rcases Nat.eq_zero_or_pos out.length with h0 | h0
          · obtain rfl := List.eq_nil_of_length_eq_zero h0
            have HGN : Hid (group 1 l = []) := Lib.hid (by rw [← HGE.out]; exact (HOU.out.sorted HUP.out HL0.out (List.Perm.refl _) (fun i j _ a b ha => by simp at ha)).symm)
            clear h0
            go_wp2_with fail
            refine (sort0_calls A8 c8 _ _).mono ?_
            rintro e w3 ⟨rfl, rfl⟩
            go_wp2_with fail
            go_ret
            refine ⟨_, rfl, ?_, HB.out⟩
            rw [HGN.out]
            exact HOT.out
          · have T := Lib.hid (sort_calls HOT.out h0 HOS.out)
            have HOB : Hid (∀ k, (Value.slice A8 out.length c8).ownBlock = some k → w.heap.size ≤ k) := Lib.hid (Kd.R_base HO.out)
            clear h0
            go_wp2_with fail
            refine T.out.mono ?_
            rintro e w3 ⟨rfl, ys, hp, hsd, hR, hg⟩
            have HYS : Hid (ys = group 1 l) := Lib.hid (by rw [← HGE.out]; exact HOU.out.sorted HUP.out HL0.out hp hsd)
            have HB3 := Lib.hid (HB.out.grown hg HB.out.size HOB.out)
            have HR3 := Lib.hid hR
            clear hp hsd hR hg T
            go_wp2_with fail
            go_ret
            refine ⟨_, rfl, ?_, HB3.out⟩
            rw [← HYS.out]
            exact HR3.out
        · intro x cc w1 cnt1 hwx hwc hlx hat hrg1 hlt1 hg1 hs1 hen
          have HLX := Lib.hid hlx
          have HGX : Hid (getW G x = some cc) := Lib.hid (by
            have h1 := (HS.out x).2
            rw [hat] at h1
            have h2 : cc = (getW G x).getD 0 := by simpa using h1
            have h3 := HOU.out.has x hlx
            cases h4 : getW G x with
            | none => rw [h4] at h3; cases h3
            | some z => rw [h4] at h2; simp at h2; rw [h2])
          have HRG1 := Lib.hid hrg1
          have HLT1 := Lib.hid hlt1
          have HB1 := Lib.hid (HB.out.grown hg1 HB.out.size (fun k hk => by injection hk with hk; have := HRW.out; omega))
          have HO1 := Lib.hid (Kd.R_grown HO.out hg1 (fun k hk e => by injection e with e; exact hk.2 e))
          clear hwx hwc hlx hat hrg1 hlt1 hg1 hs1 HB HO
          go_wp2_with (first | (at_builtin; go_must (refine Kd.R_append kW (w0 := w) w.heap.size rfl _ _ 80 83 (.agg #[.int .i64 0, .int .i64 0]) 16 rfl Try.underlying80 infoW rfl (by decide) (by decide) _ _ ⟨x, cc⟩ [.int .i64 x, .int .i64 cc] (fun k => k ≠ w.heap.size ∧ k ≠ r) (fun _ => False) rfl rfl (kW_mkM _ _ _ ⟨x, cc⟩) (fun _ hk => hk.elim) ?hf (by exact HO1.out) (by exact HB1.out) (by exact HB1.out.size) ?hl ?_; (case hf => intro k hk; have h1 := HRG1.out.lt; have h2 := HRW.out; omega); (case hl => have := HCN.out; have := HG.out.len; omega)); intro v2 w3 ho hb hg hg2; have HRG3 := Lib.hid (HRG1.out.kept hg (Kd.R_away HO1.out (fun k hk => hk.1)) (Kd.R_away HO1.out (fun k hk => hk.2))); have HO3 := Lib.hid ho; have HB3 := Lib.hid hb; clear ho hb hg hg2 HO1 HB1 HRG1))
          go_roundw
          case rel => exact ⟨_, cnt1, _, HRG3, Lib.hid (HOU.out.more HLX.out HGX.out), Lib.hid (by have := HCN.out; have := HLT1.out; rw [List.length_append, List.length_singleton]; omega), HO3, HB3⟩
          case measure => rw [HRG3.out.left_eq, HRG.out.left_eq]; exact HLT1.out
set_option maxHeartbeats 4000000 in
set_option maxRecDepth 100000 in
theorem group_calls2 (A : Option Addr) (c : Nat) (l : List Od) (w : World) (hx : kO.C w A l.length l) (hg : GoodL l) :
    Calls Try.prog 48 #[.slice A l.length c, .func (.func 68) #[] #[]] w fun e w' => ∃ v, e = .returned v ∧ kW.R 83 w' w.heap.size (fun _ => True) v (group 2 l) ∧ Below w.heap.size w w' := by
  have HC := Lib.hid hx
  have HG := Lib.hid hg
  have hm : l.length ≤ 9223372036854775807 := hx.2.1
  have HB0 := Lib.hid (below_alloc (Below.refl w.heap.size w) (.map #[] 0))
  have HM0 : Hid (OM (w.alloc (.map #[] 0)) w.heap.size 0 (.map [])) := Lib.hid (World.ownsMap_made w Try.prog _ _)
  have hmm := @run_makeMap Try.prog
  clear hx hg
  go_enter Try.func48, Try.ntmps48
  go_wp2_with fail
  go_loopw [14] (fun i' wr => ∃ (n : Nat) (D : DW), i' = .int .i64 n ∧ Hid (n ≤ l.length) ∧ Hid (Sums D (group 2 (l.take n))) ∧ Hid (OM wr w.heap.size n D) ∧ Hid (Below w.heap.size w wr)) (fun i' _ => (l.length - intOf i').toNat)
  case atStart => exact ⟨0, .map [], rfl, Lib.hid (Nat.zero_le _), Lib.hid sums_nil, HM0, HB0⟩
  case round =>
    obtain ⟨n, D, rfl, HN, HS, HM, HB⟩ := hrel
    clear HM0 HB0
    have hn := HN.out
    by_cases h : n < l.length
    · have hlt : decide (n < l.length) = true := decide_eq_true h
      have i0 : (0 : Int) ≤ n := by omega
      obtain ⟨ad, o, ho, hA, a0, a1, a2, a3, a4, a5, a6, a7⟩ := at_O (Kd.C_below HC.out HB.out) n h
      subst hA
      have hom := List.mem_of_getElem? ho
      have HST := Lib.hid (group_snoc 2 l n o ho)
      have hwf := HG.out.wf o hom 2
      have HWF := Lib.hid hwf
      have hwt := HG.out.wt o hom
      have hrg := getW_range (lv := 2) (k := keyN 2 o) (l := l.take n) (fun q hq => HG.out.wt q (List.mem_of_mem_take hq))
      have hln := HG.out.len
      have hlt2 := List.length_take_le n l
      obtain ⟨s, hs⟩ : ∃ s, s = (getW (group 2 (l.take n)) (keyN 2 o)).getD 0 := ⟨_, rfl⟩
      rw [← hs] at hrg
      have hsum : 0 ≤ s + wOf o ∧ s + wOf o ≤ 9223372036854775807 := by omega
      have HSW := Lib.hid (wf_range hsum.1 hsum.2)
      have kw : IntKind.i64.wrap (s + wOf o) = s + wOf o := IntWalk.i64_in _ (by omega)
      have HBA := Lib.hid (below_alloc (Below.refl wr.heap.size wr) (.cells (aggO o) 40))
      have HB1 := Lib.hid (below_alloc HB.out (.cells (aggO o) 40))
      have HM1 := Lib.hid (om_below HM.out HBA.out)
      have HO1 : Hid ((wr.alloc (.cells (aggO o) 40)).heap[wr.heap.size]? = some (.cells (aggO o) 40 (0, 0))) := Lib.hid (blk_new _ _)
      obtain ⟨w1, hw1⟩ : ∃ w1, w1 = wr.alloc (.cells (aggO o) 40) := ⟨_, rfl⟩
      have HS2 : Hid (Sums (D.put (.int .i64 (keyN 2 o)) (.lit (.int .i64 (s + wOf o)))) (group 2 (l.take (n + 1)))) := Lib.hid (by rw [HST.out, hs]; exact sums_put HS.out HM.out.isMap (group_up 2 _ [] trivial) _ _)
      clear ho hom hwt hrg hsum hln hlt2
      go_wp2_with fail
      rw [← hw1] at HB1 HM1 HO1 ⊢
      obtain ⟨g1, hg1⟩ : ∃ g1, g1 = wr.heap.size := ⟨_, rfl⟩
      rw [← hg1] at HO1 ⊢
      clear hw1 hg1 a0 a1 a2 a3 a4 a5 a6 a7 HBA HM HB
      obtain ⟨y0, y1, y2, y3, y4, y5, y6, y7⟩ := blkO HO1.out
      have z0 := cell_regrown y0
      have z1 := cell_regrown y1
      have z2 := cell_regrown y2
      have z3 := cell_regrown y3
      have z4 := cell_regrown y4
      have z5 := cell_regrown y5
      have z6 := cell_regrown y6
      have z7 := cell_regrown y7
      have T1 : Hid (∀ dd os, Calls Try.prog 68 #[.agg (aggO o)] (Sort.grow (redrawn w1 dd) os) fun e w' => e = .returned (.int .i64 (keyN 2 o)) ∧ Below (Sort.grow (redrawn w1 dd) os).heap.size (Sort.grow (redrawn w1 dd) os) w') := Lib.hid (fun dd os => host_calls o _)
      have T2 : Hid (∀ dd os, Calls Try.prog 80 #[.agg (aggO o)] (Sort.grow (redrawn w1 dd) os) fun e w' => e = .returned (.int .i64 (wOf o)) ∧ Below (Sort.grow (redrawn w1 dd) os).heap.size (Sort.grow (redrawn w1 dd) os) w') := Lib.hid (fun dd os => weight_calls o _)
      have hrun : ∀ dd os, (Instr.lookup 103 (.map (some w.heap.size)) (.int .i64 (keyN 2 o)) false).run Try.prog (Sort.grow (redrawn w1 dd) os) = .ok (.int .i64 s) (Sort.grow (redrawn w1 dd) os) := fun dd os => by rw [hs]; exact look_sum (om_below HM1.out (below_regrown w1 dd os)) HS.out _ hwf
      generalize wOf o = wo at *
      generalize keyN 2 o = ko at *
      clear y0 y1 y2 y3 y4 y5 y6 y7 hwf hs
      refine QT.wp_region_tail 8 (by kernel_rfl) (by kernel_rfl) ?_
      simp only [List.take_succ_cons, List.take_zero, List.drop_succ_cons, List.drop_zero]
      repeat (go_big_quiet_step ((first | (go_at_call 68; with_reducible exact Calls.regrown_of (T1.out _ _)) | (go_at_call 80; with_reducible exact Calls.regrown_of (T2.out _ _)))))
      refine wpQuiet_nil ?_
      intro _ hw'
      obtain ⟨⟨dq, osq⟩, hw''⟩ := hw'
      subst hw''
      have HM2 := Lib.hid (om_below HM1.out (below_regrown w1 dq osq))
      have HB2 := Lib.hid (below_then HB1.out HB1.out.size (below_regrown w1 dq osq))
      obtain ⟨w2, hw2⟩ : ∃ w2, w2 = Sort.grow (redrawn w1 dq) osq := ⟨_, rfl⟩
      rw [← hw2] at HM2 HB2 ⊢
      clear hw2 z0 z1 z2 z3 z4 z5 z6 z7 T1 T2 hrun HM1 HB1 HO1 kw
      go_wp2_with (first | (at_mapUpdate; go_must (refine wpList_mapUpdate_own _ rfl _ _ _ 103 rfl 3 3 keyI Try.underlying103 _ w.heap.size n D rfl (by exact HM2.out) ?hn _ _ (.int .i64 ko) rfl rfl (keyOf_int_mk Try.underlying3 HWF.out) (.lit (.int .i64 (s + wo))) [] (plainElem_int Try.underlying3 HSW.out) ?_; (case hn => have := HG.out.len; simp only [maxLen]; omega)); intro w3 ho hg; have HM3 := Lib.hid ho; have HB3 := Lib.hid (HB2.out.grown hg HB2.out.size (fun k hk => by injection hk with hk; omega)); clear ho hg HM2 HB2))
      go_roundw
      case rel => exact ⟨n + 1, _, by go_num, Lib.hid (by omega), HS2, HM3, HB3⟩
      case measure => simp only [intOf]; omega
    · obtain rfl : n = l.length := by omega
      have hlt : decide (l.length < l.length) = false := decide_eq_false (by omega)
      rw [List.take_length] at HS
      have HUP := Lib.hid (group_up 2 l [] trivial)
      obtain ⟨G, hG⟩ : ∃ G, G = group 2 l := ⟨_, rfl⟩
      have HSL : Hid (Maps.size D ≤ l.length) := Lib.hid HM.out.size_le
      change Hid (Up (group 2 l)) at HUP
      rw [← hG] at HS HUP
      have HGE := Lib.hid hG
      obtain ⟨r, hr⟩ : ∃ r, r = wr.heap.size := ⟨_, rfl⟩
      obtain ⟨wo, hwo⟩ : ∃ wo, wo = wr := ⟨_, rfl⟩
      rw [← hwo] at HM HB hr ⊢
      have HRW : Hid (w.heap.size < r) := Lib.hid (by rw [hr]; exact HM.out.lt)
      clear h hn hG hwo
      go_wp2_with (first | (at_range; refine wpList_range_own _ rfl _ 103 rfl 3 3 keyI Try.underlying103 _ w.heap.size l.length D rfl HM.out ?_; intro w0 hrg0 hg0 hs0))
      go_frame
      rw [← hr] at hrg0 ⊢
      have HRG := Lib.hid hrg0
      have HB4 := Lib.hid (HB.out.grown hg0 HB.out.size (fun k hk => by cases hk))
      clear hrg0 hg0 hs0 HB HM hr
      go_loopw [8] (fun v wr => ∃ (left : Lit → Bool) (cnt : Nat) (out : List Wd), Hid (wr.ranges Try.prog 3 (plainElem Try.prog 3) w.heap.size r l.length D left cnt) ∧ Hid (Out G left out) ∧ Hid (out.length + cnt ≤ l.length) ∧ Hid (kW.R 83 wr w.heap.size (fun k => k ≠ w.heap.size ∧ k ≠ r) v out) ∧ Hid (Below w.heap.size w wr)) (fun _ wr => wr.rangeLeft w.heap.size r)
      case atStart =>
        refine ⟨Maps.has D, Maps.size D, [], HRG, Lib.hid ⟨fun v hv => absurd hv List.not_mem_nil, fun k c hk => .inl ?_, fun i j _ a b ha => by simp at ha, fun k hk => ?_⟩, Lib.hid (by have := HSL.out; simp; omega), Lib.hid (Kd.R_nil _ _ _ _ _), HB4⟩
        · rw [(HS.out k).1, hk]; rfl
        · rw [(HS.out k).1] at hk; exact hk
      case round =>
        obtain ⟨left, cnt, out, HRG', HOU, HCN, HO, HB'⟩ := hrel
        clear HRG HB4
        have HRG := Lib.hid HRG'.out
        have HB := Lib.hid HB'.out
        clear HRG' HB'
        go_wp2_with (first | (at_next; refine wpList_next_ranges_ii _ rfl _ rfl 3 3 .i64 .i64 keyI Try.underlying3 Try.underlying3 w.heap.size r l.length _ _ _ rfl HRG.out ?_ ?_))
        · intro _ hl0
          have HL0 := Lib.hid hl0
          clear hl0
          have hout : out.length ≤ 140737488355328 := by have := HCN.out; have := HG.out.len; omega
          obtain ⟨A8, c8, rfl⟩ := Kd.R_slice HO.out
          have HOT := Lib.hid (Kd.R_mono HO.out (ok' := fun _ => True) (fun _ _ => trivial))
          have HOS := Lib.hid hout
          clear hout
          rcases Nat.eq_zero_or_pos out.length with h0 | h0
          · obtain rfl := List.eq_nil_of_length_eq_zero h0
            have HGN : Hid (group 2 l = []) := Lib.hid (by rw [← HGE.out]; exact (HOU.out.sorted HUP.out HL0.out (List.Perm.refl _) (fun i j _ a b ha => by simp at ha)).symm)
            clear h0
            go_wp2_with fail
            refine (sort0_calls A8 c8 _ _).mono ?_
            rintro e w3 ⟨rfl, rfl⟩
            go_wp2_with fail
            go_ret
            refine ⟨_, rfl, ?_, HB.out⟩
            rw [HGN.out]
            exact HOT.out
          · have T := Lib.hid (sort_calls HOT.out h0 HOS.out)
            have HOB : Hid (∀ k, (Value.slice A8 out.length c8).ownBlock = some k → w.heap.size ≤ k) := Lib.hid (Kd.R_base HO.out)
            clear h0
            go_wp2_with fail
            refine T.out.mono ?_
            rintro e w3 ⟨rfl, ys, hp, hsd, hR, hg⟩
            have HYS : Hid (ys = group 2 l) := Lib.hid (by rw [← HGE.out]; exact HOU.out.sorted HUP.out HL0.out hp hsd)
            have HB3 := Lib.hid (HB.out.grown hg HB.out.size HOB.out)
            have HR3 := Lib.hid hR
            clear hp hsd hR hg T
            go_wp2_with fail
            go_ret
            refine ⟨_, rfl, ?_, HB3.out⟩
            rw [← HYS.out]
            exact HR3.out
        · intro x cc w1 cnt1 hwx hwc hlx hat hrg1 hlt1 hg1 hs1 hen
          have HLX := Lib.hid hlx
          have HGX : Hid (getW G x = some cc) := Lib.hid (by
            have h1 := (HS.out x).2
            rw [hat] at h1
            have h2 : cc = (getW G x).getD 0 := by simpa using h1
            have h3 := HOU.out.has x hlx
            cases h4 : getW G x with
            | none => rw [h4] at h3; cases h3
            | some z => rw [h4] at h2; simp at h2; rw [h2])
          have HRG1 := Lib.hid hrg1
          have HLT1 := Lib.hid hlt1
          have HB1 := Lib.hid (HB.out.grown hg1 HB.out.size (fun k hk => by injection hk with hk; have := HRW.out; omega))
          have HO1 := Lib.hid (Kd.R_grown HO.out hg1 (fun k hk e => by injection e with e; exact hk.2 e))
          clear hwx hwc hlx hat hrg1 hlt1 hg1 hs1 HB HO
          go_wp2_with (first | (at_builtin; go_must (refine Kd.R_append kW (w0 := w) w.heap.size rfl _ _ 80 83 (.agg #[.int .i64 0, .int .i64 0]) 16 rfl Try.underlying80 infoW rfl (by decide) (by decide) _ _ ⟨x, cc⟩ [.int .i64 x, .int .i64 cc] (fun k => k ≠ w.heap.size ∧ k ≠ r) (fun _ => False) rfl rfl (kW_mkM _ _ _ ⟨x, cc⟩) (fun _ hk => hk.elim) ?hf (by exact HO1.out) (by exact HB1.out) (by exact HB1.out.size) ?hl ?_; (case hf => intro k hk; have h1 := HRG1.out.lt; have h2 := HRW.out; omega); (case hl => have := HCN.out; have := HG.out.len; omega)); intro v2 w3 ho hb hg hg2; have HRG3 := Lib.hid (HRG1.out.kept hg (Kd.R_away HO1.out (fun k hk => hk.1)) (Kd.R_away HO1.out (fun k hk => hk.2))); have HO3 := Lib.hid ho; have HB3 := Lib.hid hb; clear ho hb hg hg2 HO1 HB1 HRG1))
          go_roundw
          case rel => exact ⟨_, cnt1, _, HRG3, Lib.hid (HOU.out.more HLX.out HGX.out), Lib.hid (by have := HCN.out; have := HLT1.out; rw [List.length_append, List.length_singleton]; omega), HO3, HB3⟩
          case measure => rw [HRG3.out.left_eq, HRG.out.left_eq]; exact HLT1.out
set_option maxHeartbeats 4000000 in
set_option maxRecDepth 100000 in
theorem group_calls3 (A : Option Addr) (c : Nat) (l : List Od) (w : World) (hx : kO.C w A l.length l) (hg : GoodL l) :
    Calls Try.prog 48 #[.slice A l.length c, .func (.func 67) #[] #[]] w fun e w' => ∃ v, e = .returned v ∧ kW.R 83 w' w.heap.size (fun _ => True) v (group 3 l) ∧ Below w.heap.size w w' := by
  have HC := Lib.hid hx
  have HG := Lib.hid hg
  have hm : l.length ≤ 9223372036854775807 := hx.2.1
  have HB0 := Lib.hid (below_alloc (Below.refl w.heap.size w) (.map #[] 0))
  have HM0 : Hid (OM (w.alloc (.map #[] 0)) w.heap.size 0 (.map [])) := Lib.hid (World.ownsMap_made w Try.prog _ _)
  have hmm := @run_makeMap Try.prog
  clear hx hg
  go_enter Try.func48, Try.ntmps48
  go_wp2_with fail
  go_loopw [14] (fun i' wr => ∃ (n : Nat) (D : DW), i' = .int .i64 n ∧ Hid (n ≤ l.length) ∧ Hid (Sums D (group 3 (l.take n))) ∧ Hid (OM wr w.heap.size n D) ∧ Hid (Below w.heap.size w wr)) (fun i' _ => (l.length - intOf i').toNat)
  case atStart => exact ⟨0, .map [], rfl, Lib.hid (Nat.zero_le _), Lib.hid sums_nil, HM0, HB0⟩
  case round =>
    obtain ⟨n, D, rfl, HN, HS, HM, HB⟩ := hrel
    clear HM0 HB0
    have hn := HN.out
    by_cases h : n < l.length
    · have hlt : decide (n < l.length) = true := decide_eq_true h
      have i0 : (0 : Int) ≤ n := by omega
      obtain ⟨ad, o, ho, hA, a0, a1, a2, a3, a4, a5, a6, a7⟩ := at_O (Kd.C_below HC.out HB.out) n h
      subst hA
      have hom := List.mem_of_getElem? ho
      have HST := Lib.hid (group_snoc 3 l n o ho)
      have hwf := HG.out.wf o hom 3
      have HWF := Lib.hid hwf
      have hwt := HG.out.wt o hom
      have hrg := getW_range (lv := 3) (k := keyN 3 o) (l := l.take n) (fun q hq => HG.out.wt q (List.mem_of_mem_take hq))
      have hln := HG.out.len
      have hlt2 := List.length_take_le n l
      obtain ⟨s, hs⟩ : ∃ s, s = (getW (group 3 (l.take n)) (keyN 3 o)).getD 0 := ⟨_, rfl⟩
      rw [← hs] at hrg
      have hsum : 0 ≤ s + wOf o ∧ s + wOf o ≤ 9223372036854775807 := by omega
      have HSW := Lib.hid (wf_range hsum.1 hsum.2)
      have kw : IntKind.i64.wrap (s + wOf o) = s + wOf o := IntWalk.i64_in _ (by omega)
      have HBA := Lib.hid (below_alloc (Below.refl wr.heap.size wr) (.cells (aggO o) 40))
      have HB1 := Lib.hid (below_alloc HB.out (.cells (aggO o) 40))
      have HM1 := Lib.hid (om_below HM.out HBA.out)
      have HO1 : Hid ((wr.alloc (.cells (aggO o) 40)).heap[wr.heap.size]? = some (.cells (aggO o) 40 (0, 0))) := Lib.hid (blk_new _ _)
      obtain ⟨w1, hw1⟩ : ∃ w1, w1 = wr.alloc (.cells (aggO o) 40) := ⟨_, rfl⟩
      have HS2 : Hid (Sums (D.put (.int .i64 (keyN 3 o)) (.lit (.int .i64 (s + wOf o)))) (group 3 (l.take (n + 1)))) := Lib.hid (by rw [HST.out, hs]; exact sums_put HS.out HM.out.isMap (group_up 3 _ [] trivial) _ _)
      clear ho hom hwt hrg hsum hln hlt2
      go_wp2_with fail
      rw [← hw1] at HB1 HM1 HO1 ⊢
      obtain ⟨g1, hg1⟩ : ∃ g1, g1 = wr.heap.size := ⟨_, rfl⟩
      rw [← hg1] at HO1 ⊢
      clear hw1 hg1 a0 a1 a2 a3 a4 a5 a6 a7 HBA HM HB
      obtain ⟨y0, y1, y2, y3, y4, y5, y6, y7⟩ := blkO HO1.out
      have z0 := cell_regrown y0
      have z1 := cell_regrown y1
      have z2 := cell_regrown y2
      have z3 := cell_regrown y3
      have z4 := cell_regrown y4
      have z5 := cell_regrown y5
      have z6 := cell_regrown y6
      have z7 := cell_regrown y7
      have T1 : Hid (∀ dd os, Calls Try.prog 67 #[.agg (aggO o)] (Sort.grow (redrawn w1 dd) os) fun e w' => e = .returned (.int .i64 (keyN 3 o)) ∧ Below (Sort.grow (redrawn w1 dd) os).heap.size (Sort.grow (redrawn w1 dd) os) w') := Lib.hid (fun dd os => self_calls o _)
      have T2 : Hid (∀ dd os, Calls Try.prog 80 #[.agg (aggO o)] (Sort.grow (redrawn w1 dd) os) fun e w' => e = .returned (.int .i64 (wOf o)) ∧ Below (Sort.grow (redrawn w1 dd) os).heap.size (Sort.grow (redrawn w1 dd) os) w') := Lib.hid (fun dd os => weight_calls o _)
      have hrun : ∀ dd os, (Instr.lookup 103 (.map (some w.heap.size)) (.int .i64 (keyN 3 o)) false).run Try.prog (Sort.grow (redrawn w1 dd) os) = .ok (.int .i64 s) (Sort.grow (redrawn w1 dd) os) := fun dd os => by rw [hs]; exact look_sum (om_below HM1.out (below_regrown w1 dd os)) HS.out _ hwf
      generalize wOf o = wo at *
      generalize keyN 3 o = ko at *
      clear y0 y1 y2 y3 y4 y5 y6 y7 hwf hs
      refine QT.wp_region_tail 8 (by kernel_rfl) (by kernel_rfl) ?_
      simp only [List.take_succ_cons, List.take_zero, List.drop_succ_cons, List.drop_zero]
      repeat (go_big_quiet_step ((first | (go_at_call 67; with_reducible exact Calls.regrown_of (T1.out _ _)) | (go_at_call 80; with_reducible exact Calls.regrown_of (T2.out _ _)))))
      refine wpQuiet_nil ?_
      intro _ hw'
      obtain ⟨⟨dq, osq⟩, hw''⟩ := hw'
      subst hw''
      have HM2 := Lib.hid (om_below HM1.out (below_regrown w1 dq osq))
      have HB2 := Lib.hid (below_then HB1.out HB1.out.size (below_regrown w1 dq osq))
      obtain ⟨w2, hw2⟩ : ∃ w2, w2 = Sort.grow (redrawn w1 dq) osq := ⟨_, rfl⟩
      rw [← hw2] at HM2 HB2 ⊢
      clear hw2 z0 z1 z2 z3 z4 z5 z6 z7 T1 T2 hrun HM1 HB1 HO1 kw
      go_wp2_with (first | (at_mapUpdate; go_must (refine wpList_mapUpdate_own _ rfl _ _ _ 103 rfl 3 3 keyI Try.underlying103 _ w.heap.size n D rfl (by exact HM2.out) ?hn _ _ (.int .i64 ko) rfl rfl (keyOf_int_mk Try.underlying3 HWF.out) (.lit (.int .i64 (s + wo))) [] (plainElem_int Try.underlying3 HSW.out) ?_; (case hn => have := HG.out.len; simp only [maxLen]; omega)); intro w3 ho hg; have HM3 := Lib.hid ho; have HB3 := Lib.hid (HB2.out.grown hg HB2.out.size (fun k hk => by injection hk with hk; omega)); clear ho hg HM2 HB2))
      go_roundw
      case rel => exact ⟨n + 1, _, by go_num, Lib.hid (by omega), HS2, HM3, HB3⟩
      case measure => simp only [intOf]; omega
    · obtain rfl : n = l.length := by omega
      have hlt : decide (l.length < l.length) = false := decide_eq_false (by omega)
      rw [List.take_length] at HS
      have HUP := Lib.hid (group_up 3 l [] trivial)
      obtain ⟨G, hG⟩ : ∃ G, G = group 3 l := ⟨_, rfl⟩
      have HSL : Hid (Maps.size D ≤ l.length) := Lib.hid HM.out.size_le
      change Hid (Up (group 3 l)) at HUP
      rw [← hG] at HS HUP
      have HGE := Lib.hid hG
      obtain ⟨r, hr⟩ : ∃ r, r = wr.heap.size := ⟨_, rfl⟩
      obtain ⟨wo, hwo⟩ : ∃ wo, wo = wr := ⟨_, rfl⟩
      rw [← hwo] at HM HB hr ⊢
      have HRW : Hid (w.heap.size < r) := Lib.hid (by rw [hr]; exact HM.out.lt)
      clear h hn hG hwo
      go_wp2_with (first | (at_range; refine wpList_range_own _ rfl _ 103 rfl 3 3 keyI Try.underlying103 _ w.heap.size l.length D rfl HM.out ?_; intro w0 hrg0 hg0 hs0))
      go_frame
      rw [← hr] at hrg0 ⊢
      have HRG := Lib.hid hrg0
      have HB4 := Lib.hid (HB.out.grown hg0 HB.out.size (fun k hk => by cases hk))
      clear hrg0 hg0 hs0 HB HM hr
      go_loopw [8] (fun v wr => ∃ (left : Lit → Bool) (cnt : Nat) (out : List Wd), Hid (wr.ranges Try.prog 3 (plainElem Try.prog 3) w.heap.size r l.length D left cnt) ∧ Hid (Out G left out) ∧ Hid (out.length + cnt ≤ l.length) ∧ Hid (kW.R 83 wr w.heap.size (fun k => k ≠ w.heap.size ∧ k ≠ r) v out) ∧ Hid (Below w.heap.size w wr)) (fun _ wr => wr.rangeLeft w.heap.size r)
      case atStart =>
        refine ⟨Maps.has D, Maps.size D, [], HRG, Lib.hid ⟨fun v hv => absurd hv List.not_mem_nil, fun k c hk => .inl ?_, fun i j _ a b ha => by simp at ha, fun k hk => ?_⟩, Lib.hid (by have := HSL.out; simp; omega), Lib.hid (Kd.R_nil _ _ _ _ _), HB4⟩
        · rw [(HS.out k).1, hk]; rfl
        · rw [(HS.out k).1] at hk; exact hk
      case round =>
        obtain ⟨left, cnt, out, HRG', HOU, HCN, HO, HB'⟩ := hrel
        clear HRG HB4
        have HRG := Lib.hid HRG'.out
        have HB := Lib.hid HB'.out
        clear HRG' HB'
        go_wp2_with (first | (at_next; refine wpList_next_ranges_ii _ rfl _ rfl 3 3 .i64 .i64 keyI Try.underlying3 Try.underlying3 w.heap.size r l.length _ _ _ rfl HRG.out ?_ ?_))
        · intro _ hl0
          have HL0 := Lib.hid hl0
          clear hl0
          have hout : out.length ≤ 140737488355328 := by have := HCN.out; have := HG.out.len; omega
          obtain ⟨A8, c8, rfl⟩ := Kd.R_slice HO.out
          have HOT := Lib.hid (Kd.R_mono HO.out (ok' := fun _ => True) (fun _ _ => trivial))
          have HOS := Lib.hid hout
          clear hout
          rcases Nat.eq_zero_or_pos out.length with h0 | h0
          · obtain rfl := List.eq_nil_of_length_eq_zero h0
            have HGN : Hid (group 3 l = []) := Lib.hid (by rw [← HGE.out]; exact (HOU.out.sorted HUP.out HL0.out (List.Perm.refl _) (fun i j _ a b ha => by simp at ha)).symm)
            clear h0
            go_wp2_with fail
            refine (sort0_calls A8 c8 _ _).mono ?_
            rintro e w3 ⟨rfl, rfl⟩
            go_wp2_with fail
            go_ret
            refine ⟨_, rfl, ?_, HB.out⟩
            rw [HGN.out]
            exact HOT.out
          · have T := Lib.hid (sort_calls HOT.out h0 HOS.out)
            have HOB : Hid (∀ k, (Value.slice A8 out.length c8).ownBlock = some k → w.heap.size ≤ k) := Lib.hid (Kd.R_base HO.out)
            clear h0
            go_wp2_with fail
            refine T.out.mono ?_
            rintro e w3 ⟨rfl, ys, hp, hsd, hR, hg⟩
            have HYS : Hid (ys = group 3 l) := Lib.hid (by rw [← HGE.out]; exact HOU.out.sorted HUP.out HL0.out hp hsd)
            have HB3 := Lib.hid (HB.out.grown hg HB.out.size HOB.out)
            have HR3 := Lib.hid hR
            clear hp hsd hR hg T
            go_wp2_with fail
            go_ret
            refine ⟨_, rfl, ?_, HB3.out⟩
            rw [← HYS.out]
            exact HR3.out
        · intro x cc w1 cnt1 hwx hwc hlx hat hrg1 hlt1 hg1 hs1 hen
          have HLX := Lib.hid hlx
          have HGX : Hid (getW G x = some cc) := Lib.hid (by
            have h1 := (HS.out x).2
            rw [hat] at h1
            have h2 : cc = (getW G x).getD 0 := by simpa using h1
            have h3 := HOU.out.has x hlx
            cases h4 : getW G x with
            | none => rw [h4] at h3; cases h3
            | some z => rw [h4] at h2; simp at h2; rw [h2])
          have HRG1 := Lib.hid hrg1
          have HLT1 := Lib.hid hlt1
          have HB1 := Lib.hid (HB.out.grown hg1 HB.out.size (fun k hk => by injection hk with hk; have := HRW.out; omega))
          have HO1 := Lib.hid (Kd.R_grown HO.out hg1 (fun k hk e => by injection e with e; exact hk.2 e))
          clear hwx hwc hlx hat hrg1 hlt1 hg1 hs1 HB HO
          go_wp2_with (first | (at_builtin; go_must (refine Kd.R_append kW (w0 := w) w.heap.size rfl _ _ 80 83 (.agg #[.int .i64 0, .int .i64 0]) 16 rfl Try.underlying80 infoW rfl (by decide) (by decide) _ _ ⟨x, cc⟩ [.int .i64 x, .int .i64 cc] (fun k => k ≠ w.heap.size ∧ k ≠ r) (fun _ => False) rfl rfl (kW_mkM _ _ _ ⟨x, cc⟩) (fun _ hk => hk.elim) ?hf (by exact HO1.out) (by exact HB1.out) (by exact HB1.out.size) ?hl ?_; (case hf => intro k hk; have h1 := HRG1.out.lt; have h2 := HRW.out; omega); (case hl => have := HCN.out; have := HG.out.len; omega)); intro v2 w3 ho hb hg hg2; have HRG3 := Lib.hid (HRG1.out.kept hg (Kd.R_away HO1.out (fun k hk => hk.1)) (Kd.R_away HO1.out (fun k hk => hk.2))); have HO3 := Lib.hid ho; have HB3 := Lib.hid hb; clear ho hb hg hg2 HO1 HB1 HRG1))
          go_roundw
          case rel => exact ⟨_, cnt1, _, HRG3, Lib.hid (HOU.out.more HLX.out HGX.out), Lib.hid (by have := HCN.out; have := HLT1.out; rw [List.length_append, List.length_singleton]; omega), HO3, HB3⟩
          case measure => rw [HRG3.out.left_eq, HRG.out.left_eq]; exact HLT1.out
end Go.Proofs.Ytnpphmgibgfjoaa.Grp
