import Derived.Test.YtnpphmgibgfjoaaAwk
/- Who is up turns nothing: the plain law. -/
namespace Go.Proofs.Ytnpphmgibgfjoaa.UpsP
open Go Go.RowKit Go.Proofs.YtnpphmgibgfjoaaW.PrintWords Go.Proofs.YtnpphmgibgfjoaaW.PrintMore Mem PAll KW MixP MixW StrP StrW AtA Srt Grp Sl Dsc AtB Roo Rep Cho MayP Awk
open CrP hiding Od
def nrm (o : Od) : Od := { o with f1 := false, f4 := 0 }
theorem groupF_nrm (lv : Nat) : ∀ (l : List Od) (g : List Wd), groupF lv g (l.map nrm) = groupF lv g l
  | [], _ => rfl
  | o :: r, g => groupF_nrm lv r (ins (keyN lv o) (wOf o) g)
theorem group_nrm (lv : Nat) (l : List Od) : group lv (l.map nrm) = group lv l := groupF_nrm lv l []
theorem lvl_nrm (x r : Int) (lv : Nat) (l : List Od) : lvl x r lv (l.map nrm) = (lvl x r lv l).map (List.map nrm) := by
  unfold lvl
  rw [group_nrm]
  split
  · rfl
  · rw [List.filter_map]
    rfl
theorem desc_nrm (x r : Int) (l : List Od) : desc x r (l.map nrm) = (desc x r l).map nrm := by
  unfold desc
  rw [lvl_nrm]
  cases lvl x r 1 l with
  | none => rfl
  | some l1 =>
    show ((lvl x r 2 (l1.map nrm)).bind (lvl x r 3)).bind List.head? = (((lvl x r 2 l1).bind (lvl x r 3)).bind List.head?).map nrm
    rw [lvl_nrm]
    cases lvl x r 2 l1 with
    | none => rfl
    | some l2 =>
      show (lvl x r 3 (l2.map nrm)).bind List.head? = ((lvl x r 3 l2).bind List.head?).map nrm
      rw [lvl_nrm]
      cases lvl x r 3 l2 with
      | none => rfl
      | some l3 => cases l3 <;> rfl
theorem tries_nrm (l : List Od) (x want place : Int) (lv : Nat) (taken : List Int) : ∀ m t, tries (l.map nrm) x want place lv taken m t = (tries l x want place lv taken m t).map nrm
  | 0, _ => rfl
  | m + 1, t => by
    simp only [tries]
    rw [desc_nrm]
    cases desc x (place + t * want) l with
    | none => exact tries_nrm l x want place lv taken m (t + 1)
    | some o =>
      show (if keyN lv (nrm o) ∈ taken then _ else _) = _
      rw [show keyN lv (nrm o) = keyN lv o from rfl]
      by_cases h : keyN lv o ∈ taken
      · simp only [if_pos h]; exact tries_nrm l x want place lv taken m (t + 1)
      · simp only [if_neg h]; rfl
theorem places_nrm (l : List Od) (x want : Int) (lv : Nat) : ∀ m p taken, places (l.map nrm) x want lv m p taken = places l x want lv m p taken
  | 0, _, _ => rfl
  | m + 1, p, taken => by
    simp only [places]
    rw [tries_nrm]
    cases tries l x want p lv taken 50 0 with
    | none => exact congrArg _ (places_nrm l x want lv m (p + 1) taken)
    | some o => exact congrArg _ (places_nrm l x want lv m (p + 1) (keyN lv o :: taken))
def off (j : Nat) (o : Od) : Od := { o with f1 := false, f4 := (j : Int) }
/-- The first i are down. -/
structure Downs (l xs : List Od) (i : Nat) : Prop where
  len : xs.length = l.length
  at_ : ∀ j o, l[j]? = some o → xs[j]? = some (if j < i then off j o else o)
theorem Downs.start (l : List Od) : Downs l l 0 := ⟨rfl, fun j o h => by rw [if_neg (Nat.not_lt_zero _)]; exact h⟩
theorem Downs.more {l xs : List Od} {i : Nat} {o : Od} (h : Downs l xs i) (ho : l[i]? = some o) : Downs l (xs.set i (off i o)) (i + 1) := by
  refine ⟨by rw [List.length_set]; exact h.len, fun j q hq => ?_⟩
  have hi := (List.getElem?_eq_some_iff.1 ho).1
  have hl := h.len
  rw [List.getElem?_set]
  by_cases e : i = j
  · subst e
    obtain rfl : o = q := Option.some.inj (ho.symm.trans hq)
    rw [if_pos rfl, if_pos (by omega), if_pos (Nat.lt_succ_self _)]
  · rw [if_neg e, h.at_ j q hq]
    by_cases h2 : j < i
    · rw [if_pos h2, if_pos (by omega)]
    · rw [if_neg h2, if_neg (by omega)]
theorem Downs.nrm_eq {l xs : List Od} {i : Nat} (h : Downs l xs i) : xs.map nrm = l.map nrm := by
  apply List.ext_getElem?
  intro j
  rw [List.getElem?_map, List.getElem?_map]
  rcases Nat.lt_or_ge j l.length with hj | hj
  · rw [h.at_ j _ (List.getElem?_eq_getElem hj), List.getElem?_eq_getElem hj]
    split <;> rfl
  · rw [List.getElem?_eq_none hj, List.getElem?_eq_none (by rw [h.len]; exact hj)]
theorem Downs.places {l xs : List Od} {i : Nat} (h : Downs l xs i) (x want : Int) (lv m p : Nat) (taken : List Int) : places xs x want lv m p taken = places l x want lv m p taken := by
  rw [← places_nrm xs, h.nrm_eq, places_nrm]
theorem osdB_off {o : Od} {j : Nat} (h : osdB o = true) (hj : j < 64) : osdB (off j o) = true := by
  unfold osdB at *
  simp only [Bool.and_eq_true] at h
  obtain ⟨h0, h6, h7, h3, _, h5, _⟩ := h
  have h4 : winB (j : Int) 2147483647 = true := decide_eq_true (by omega)
  show (winB o.f0 999 && (winB o.f6 999 && (winB o.f7 999 && (winB o.f3 16777216 && (winB (j : Int) 2147483647 && (winB o.f5 2147483647 && (!false || (decide (1 ≤ (j : Int)) && decide (1 ≤ o.f5))))))))) = true
  rw [h0, h6, h7, h3, h4, h5]
  rfl
theorem Downs.may {l xs : List Od} {ep k m p d : Int} (h : Downs l xs l.length) (hm : mayB ep k m p d l = true) : mayB 7 k m p d xs = true := by
  have hg := may_good hm
  have hG := goodB_iff.1 hg.2
  have hlen := h.len
  have at' : ∀ j o, xs[j]? = some o → ∃ q, l[j]? = some q ∧ o = off j q ∧ j < l.length := fun j o ho => by
    have hj := (List.getElem?_eq_some_iff.1 ho).1
    have e := h.at_ j _ (List.getElem?_eq_getElem (show j < l.length by omega))
    rw [if_pos (by omega)] at e
    exact ⟨_, List.getElem?_eq_getElem (by omega), Option.some.inj (ho.symm.trans e), by omega⟩
  have hgood : AtA.Good xs xs.length := fun i o _ ho => by
    obtain ⟨q, hq, rfl, hi⟩ := at' i o ho
    have hq2 := hG i q hi hq
    refine ⟨osdB_off hq2.1 (by omega), fun j p hj hp => ?_⟩
    obtain ⟨q', hq', rfl, hj'⟩ := at' j p hp
    exact hq2.2 j q' hj hq'
  unfold mayB at *
  rw [goodB_yes hgood, hlen]
  simp only [Bool.and_eq_true, decide_eq_true_eq] at *
  first | exact ⟨by decide, hm.2.1, hm.2.2.1⟩ | exact ⟨by decide, hm.2.1, hm.2.2.1, trivial⟩
theorem Downs.wf {l xs : List Od} {i : Nat} (h : Downs l xs i) (hw : WfL l) : WfL xs := fun o ho => by
  obtain ⟨j, hj, e⟩ := List.mem_iff_getElem.1 ho
  have hj' : j < l.length := by rw [← h.len]; exact hj
  have e2 := h.at_ j _ (List.getElem?_eq_getElem hj')
  rw [List.getElem?_eq_getElem hj, e] at e2
  have hw2 := hw l[j] (List.getElem_mem hj')
  rw [Option.some.inj e2]
  split
  · exact hw2
  · exact hw2
/-! ### lists of numbers alike -/
theorem ints_l0 (l : List Int) (hl : l.length ≤ 64) : ∀ r i : Nat, i + r = l.length → ∃ K, mooringref17_Ints.l0 K l l (i : Int) = some true
  | 0, i, hi => ⟨1, by rw [mooringref17_Ints.l0, if_neg (by omega)]⟩
  | r + 1, i, hi => by
    obtain ⟨K, hK⟩ := ints_l0 l hl r (i + 1) (by omega)
    refine ⟨K + 1, ?_⟩
    rw [mooringref17_Ints.l0, if_pos (by omega), if_pos (by omega), if_pos (by omega), if_pos rfl, w64 (by omega) (by omega)]
    exact hK
theorem ints_self (l : List Int) (hl : l.length ≤ 64) : ∃ K, mooringref17_Ints.f K l l = some true := by
  obtain ⟨K, hK⟩ := ints_l0 l hl l.length 0 (by omega)
  exact ⟨K, by unfold mooringref17_Ints.f; rw [if_pos rfl]; exact hK⟩
theorem ints_C {w : World} {g n : Nat} {ps : List Int} (h : w.heap[g]? = some (.cells (outA n ps) 3 (0, 0))) (hn : ps.length = n) (hs : n ≤ 64) : Kd.C (Kd.int .i64) w (some ⟨g, 0, none⟩) ps.length ps := by
  refine ⟨rfl, by omega, fun _ => ⟨_, rfl, fun j p hj => ?_⟩⟩
  refine ⟨[.int .i64 p], rfl, rfl, fun i u hu => ?_⟩
  match i, hu with
  | 0, hu =>
    obtain rfl := Option.some.inj hu
    rw [add_plain, show j * (Kd.int .i64).sz + 0 = j from Nat.mul_one j, blk_cell h, List.getElem?_toArray, List.getElem?_append_left (by rw [List.length_map]; exact (List.getElem?_eq_some_iff.1 hj).1), List.getElem?_map, hj]
    rfl
  | i + 1, hu => cases hu
theorem places_len (l : List Od) (x want : Int) (lv : Nat) : ∀ m p taken, (places l x want lv m p taken).length = m
  | 0, _, _ => rfl
  | m + 1, p, taken => by
    simp only [places]
    split
    · rw [List.length_cons, places_len l x want lv m]
    · rw [List.length_cons, places_len l x want lv m]
end Go.Proofs.Ytnpphmgibgfjoaa.UpsP
