import Derived.Test.YtffmhbblcihogaaProg
import Derived.Test.YtffmhbblcihogaaPeerK
import Derived.WalkKit
import Derived.WalkSpells
import Derived.WalkLawsBesides
import Derived.Lib.Hide
import Derived.Deep.DeepMust
import Derived.Maps.OwnOps
import Derived.Maps.OwnSet
import Derived.Maps.Views
/- Who tells of an interval: the walk. -/
namespace Go.Proofs.Ytffmhbblcihogaa.PeerT
open Go.RowKit Go.Proofs.YtffmhbblcihogaaW.PrintWords PAll PeerP Opns Mem PeerK
open Go.Maps (Keyed int_keyed keyOf_int_mk)
theorem zeroB (w : World) : (zeroValue 4).run Try.prog w = .ok (.bool false) w := by kernel_rfl
theorem keyI : Keyed Try.prog 3 := int_keyed Try.underlying3
theorem plainElem_bool_inv {H : Type} {P : Program} {e : TypeId} (he : P.underlying e = some .bool) {v : Value} {z : DataW H × List MemPlace} (h : plainElem P e v = some z) : ∃ b, v = .bool b ∧ z = (.lit (.bool b), []) := by
  unfold plainElem at h
  rw [he] at h
  cases v <;> simp at h
  exact ⟨_, rfl, h.symm⟩
abbrev DW := DataW Unit
abbrev OM (w : World) (b n : Nat) (D : DW) : Prop := w.ownsMap Try.prog 3 (plainElem Try.prog 4) b n D
theorem look_met {w : World} {b n : Nat} {D : DW} (h : OM w b n D) (v : Int) (hv : (Lit.int .i64 v).wf = true) : ∃ c, (Instr.lookup 42 (.map (some b)) (.int .i64 v) false).run Try.prog w = .ok (.bool c) w ∧ D.atKey (.int .i64 v) (.lit (.bool false)) = .lit (.bool c) := by
  obtain ⟨y, ps, hrun, hy⟩ := h.lookup keyI Try.underlying42 (zeroB w) (plainElem_bool Try.underlying4 false) (keyOf_int_mk Try.underlying3 hv)
  obtain ⟨c, rfl, hc⟩ := plainElem_bool_inv Try.underlying4 hy
  exact ⟨c, hrun, congrArg Prod.fst hc⟩
/-- What the map holds: those that were met. -/
def Met (met : List Int) (D : DW) : Prop := ∀ v : Int, D.atKey (.int .i64 v) (.lit (.bool false)) = .lit (.bool (decide (v ∈ met)))
theorem met_put {met : List Int} {D : DW} {u : Int} (h : Met met D) (hm : Go.Maps.IsMap D) : Met (u :: met) (D.put (.int .i64 u) (.lit (.bool true))) := by
  intro v
  by_cases e : v = u
  · subst e
    rw [Go.Maps.atKey_put_same hm (by trivial)]
    simp
  · rw [Go.Maps.atKey_put_other (by intro hh; injection hh with _ hh; exact e hh), h v]
    simp [e]
theorem met_nil : Met [] (.map []) := fun _ => rfl
theorem om_below {w w1 : World} {b n : Nat} {D : DW} (h : OM w b n D) (hb : Below w.heap.size w w1) : OM w1 b n D := h.kept (grown_of_below hb none) (by simp)
theorem made (w : World) (o : Obj) : OM ((w.alloc o).alloc (.map #[] 0)) (w.heap.size + 1) 0 (.map []) := by
  have e : (w.alloc o).heap.size = w.heap.size + 1 := by simp
  exact e ▸ World.ownsMap_made (w.alloc o) Try.prog _ _
/-- What has been told so far. -/
structure Sofar (x : Iv) (l : List Ie) (n : Nat) (acc : List Ie) (met : List Int) : Prop where
  hn : n ≤ l.length
  all : acc ++ told x met (l.drop n) = told x [] l
  len : acc.length ≤ n
theorem Sofar.more {x : Iv} {l : List Ie} {n : Nat} {acc : List Ie} {met : List Int} {i : Ie} (h : Sofar x l n acc met) (hi : l[n]? = some i) (hc : cnt x i.x = true) (hm : i.x.osd ∉ met) : Sofar x l (n + 1) (acc ++ [i]) (i.x.osd :: met) := by
  have hn := (List.getElem?_eq_some_iff.1 hi).1
  have e : l[n] = i := (List.getElem?_eq_some_iff.1 hi).2
  refine ⟨hn, ?_, by have := h.len; simp; omega⟩
  rw [← h.all, List.drop_eq_getElem_cons hn, e]
  simp only [told]
  rw [if_pos ⟨hc, hm⟩, List.append_assoc]
  rfl
theorem Sofar.skip {x : Iv} {l : List Ie} {n : Nat} {acc : List Ie} {met : List Int} {i : Ie} (h : Sofar x l n acc met) (hi : l[n]? = some i) (hc : ¬ (cnt x i.x = true ∧ i.x.osd ∉ met)) : Sofar x l (n + 1) acc met := by
  have hn := (List.getElem?_eq_some_iff.1 hi).1
  have e : l[n] = i := (List.getElem?_eq_some_iff.1 hi).2
  refine ⟨hn, ?_, by have := h.len; omega⟩
  rw [← h.all, List.drop_eq_getElem_cons hn, e]
  simp only [told]
  rw [if_neg hc]
set_option maxHeartbeats 1600000 in
set_option maxRecDepth 100000 in
theorem told_calls (p : Xe) (A : Option Addr) (c : Nat) (l : List Ie) (w : World) (hp : GoodX w p) (hx : kE.C w A l.length l) (hg : ∀ i ∈ l, GoodE w i ∧ (Lit.int .i64 i.x.osd).wf = true) (hs : l.length * 56 ≤ 140737488355328) :
    Calls Try.prog 14 #[.agg (aggX p), .slice A l.length c] w fun e w' => ∃ v, e = .returned v ∧ kE.R 38 w' w.heap.size (fun _ => True) v (told p.x [] l) ∧ Below w.heap.size w w' := by
  have HP := Lib.hid hp
  have HC := Lib.hid hx
  have HG := Lib.hid hg
  have HL := Lib.hid hs
  have hm : l.length ≤ 9223372036854775807 := hx.2.1
  have HB := Lib.hid (Below.refl w.heap.size w)
  have HB1 := Lib.hid (below_alloc (below_alloc HB.out (.cells (aggX p) 33)) (.map #[] 0))
  have HBX0 : Hid (((w.alloc (.cells (aggX p) 33)).alloc (.map #[] 0)).heap[w.heap.size]? = some (.cells (aggX p) 33 (0, 0))) := Lib.hid (blk_alloc (blk_new w _) _)
  have HM0 : Hid (OM ((w.alloc (.cells (aggX p) 33)).alloc (.map #[] 0)) (w.heap.size + 1) 0 (.map [])) := Lib.hid (made _ _)
  have hmm := @run_makeMap Try.prog
  clear hp hx hg hs HB
  go_enter Try.func14, Try.ntmps14
  go_wp2_with fail
  go_loopw [6, 12] (fun v i' wr => ∃ (n : Nat) (acc : List Ie) (met : List Int) (D : DW), i' = .int .i64 n ∧ Hid (Sofar p.x l n acc met) ∧ Hid (Met met D) ∧ Hid (OM wr (w.heap.size + 1) n D) ∧ Hid (kE.R 38 wr w.heap.size (fun k => k ≠ w.heap.size + 1) v acc) ∧ Hid (wr.heap[w.heap.size]? = some (.cells (aggX p) 33 (0, 0))) ∧ Hid (Below w.heap.size w wr)) (fun _ i' _ => (l.length - intOf i').toNat)
  case atStart => exact ⟨0, [], [], .map [], rfl, Lib.hid ⟨Nat.zero_le _, by simp, by simp⟩, Lib.hid met_nil, HM0, Lib.hid (Kd.R_nil _ _ _ _ _), HBX0, HB1⟩
  case round =>
    obtain ⟨n, acc, met, D, rfl, HS, HD, HM, HO, HBX, HB⟩ := hrel
    have hn := HS.out.hn
    by_cases h : n < l.length
    · have hlt : decide (n < l.length) = true := decide_eq_true h
      have i0 : (0 : Int) ≤ n := by omega
      obtain ⟨ad, q, hq, hA, a0, a1, a2, a3, a4⟩ := at_E (Kd.C_below HC.out HB.out) n h
      subst hA
      have HQ := Lib.hid hq
      have hgq := HG.out q (List.mem_of_getElem? hq)
      have HGQ := Lib.hid (hgq.1.below HB.out)
      have hw := hgq.2
      have HW := Lib.hid hgq.2
      have HBA := Lib.hid (below_alloc (Below.refl wr.heap.size wr) (.cells (aggE q) 38))
      have T := Lib.hid (counts_calls p q (wr.alloc (.cells (aggE q) 38)) ((HP.out.below HB.out).below HBA.out) (HGQ.out.below HBA.out))
      have HBQ : Hid ((wr.alloc (.cells (aggE q) 38)).heap[wr.heap.size]? = some (.cells (aggE q) 38 (0, 0))) := Lib.hid (blk_new wr _)
      have HBX1 : Hid ((wr.alloc (.cells (aggE q) 38)).heap[w.heap.size]? = some (.cells (aggX p) 33 (0, 0))) := Lib.hid (blk_alloc HBX.out _)
      have HB1 := Lib.hid (below_alloc HB.out (.cells (aggE q) 38))
      have HM1 := Lib.hid (om_below HM.out HBA.out)
      have HO1 := Lib.hid (Kd.R_below HO.out HBA.out)
      have HSZ : Hid (w.heap.size + 1 < wr.heap.size) := Lib.hid HM.out.lt
      obtain ⟨c0, c1, c2, c3, c4, c5⟩ := blkX HBX1.out
      clear hq hgq HB HM HO HBX
      go_wp2_with fail
      refine T.out.mono ?_
      rintro e w5 ⟨rfl, hb⟩
      clear c0 c1 c2 c3 c4 c5 T a0 a1 a2 a3 a4
      have HBX5 := Lib.hid (blk_below HBX1.out hb)
      have HBQ5 := Lib.hid (blk_below HBQ.out hb)
      have HB5 := Lib.hid (below_then HB1.out HB1.out.size hb)
      have HM5 := Lib.hid (om_below HM1.out hb)
      have HO5 := Lib.hid (Kd.R_below HO1.out hb)
      obtain ⟨c0, c1, c2, c3, c4⟩ := blkE HBQ5.out
      obtain ⟨cm, hrun, hat⟩ := look_met HM5.out q.x.osd hw
      have HA := Lib.hid ((HD.out q.x.osd).symm.trans hat)
      have HIM := Lib.hid HM5.out.isMap
      clear hb HB1 HM1 HO1 HBX1 HBQ hat hw
      cases hc : cnt p.x q.x
      · have HCN := Lib.hid hc
        clear hc
        go_wp2_with fail
        go_roundw
        case rel => exact ⟨n + 1, acc, met, D, by go_num, Lib.hid (HS.out.skip HQ.out (fun h => by rw [HCN.out] at h; exact absurd h.1 (by decide))), HD, Lib.hid (HM5.out.mono (by omega)), HO5, HBX5, HB5⟩
        case measure => simp only [intOf]; omega
      · have HCN := Lib.hid hc
        clear hc
        cases cm
        · go_wp2_with (first | (at_mapUpdate; go_must (refine wpList_mapUpdate_own _ rfl _ _ _ 42 rfl 3 4 keyI Try.underlying42 _ (w.heap.size + 1) n D rfl (by exact HM5.out) ?hn _ _ (.int .i64 q.x.osd) rfl rfl (keyOf_int_mk Try.underlying3 HW.out) (.lit (.bool true)) [] (plainElem_bool Try.underlying4 true) ?_; (case hn => have := HL.out; simp only [maxLen]; omega)); intro w2 ho hg; have HM2 := Lib.hid ho; have HO2 := Lib.hid (Kd.R_grown HO5.out hg (fun k hk e => by injection e with e; exact hk e)); have HB4 := Lib.hid (HB5.out.grown hg HB5.out.size (fun k hk => by injection hk with hk; omega)); have HBX6 := Lib.hid (blk_grown HBX5.out hg (by simp)); have HBQ6 := Lib.hid (blk_grown HBQ5.out hg (by have := HSZ.out; intro e; injection e with e; omega)); clear c0 c1 c2 c3 c4; obtain ⟨c0, c1, c2, c3, c4⟩ := blkE HBQ6.out; clear ho hg HM5 HO5 HB5 HBX5 HBQ5) | (at_builtin; go_must (refine Kd.R_append kE (w0 := w) w.heap.size rfl _ _ 23 38 (.agg #[.int .i64 0, .int .i64 0, .int .i64 0, .int .i64 0, .slice none 0 0]) 56 rfl Try.underlying23 infoE rfl (by decide) (by decide) _ _ q (cellsE q) (fun k => k ≠ w.heap.size + 1) (fun _ => False) rfl rfl (kE_mkM _ _ _ q) (fun _ hk => hk.elim) ?hf (by exact HO2.out) (by exact HB4.out) (by exact HB4.out.size) ?hl ?_; (case hf => intro k hk; have := HM2.out.lt; omega); (case hl => have := HL.out; have := HS.out.len; omega)); intro v2 w3 ho hb hg hg2; have HM3 := Lib.hid (HM2.out.kept hg (Kd.R_away HO2.out (fun k hk => hk))); have HO3 := Lib.hid ho; have HB3 := Lib.hid hb; have HBX3 := Lib.hid (blk_grown HBX6.out hg (Kd.R_ne HO2.out HBX6.out (by decide))); clear ho hb hg hg2 HM2 HO2 HB4))
          go_roundw
          case rel =>
            refine ⟨n + 1, _, _, _, by go_num, Lib.hid (HS.out.more HQ.out HCN.out ?_), Lib.hid (met_put HD.out HIM.out), Lib.hid (HM3.out.mono (by omega)), HO3, HBX3, HB3⟩
            have := HA.out
            injection this with this
            injection this with this
            exact of_decide_eq_false this
          case measure => simp only [intOf]; omega
        · go_wp2_with fail
          go_roundw
          case rel => 
            refine ⟨n + 1, acc, met, D, by go_num, Lib.hid (HS.out.skip HQ.out (fun h => ?_)), HD, Lib.hid (HM5.out.mono (by omega)), HO5, HBX5, HB5⟩
            have := HA.out
            injection this with this
            injection this with this
            exact h.2 (of_decide_eq_true this)
          case measure => simp only [intOf]; omega
    · obtain rfl : n = l.length := by omega
      have hlt : decide (l.length < l.length) = false := decide_eq_false (by omega)
      go_wp2_with fail
      go_ret
      refine ⟨_, rfl, ?_, HB.out⟩
      have := HS.out.all
      rw [List.drop_length] at this
      simp only [told, List.append_nil] at this
      rw [← this]
      exact Kd.R_mono HO.out (fun _ _ => trivial)
end Go.Proofs.Ytffmhbblcihogaa.PeerT
