import Derived.Test.YtnpphmgibgfjoaaKCov1
import Derived.Maps.Views
import Derived.Shelf.Abstract
import Derived.Lib.BufferWrite
import Derived.Test.YtnpphmgibgfjoaaPAllx2
import Derived.Test.YtnpphmgibgfjoaaPAllx3
import Derived.Test.YtnpphmgibgfjoaaPAllx4
import Derived.Test.YtnpphmgibgfjoaaPAllx10
import Derived.Test.YtnpphmgibgfjoaaPAllx1
/- Merged texts, one behind the other: Cho, MayP, Awk, UpsP, ApP, Fnd, McW, ApY, Ups, ApZ, ApW. -/
/- crush.Choose. -/
namespace Go.Proofs.Ytnpphmgibgfjoaa.Cho
open Go Go.RowKit Go.Proofs.YtnpphmgibgfjoaaW.PrintWords Go.Proofs.YtnpphmgibgfjoaaW.PrintMore Mem PAll KW MixP MixW StrP StrW AtA Srt Grp Sl Dsc AtB Roo Rep
open CrP hiding Od
open Go.Maps (Keyed int_keyed keyOf_int_mk)
theorem zeroBo (w : World) : (zeroValue 4).run Try.prog w = .ok (.bool false) w := by kernel_rfl
theorem plainElem_bool_inv {H : Type} {P : Program} {e : TypeId} (he : P.underlying e = some .bool) {v : Value} {z : DataW H × List MemPlace} (h : plainElem P e v = some z) : ∃ b, v = .bool b ∧ z = (.lit (.bool b), []) := by
  unfold plainElem at h
  rw [he] at h
  cases v <;> simp at h
  exact ⟨_, rfl, h.symm⟩
abbrev OB (w : World) (b n : Nat) (D : DW) : Prop := w.ownsMap Try.prog 3 (plainElem Try.prog 4) b n D
theorem look_met {w : World} {b n : Nat} {D : DW} (h : OB w b n D) (v : Int) (hv : (Lit.int .i64 v).wf = true) : ∃ c, (Instr.lookup 75 (.map (some b)) (.int .i64 v) false).run Try.prog w = .ok (.bool c) w ∧ D.atKey (.int .i64 v) (.lit (.bool false)) = .lit (.bool c) := by
  obtain ⟨y, ps, hrun, hy⟩ := h.lookup keyI Try.underlying75 (zeroBo w) (plainElem_bool Try.underlying4 false) (keyOf_int_mk Try.underlying3 hv)
  obtain ⟨c, rfl, hc⟩ := plainElem_bool_inv Try.underlying4 hy
  exact ⟨c, hrun, congrArg Prod.fst hc⟩
def Taken (met : List Int) (D : DW) : Prop := ∀ v : Int, D.atKey (.int .i64 v) (.lit (.bool false)) = .lit (.bool (decide (v ∈ met)))
theorem taken_put {met : List Int} {D : DW} {u : Int} (h : Taken met D) (hm : Go.Maps.IsMap D) : Taken (u :: met) (D.put (.int .i64 u) (.lit (.bool true))) := by
  intro v
  by_cases e : v = u
  · subst e
    rw [Go.Maps.atKey_put_same hm (by trivial)]
    simp
  · rw [Go.Maps.atKey_put_other (by intro hh; injection hh with _ hh; exact e hh), h v]
    simp [e]
theorem taken_nil : Taken [] (.map []) := fun _ => rfl
theorem look_taken {w : World} {b n : Nat} {D : DW} {met : List Int} (h : OB w b n D) (ht : Taken met D) (v : Int) (hv : (Lit.int .i64 v).wf = true) : (Instr.lookup 75 (.map (some b)) (.int .i64 v) false).run Try.prog w = .ok (.bool (decide (v ∈ met))) w := by
  obtain ⟨c, hrun, hc⟩ := look_met h v hv
  rw [ht v] at hc
  have : c = decide (v ∈ met) := by simpa using hc.symm
  rw [← this]; exact hrun
theorem ob_below {w w1 : World} {b n : Nat} {D : DW} (h : OB w b n D) (hb : Below w.heap.size w w1) : OB w1 b n D := h.kept (grown_of_below hb none) (by simp)
theorem key_any (lv : Nat) (h : lv = 1 ∨ lv = 2 ∨ lv = 3) (o : Od) (w : World) : Calls Try.prog (fnL lv) #[.agg (aggO o)] w fun e w' => e = .returned (.int .i64 (keyN lv o)) ∧ Below w.heap.size w w' := by
  rcases h with rfl | rfl | rfl
  · exact rack_calls o w
  · exact host_calls o w
  · exact self_calls o w
theorem enters_any (lv : Nat) (h : lv = 1 ∨ lv = 2 ∨ lv = 3) : ∀ args w, (callFunc (fnL lv) args).run Try.prog w = .ok (.enter (fnL lv) args) w := by
  rcases h with rfl | rfl | rfl
  · exact enters_of Try.func69 (by kernel_rfl) rfl
  · exact enters_of Try.func68 (by kernel_rfl) rfl
  · exact enters_of Try.func67 (by kernel_rfl) rfl
theorem lvl_sub {x r : Int} {lv : Nat} {l l' : List Od} (h : lvl x r lv l = some l') : ∀ o ∈ l', o ∈ l := by
  obtain ⟨v, _, _, rfl⟩ := lvl_some h
  exact fun o ho => (List.mem_filter.1 ho).1
theorem desc_mem {x r : Int} {l : List Od} {o : Od} (h : desc x r l = some o) : o ∈ l := by
  unfold desc at h
  cases h1 : lvl x r 1 l with
  | none => rw [h1] at h; cases h
  | some l1 =>
    rw [h1] at h
    change ((lvl x r 2 l1).bind (lvl x r 3)).bind List.head? = some o at h
    cases h2 : lvl x r 2 l1 with
    | none => rw [h2] at h; cases h
    | some l2 =>
      rw [h2] at h
      change (lvl x r 3 l2).bind List.head? = some o at h
      cases h3 : lvl x r 3 l2 with
      | none => rw [h3] at h; cases h
      | some l3 =>
        rw [h3] at h
        change l3.head? = some o at h
        exact lvl_sub h1 o (lvl_sub h2 o (lvl_sub h3 o (List.mem_of_head? h)))
/-! ### what has been chosen so far -/
structure Cho (l : List Od) (x want : Int) (lv n p : Nat) (outs taken : List Int) : Prop where
  hp : p ≤ n
  len : outs.length = p
  all : outs ++ places l x want lv (n - p) p taken = places l x want lv n 0 []
theorem Cho.start (l : List Od) (x want : Int) (lv n : Nat) : Cho l x want lv n 0 [] [] := ⟨Nat.zero_le _, rfl, rfl⟩
theorem Cho.some {l : List Od} {x want : Int} {lv n p : Nat} {outs taken : List Int} {o : Od} (h : Cho l x want lv n p outs taken) (hp : p < n) (ht : tries l x want p lv taken 50 0 = some o) : Cho l x want lv n (p + 1) (outs ++ [o.f0]) (keyN lv o :: taken) := by
  refine ⟨hp, by rw [List.length_append, h.len]; rfl, ?_⟩
  rw [← h.all, show n - p = (n - (p + 1)) + 1 by omega]
  simp only [places, ht, List.append_assoc, List.singleton_append]
theorem Cho.none {l : List Od} {x want : Int} {lv n p : Nat} {outs taken : List Int} (h : Cho l x want lv n p outs taken) (hp : p < n) (ht : tries l x want p lv taken 50 0 = none) : Cho l x want lv n (p + 1) (outs ++ [-1]) taken := by
  refine ⟨hp, by rw [List.length_append, h.len]; rfl, ?_⟩
  rw [← h.all, show n - p = (n - (p + 1)) + 1 by omega]
  simp only [places, ht, List.append_assoc, List.singleton_append]
abbrev outA (n : Nat) (outs : List Int) : Array Value := (outs.map (Value.int .i64) ++ List.replicate (n - outs.length) (Value.int .i64 (-1))).toArray
theorem outA_none {n : Nat} {outs : List Int} (h : outs.length < n) : outA n (outs ++ [-1]) = outA n outs := by
  refine congrArg List.toArray ?_
  rw [List.map_append, List.append_assoc, List.length_append, show n - outs.length = (n - (outs.length + [(-1 : Int)].length)) + 1 by simp only [List.length_singleton]; omega, List.replicate_succ]
  rfl
theorem outA_set {n : Nat} {outs : List Int} (h : outs.length < n) (v : Int) : (outA n outs).setIfInBounds outs.length (.int .i64 v) = outA n (outs ++ [v]) := by
  rw [List.setIfInBounds_toArray]
  refine congrArg List.toArray ?_
  rw [List.set_append_right _ _ (by simp), List.length_map, Nat.sub_self, show n - outs.length = (n - (outs.length + 1)) + 1 by omega, List.replicate_succ, List.set_cons_zero, List.map_append, List.append_assoc, List.length_append]
  rfl
theorem outA_get {n : Nat} {outs : List Int} (h : outs.length < n) : (outA n outs)[outs.length]? = some (.int .i64 (-1)) := by
  rw [List.getElem?_toArray, List.getElem?_append_right (by simp), List.length_map, Nat.sub_self, List.getElem?_replicate, if_pos (by omega)]
set_option maxHeartbeats 8000000 in
set_option maxRecDepth 100000 in
theorem Choose_ok (ep k m p d : Int) (A : Option Addr) (c : Nat) (l : List Od) (dm x : Int) (n : Nat) (w : World) (hx : kO.C w A l.length l) (hwf : WfL l) (hm : mayB ep k m p d l = true) (hd : domB dm = true) (h1 : 1 ≤ n) (h2 : n ≤ 32) :
    Calls Try.prog 15 #[.agg (boxM ep k m p d A c l), .agg #[.int .i64 dm, .int .i64 n], .int .u32 x] w fun e w' => ∃ g, e = .returned (.tuple #[.slice (some ⟨g, 0, none⟩) n n, .int .i64 0]) ∧ w.heap.size ≤ g ∧ w'.heap[g]? = some (.cells (outA n (places l x n (domL dm) n 0 [])) 3 (0, 0)) ∧ Below w.heap.size w w' := by
  have HX := Lib.hid hx
  have HN1 := Lib.hid h1
  have HN2 := Lib.hid h2
  have HGL := Lib.hid (may_goodL hm)
  have HBA := Lib.hid (below_alloc (below_alloc (Below.refl w.heap.size w) (.cells (boxM ep k m p d A c l) 26)) (.cells #[.int .i64 dm, .int .i64 n] 28))
  have HC1 := Lib.hid (Kd.C_alloc (Kd.C_alloc hx (.cells (boxM ep k m p d A c l) 26)) (.cells #[.int .i64 dm, .int .i64 n] 28))
  have HM1 : Hid (((w.alloc (.cells (boxM ep k m p d A c l) 26)).alloc (.cells #[.int .i64 dm, .int .i64 n] 28)).heap[w.heap.size]? = some (.cells (boxM ep k m p d A c l) 26 (0, 0))) := Lib.hid (blk_below (blk_new _ _) (below_alloc (Below.refl _ _) _))
  have HU1 : Hid (((w.alloc (.cells (boxM ep k m p d A c l) 26)).alloc (.cells #[.int .i64 dm, .int .i64 n] 28)).heap[w.heap.size + 1]? = some (.cells #[.int .i64 dm, .int .i64 n] 28 (0, 0))) := Lib.hid (by have h := blk_new (w.alloc (.cells (boxM ep k m p d A c l) 26)) (.cells #[.int .i64 dm, .int .i64 n] 28); simp only [World.alloc, Array.size_push] at h ⊢; exact h)
  have T := Lib.hid (fun c0 w0 h0 => check_calls ep k m p d A c0 l w0 h0 hwf)
  have TO := Lib.hid (of_calls dm)
  obtain ⟨lv, hlv⟩ : ∃ lv, lv = domL dm := ⟨_, rfl⟩
  have HLV : Hid (lv = 1 ∨ lv = 2 ∨ lv = 3) := Lib.hid (by rw [hlv]; exact domL_any dm)
  obtain ⟨kf, hkf⟩ : ∃ kf, kf = fnL lv := ⟨_, rfl⟩
  have HOF : Hid (ofV dm = .func (.func kf) #[] #[]) := Lib.hid (by unfold ofV; rw [hd, if_pos rfl, ← hlv, hkf])
  have HMB := Lib.hid hm
  rw [← hlv]
  have HKF := Lib.hid hkf
  have hef : ∀ args w, (callFunc kf args).run Try.prog w = .ok (.enter kf args) w := by rw [hkf]; exact enters_any lv HLV.out
  have hq1 := eql_func_nil
  have b1 : decide ((n : Int) < 1) = false := decide_eq_false (by omega)
  have b2 : decide ((32 : Int) < (n : Int)) = false := decide_eq_false (by omega)
  have hmm := @run_makeMap Try.prog
  clear hx hwf hm hd h1 h2 hlv hkf
  unfold boxM at *
  go_enter Try.func15, Try.ntmps15
  go_wp2_with fail
  refine (TO.out _).mono ?_
  rintro e w0 ⟨rfl, rfl⟩
  rw [HOF.out]
  go_wp2_with fail
  refine (T.out c _ HC1.out).mono ?_
  rintro e w1 ⟨rfl, hb⟩
  rw [HMB.out]
  have HB2 := Lib.hid (below_then HBA.out HBA.out.size hb)
  have HC2 := Lib.hid (Kd.C_below HC1.out hb)
  have HM2 := Lib.hid (blk_below HM1.out hb)
  have HU2 := Lib.hid (blk_below HU1.out hb)
  have HW2 : Hid (w.heap.size + 2 ≤ w1.heap.size) := Lib.hid (by have := hb.size; simp only [World.alloc, Array.size_push] at this; omega)
  clear hb T TO HOF HBA HC1 HM1 HU1
  have u1 := blk_cell HU2.out 1
  have HBB := Lib.hid (below_alloc (below_alloc (Below.refl w1.heap.size w1) (.map #[] 0)) (.cells #[.int .i64 (-1)] 3))
  have u2 := (blk_cell (blk_below HU2.out HBB.out) 1)
  have HO1 : Hid (OB ((w1.alloc (.map #[] 0)).alloc (.cells #[.int .i64 (-1)] 3)) w1.heap.size 0 (.map [])) := Lib.hid (ob_below (World.ownsMap_made w1 Try.prog _ _) (below_alloc (Below.refl _ _) _))
  have HG1 : Hid (((w1.alloc (.map #[] 0)).alloc (.cells #[.int .i64 (-1)] 3)).heap[w1.heap.size + 1]? = some (.cells #[.int .i64 (-1)] 3 (0, 0))) := Lib.hid (by have h := blk_new (w1.alloc (.map #[] 0)) (.cells #[.int .i64 (-1)] 3); simp only [World.alloc, Array.size_push] at h ⊢; exact h)
  have HB3 := Lib.hid (below_then HB2.out HB2.out.size HBB.out)
  have HC3 := Lib.hid (Kd.C_below HC2.out HBB.out)
  have HM3 := Lib.hid (blk_below HM2.out HBB.out)
  have HU3 := Lib.hid (blk_below HU2.out HBB.out)
  have HLT : Hid (w1.heap.size < ((w1.alloc (.map #[] 0)).alloc (.cells #[.int .i64 (-1)] 3)).heap.size) := Lib.hid (by simp only [World.alloc, Array.size_push]; omega)
  have T := Lib.hid (repeat_calls (w1.heap.size + 1) n ((w1.alloc (.map #[] 0)).alloc (.cells #[.int .i64 (-1)] 3)) HG1.out HN1.out HN2.out)
  have HMG : Hid (w.heap.size + 2 ≤ w1.heap.size) := HW2
  go_wp2_with fail
  obtain ⟨w2, hw2⟩ : ∃ w2, w2 = (w1.alloc (.map #[] 0)).alloc (.cells #[.int .i64 (-1)] 3) := ⟨_, rfl⟩
  rw [← hw2] at HO1 HB3 HC3 HM3 HU3 T HLT ⊢
  obtain ⟨b, hb⟩ : ∃ b, b = w1.heap.size := ⟨_, rfl⟩
  rw [← hb] at HO1 HLT HMG T ⊢
  clear hw2 hb HW2 HBB HG1 HB2 HC2 HM2 HU2 u1 u2 hmm hq1 b1 b2
  refine T.out.mono ?_
  rintro e w3 ⟨g, rfl, hg, hgh, hb⟩
  have HO4 := Lib.hid (ob_below HO1.out hb)
  have HB4 := Lib.hid (below_then HB3.out HB3.out.size hb)
  have HC4 := Lib.hid (Kd.C_below HC3.out hb)
  have HM4 := Lib.hid (blk_below HM3.out hb)
  have HU4 := Lib.hid (blk_below HU3.out hb)
  have HG4 : Hid (w3.heap[g]? = some (.cells (outA n []) 3 (0, 0))) := Lib.hid (by rw [hgh, show Array.replicate n (Value.int .i64 (-1)) = outA n [] by simp [outA]])
  have HGB : Hid (b < g ∧ w.heap.size ≤ g) := Lib.hid (by have := HLT.out; have := HMG.out; omega)
  clear hgh hb hg T HO1 HB3 HC3 HM3 HU3 HLT HC4
  go_wp2_with fail
  go_loopw [42] (fun i' wr => ∃ (pl cnt : Nat) (outs taken : List Int) (D : DW), i' = .int .i64 pl ∧ Hid (Cho l x n lv n pl outs taken) ∧ Hid (cnt ≤ pl) ∧ Hid (OB wr b cnt D) ∧ Hid (Taken taken D) ∧ Hid (wr.heap[g]? = some (.cells (outA n outs) 3 (0, 0))) ∧ Hid (wr.heap[w.heap.size]? = some (.cells #[.int .i64 ep, .int .i64 k, .int .i64 m, .int .i64 p, .int .i64 d, .slice A l.length c] 26 (0, 0))) ∧ Hid (wr.heap[w.heap.size + 1]? = some (.cells #[.int .i64 dm, .int .i64 n] 28 (0, 0))) ∧ Hid (Below w.heap.size w wr)) (fun i' _ => (n - intOf i').toNat)
  case atStart => exact ⟨0, 0, [], [], .map [], rfl, Lib.hid (Cho.start _ _ _ _ _), Lib.hid (Nat.le_refl _), HO4, Lib.hid taken_nil, HG4, HM4, HU4, HB4⟩
  case round =>
    obtain ⟨pl, cnt, outs, taken, D, rfl, HCH, HCN, HO, HTK, HG, HM, HU, HB⟩ := hrel
    clear HO4 HG4 HM4 HU4 HB4
    have hpn := HCH.out.hp
    have HLE := Lib.hid HCH.out.len
    by_cases h : pl < n
    · have hlt : decide ((pl : Int) < (n : Int)) = true := decide_eq_true (by omega)
      have hlt2 : decide (pl < n) = true := decide_eq_true h
      have HPN := Lib.hid h
      have hpl32 : pl ≤ 31 := by have := HN2.out; omega
      obtain ⟨wo, hwo⟩ : ∃ wo, wo = wr := ⟨_, rfl⟩
      rw [← hwo] at HO HG HM HU HB ⊢
      have HB0 := Lib.hid (Below.refl wo.heap.size wo)
      clear h hwo
      go_wp2_with fail
      go_loopw [45] (fun t' wq => ∃ t : Nat, t' = .int .i64 t ∧ Hid (t ≤ 50 ∧ tries l x n pl lv taken (50 - t) t = tries l x n pl lv taken 50 0) ∧ Hid (Below wo.heap.size wo wq)) (fun t' _ => (50 - intOf t').toNat)
      case atStart => exact ⟨0, rfl, Lib.hid ⟨by omega, rfl⟩, HB0⟩
      case round =>
        obtain ⟨t, rfl, HT, HBQ⟩ := hrel
        clear HB0
        have ht50 := HT.out.1
        have HBW := Lib.hid (below_then HB.out HB.out.size HBQ.out)
        by_cases h : t < 50
        · have hl3 : decide ((t : Int) < 50) = true := decide_eq_true (by omega)
          have m5 := blk_cell (blk_below HM.out HBQ.out) 5
          have u1 := blk_cell (blk_below HU.out HBQ.out) 1
          obtain ⟨tn, htn⟩ : ∃ tn : Nat, tn = t * n := ⟨_, rfl⟩
          have htn2 : tn ≤ 1600 := by rw [htn]; exact Nat.le_trans (Nat.mul_le_mul (show t ≤ 50 by omega) HN2.out) (by decide)
          have k1 : IntKind.i64.wrap ((t : Int) * (n : Int)) = (tn : Int) := by
            rw [show ((t : Int) * (n : Int)) = (tn : Int) by rw [htn]; exact (Int.natCast_mul t n).symm]
            exact IntWalk.i64_in _ (by omega)
          have k2 : IntKind.i64.wrap ((pl : Int) + (tn : Int)) = (pl : Int) + tn := IntWalk.i64_in _ (by omega)
          have k3 : IntKind.u32.wrap ((pl : Int) + (tn : Int)) = (pl : Int) + tn := by rw [IntKind.wrap_u32]; omega
          have T := Lib.hid (descend_calls A c l x ((pl : Int) + tn) wr (Kd.C_below HX.out HBW.out) HGL.out)
          have HTR : Hid (tries l x n pl lv taken (50 - t) t = match desc x ((pl : Int) + tn) l with | some o => (if keyN lv o ∈ taken then tries l x n pl lv taken (50 - (t + 1)) (t + 1) else some o) | none => tries l x n pl lv taken (50 - (t + 1)) (t + 1)) := Lib.hid (by
            rw [show 50 - t = (50 - (t + 1)) + 1 by omega]
            rw [show ((pl : Int) + tn) = (pl : Int) + (t : Nat) * (n : Int) by rw [htn, Int.natCast_mul]]
            rfl)
          have HT50 := Lib.hid h
          clear htn htn2 h
          go_wp2_with fail
          refine T.out.mono ?_
          rintro e w5 ⟨rfl, hb⟩
          have HBQ5 := Lib.hid (below_then HBQ.out HBQ.out.size hb)
          clear hb T m5 u1 k1 k2 k3 HBQ HBW
          cases hd : desc x ((pl : Int) + tn) l with
          | none =>
            rw [hd] at HTR
            unfold descV zeroA
            clear hd
            have HB6 := Lib.hid (below_alloc HBQ5.out (.cells #[.int .i64 0, .bool false, .bool false, .int .i64 0, .int .i64 0, .int .i64 0, .int .i64 0, .int .i64 0] 40))
            go_wp2_with fail
            go_roundw
            case rel => exact ⟨t + 1, by go_num, Lib.hid ⟨HT50.out, HTR.out.symm.trans HT.out.2⟩, HB6⟩
            case measure => have := HT50.out; simp only [intOf]; omega
          | some o =>
            rw [hd] at HTR
            have HTR2 : Hid (tries l x n pl lv taken (50 - t) t = if keyN lv o ∈ taken then tries l x n pl lv taken (50 - (t + 1)) (t + 1) else some o) := Lib.hid HTR.out
            clear HTR
            unfold descV
            have HWF := Lib.hid (HGL.out.wf o (desc_mem hd) lv)
            clear hd
            obtain ⟨ko, hko⟩ : ∃ ko, ko = keyN lv o := ⟨_, rfl⟩
            have TK : Hid (∀ w, Calls Try.prog kf #[.agg (aggO o)] w fun e w' => e = .returned (.int .i64 ko) ∧ Below w.heap.size w w') := Lib.hid (fun w => by rw [HKF.out, hko]; exact key_any lv HLV.out o w)
            have HKO := Lib.hid hko
            rw [← hko] at HTR2 HWF
            clear hko
            have HB6 := Lib.hid (below_alloc HBQ5.out (.cells (aggO o) 40))
            have HQ6 : Hid ((w5.alloc (.cells (aggO o) 40)).heap[w5.heap.size]? = some (.cells (aggO o) 40 (0, 0))) := Lib.hid (blk_new _ _)
            go_wp2_with fail
            obtain ⟨w6, hw6⟩ : ∃ w6, w6 = w5.alloc (.cells (aggO o) 40) := ⟨_, rfl⟩
            rw [← hw6] at HB6 HQ6 ⊢
            obtain ⟨q, hq⟩ : ∃ q, q = w5.heap.size := ⟨_, rfl⟩
            have HQG : Hid (wo.heap.size ≤ q) := Lib.hid (by rw [hq]; exact HBQ5.out.size)
            rw [← hq] at HQ6 ⊢
            clear hw6 hq HBQ5
            refine (TK.out _).mono ?_
            rintro e w7 ⟨rfl, hb⟩
            have HB7 := Lib.hid (below_then HB6.out HB6.out.size hb)
            have HQ7 := Lib.hid (blk_below HQ6.out hb)
            have HO7 := Lib.hid (ob_below HO.out HB7.out)
            clear hb HB6 HQ6
            obtain ⟨tk, htk⟩ : ∃ tk, tk = decide (ko ∈ taken) := ⟨_, rfl⟩
            have hrun := look_taken HO7.out HTK.out ko HWF.out
            rw [← htk] at hrun
            cases tk with
            | true =>
              have HIN : Hid (ko ∈ taken) := Lib.hid (of_decide_eq_true htk.symm)
              clear htk
              go_wp2_with fail
              go_roundw
              case rel =>
                have e := HTR2.out
                simp only [if_pos HIN.out] at e
                exact ⟨t + 1, by go_num, Lib.hid ⟨HT50.out, e.symm.trans HT.out.2⟩, HB7⟩
              case measure => have := HT50.out; simp only [intOf]; omega
            | false =>
              have HIN : Hid (ko ∉ taken) := Lib.hid (of_decide_eq_false htk.symm)
              clear htk
              obtain ⟨y0, y1, y2, y3, y4, y5, y6, y7⟩ := blkO HQ7.out
              go_wp2_with fail
              refine (TK.out _).mono ?_
              rintro e w8 ⟨rfl, hb⟩
              have HB8 := Lib.hid (below_then HB7.out HB7.out.size hb)
              have HQ8 := Lib.hid (blk_below HQ7.out hb)
              have HO8 := Lib.hid (ob_below HO7.out hb)
              clear hb HB7 HQ7 HO7 y0 y1 y2 y3 y4 y5 y6 y7 hrun
              have HIM := Lib.hid HO8.out.isMap
              have HBW8 := Lib.hid (below_then HB.out HB.out.size HB8.out)
              have HG8 := Lib.hid (blk_below HG.out HB8.out)
              have HM8 := Lib.hid (blk_below HM.out HB8.out)
              have HU8 := Lib.hid (blk_below HU.out HB8.out)
              have HBO : Hid (b < wo.heap.size) := Lib.hid HO.out.lt
              have HPL : Hid (pl < 32) := Lib.hid (by have := HN2.out; have := HPN.out; omega)
              have p0 : (0 : Int) ≤ pl := by omega
              have p1 : (pl : Int) < n := by have := HPN.out; omega
              go_wp2_with (first | (at_mapUpdate; go_must (refine wpList_mapUpdate_own _ rfl _ _ _ 75 rfl 3 4 keyI Try.underlying75 _ b cnt D rfl (by exact HO8.out) ?hn _ _ (.int .i64 ko) rfl rfl (keyOf_int_mk Try.underlying3 HWF.out) (.lit (.bool true)) [] (plainElem_bool Try.underlying4 true) ?_; (case hn => have := HCN.out; have := HPL.out; simp only [maxLen]; omega)); intro w9 ho hg; have HO9 := Lib.hid ho; have HB9 := Lib.hid (HBW8.out.grown hg HBW8.out.size (fun k hk => by injection hk with hk; have := HMG.out; omega)); have HG9 := Lib.hid (blk_grown HG8.out hg (by intro e; injection e with e; have := HGB.out; omega)); have HM9 := Lib.hid (blk_grown HM8.out hg (by intro e; injection e with e; have := HMG.out; omega)); have HU9 := Lib.hid (blk_grown HU8.out hg (by intro e; injection e with e; have := HMG.out; omega)); have HQ9 := Lib.hid (blk_grown HQ8.out hg (by intro e; injection e with e; have := HBO.out; have := HQG.out; omega)); have q0 := blk_cell HQ9.out 0; have gf := blk_frozen HG9.out pl; have gc : w9.cell? ⟨g, pl, none⟩ = some (.int .i64 (-1)) := (by rw [blk_cell HG9.out pl, ← HLE.out]; exact outA_get (by have := HLE.out; have := HPN.out; omega)); clear ho hg HO8 HB8 HQ8 HG8 HM8 HU8 HBW8))
              go_roundw
              case rel =>
                refine ⟨pl + 1, cnt + 1, outs ++ [o.f0], ko :: taken, _, by go_num, Lib.hid (by have e := HTR2.out; rw [if_neg HIN.out] at e; rw [HKO.out]; exact HCH.out.some HPN.out (HT.out.2.symm.trans e)), Lib.hid (by have := HCN.out; omega), Lib.hid (HO9.out.kept (Lib.grownBy_setCell _ g pl _) (by intro e; injection e with e; have := HGB.out; omega)), Lib.hid (taken_put HTK.out HIM.out), Lib.hid ?_, Lib.hid (blk_far HM9.out (by have := HGB.out; have := HMG.out; show w.heap.size ≠ g; omega) _), Lib.hid (blk_far HU9.out (by have := HGB.out; have := HMG.out; show w.heap.size + 1 ≠ g; omega) _), Lib.hid (HB9.out.setCell HGB.out.2 _)⟩
                exact blk_put HG9.out pl _ (by have e := outA_set (n := n) (outs := outs) (by have := HLE.out; have := HPN.out; omega) o.f0; rw [HLE.out] at e; exact e)
              case measure => have := HPN.out; simp only [intOf]; omega
        · obtain rfl : t = 50 := by omega
          have hl3 : decide ((50 : Int) < 50) = false := decide_eq_false (by omega)
          have HNO : Hid (tries l x n pl lv taken 50 0 = none) := Lib.hid HT.out.2.symm
          go_wp2_with fail
          go_roundw
          case rel =>
            exact ⟨pl + 1, cnt, outs ++ [-1], taken, D, by go_num, Lib.hid (HCH.out.none HPN.out HNO.out), Lib.hid (by have := HCN.out; omega), Lib.hid (ob_below HO.out HBQ.out), HTK, Lib.hid (by rw [outA_none (by have := HLE.out; have := HPN.out; omega)]; exact blk_below HG.out HBQ.out), Lib.hid (blk_below HM.out HBQ.out), Lib.hid (blk_below HU.out HBQ.out), HBW⟩
          case measure => have := HPN.out; simp only [intOf]; omega
    · obtain rfl : pl = n := by omega
      have hlt : decide ((pl : Int) < (pl : Int)) = false := decide_eq_false (by omega)
      have hlt2 : decide (pl < pl) = false := decide_eq_false (by omega)
      go_wp2_with fail
      go_ret2
      have e := HCH.out.all
      rw [Nat.sub_self] at e
      simp only [places, List.append_nil] at e
      refine ⟨g, rfl, HGB.out.2, ?_, HB.out⟩
      rw [← e]
      exact HG.out
end Go.Proofs.Ytnpphmgibgfjoaa.Cho
/- mooringref13.May says what atlas.Check says. -/
namespace Go.Proofs.Ytnpphmgibgfjoaa.MayP
open Go Go.RowKit Go.Proofs.YtnpphmgibgfjoaaW.PrintWords Go.Proofs.YtnpphmgibgfjoaaW.PrintMore Mem PAll KW MixP MixW StrP StrW AtA Srt Grp Sl Dsc AtB Roo Rep Cho
open CrP hiding Od
theorem w64 {x : Int} (h : -9223372036854775808 ≤ x) (h2 : x ≤ 9223372036854775807) : wrap64 x = x := IntWalk.wrap64_in _ ⟨h, h2⟩
theorem within_eq (a b : Int) : mooringref13_within.f a 0 b = some (winB a b) := by
  unfold mooringref13_within.f winB
  by_cases h : a ≥ 0
  · rw [if_pos h]
    congr 1
    by_cases h2 : a ≤ b
    · rw [decide_eq_true h2, decide_eq_true ⟨h, h2⟩]
    · rw [decide_eq_false h2, decide_eq_false (fun h3 => h2 h3.2)]
  · rw [if_neg h, decide_eq_false (fun h3 => h h3.1)]
theorem within1 (a b : Int) : mooringref13_within.f a 1 b = some (decide (1 ≤ a ∧ a ≤ b)) := by
  unfold mooringref13_within.f
  by_cases h : a ≥ 1
  · rw [if_pos h]
    congr 1
    by_cases h2 : a ≤ b
    · rw [decide_eq_true h2, decide_eq_true ⟨h, h2⟩]
    · rw [decide_eq_false h2, decide_eq_false (fun h3 => h2 h3.2)]
  · rw [if_neg h, decide_eq_false (fun h3 => h h3.1)]
theorem pool_eq (k m p d : Int) : mooringref13_Pool.f k m p d = some (poolB k m p d) := by
  unfold mooringref13_Pool.f poolB
  rw [within1, within1, within1, within_eq]
  simp only [Option.bind_some]
  by_cases h1 : 1 ≤ k ∧ k ≤ 32
  · rw [if_pos (decide_eq_true h1), decide_eq_true h1.1, decide_eq_true h1.2]
    by_cases h2 : 1 ≤ m ∧ m ≤ 32
    · have hw : wrap64 (k + m) = k + m := w64 (by omega) (by omega)
      rw [if_pos (decide_eq_true h2), hw, decide_eq_true h2.1]
      by_cases h3 : k + m ≤ 32
      · rw [if_pos h3, decide_eq_true (show m ≤ 32 - k by omega)]
        by_cases h4 : 1 ≤ p ∧ p ≤ 32
        · rw [if_pos (decide_eq_true h4), decide_eq_true h4.1, decide_eq_true h4.2]; rfl
        · rw [if_neg (by rw [decide_eq_false h4]; decide)]
          by_cases h5 : 1 ≤ p
          · rw [decide_eq_true h5, decide_eq_false (show ¬ p ≤ 32 from fun h => h4 ⟨h5, h⟩)]; rfl
          · rw [decide_eq_false h5]; rfl
      · rw [if_neg h3, decide_eq_false (show ¬ m ≤ 32 - k by omega)]; rfl
    · rw [if_neg (by rw [decide_eq_false h2]; decide)]
      by_cases h5 : 1 ≤ m
      · rw [decide_eq_true h5, decide_eq_false (show ¬ m ≤ 32 - k by omega)]; rfl
      · rw [decide_eq_false h5]; rfl
  · rw [if_neg (by rw [decide_eq_false h1]; decide)]
    by_cases h5 : 1 ≤ k
    · rw [decide_eq_true h5, decide_eq_false (show ¬ k ≤ 32 by omega)]
      cases decide (1 ≤ m) <;> rfl
    · rw [decide_eq_false h5]; rfl
theorem osd_eq (o : Od) : mooringref13_Osd.f o.f0 o.f1 o.f2 o.f3 o.f4 o.f5 o.f6 o.f7 = some (osdB o) := by
  unfold mooringref13_Osd.f osdB
  simp only [within_eq, Option.bind_some]
  generalize winB o.f0 999 = bf0
  cases bf0
  · rfl
  generalize winB o.f6 999 = bf6
  cases bf6
  · rfl
  generalize winB o.f7 999 = bf7
  cases bf7
  · rfl
  generalize winB o.f3 16777216 = bf3
  cases bf3
  · rfl
  generalize winB o.f4 2147483647 = bf4
  cases bf4
  · rfl
  generalize winB o.f5 2147483647 = bf5
  cases bf5
  · rfl
  simp only [if_true, Bool.true_and]
  cases o.f1
  · rfl
  · simp only [if_true, Bool.not_true, Bool.false_or]
    by_cases h : o.f4 > 0
    · rw [if_pos h, decide_eq_true (show 1 ≤ o.f4 by omega)]
      by_cases h2 : o.f5 > 0
      · rw [decide_eq_true h2, decide_eq_true (show 1 ≤ o.f5 by omega)]; rfl
      · rw [decide_eq_false h2, decide_eq_false (show ¬ 1 ≤ o.f5 by omega)]; rfl
    · rw [if_neg h, decide_eq_false (show ¬ 1 ≤ o.f4 by omega)]; rfl
theorem rd_at {l : List Od} {i : Nat} {o : Od} (h : l[i]? = some o) : rd_T40 l (i : Int) = o := by
  unfold rd_T40
  rw [show ((i : Nat) : Int).toNat = i from rfl, List.getD_eq_getElem?_getD, h]
  rfl
section
variable (ep k m p d : Int) {l : List Od}
theorem l1_all (hl : l.length ≤ 64) {i : Nat} {o : Od} (ho : l[i]? = some o) (h1 : osdB o = true) (hg : AtA.Good l i)
    (next : AtA.Good l (i + 1) → ∃ K, mooringref13_May.l0 K ((i : Int) + 1) ep k m p d l = some (goodB l)) :
    ∀ r j : Nat, j + r = i → (∀ j' q, j' < j → l[j']? = some q → q.f0 < o.f0 ∧ (q.f6 = o.f6 → q.f7 = o.f7)) → ∃ K, mooringref13_May.l1 K (i : Int) (j : Int) ep k m p d l = some (goodB l)
  | 0, j, hj, hp => by
    obtain rfl : j = i := by omega
    have hi := (List.getElem?_eq_some_iff.1 ho).1
    obtain ⟨K, hK⟩ := next (fun i' o' hi' ho' => by
      rcases Nat.lt_or_ge i' j with h | h
      · exact hg i' o' h ho'
      · obtain rfl : i' = j := by omega
        obtain rfl : o = o' := Option.some.inj (ho.symm.trans ho')
        exact ⟨h1, hp⟩)
    refine ⟨K + 1, ?_⟩
    unfold mooringref13_May.l1
    rw [if_neg (by omega), w64 (by omega) (by omega)]
    exact hK
  | r + 1, j, hj, hp => by
    have hi := (List.getElem?_eq_some_iff.1 ho).1
    have hq : l[j]? = some (l[j]'(by omega)) := List.getElem?_eq_getElem _
    have bad : (o.f0 ≤ (l[j]'(by omega)).f0 ∨ ((l[j]'(by omega)).f6 = o.f6 ∧ (l[j]'(by omega)).f7 ≠ o.f7)) → goodB l = false := fun hb => goodB_no (not_good hi ho (.inr ⟨j, _, by omega, hq, hb⟩))
    obtain ⟨q, hqe⟩ : ∃ q, q = l[j]'(by omega) := ⟨_, rfl⟩
    rw [← hqe] at hq bad
    clear hqe
    have recu := fun (hok : q.f0 < o.f0 ∧ (q.f6 = o.f6 → q.f7 = o.f7)) => l1_all hl ho h1 hg next r (j + 1) (by omega) (fun j' q' hj' hq' => by
      rcases Nat.lt_or_ge j' j with h | h
      · exact hp j' q' h hq'
      · obtain rfl : j' = j := by omega
        obtain rfl : q = q' := Option.some.inj (hq.symm.trans hq')
        exact hok)
    have go : ∀ K, mooringref13_May.l1 (K + 1) (i : Int) (j : Int) ep k m p d l = if q.f0 ≥ o.f0 then some false else if q.f6 = o.f6 then (if q.f7 = o.f7 then mooringref13_May.l1 K (i : Int) ((j + 1 : Nat) : Int) ep k m p d l else some false) else mooringref13_May.l1 K (i : Int) ((j + 1 : Nat) : Int) ep k m p d l := by
      intro K
      rw [mooringref13_May.l1]
      rw [if_pos (by omega), if_pos (by omega), if_pos (by omega), if_pos (by omega), if_pos (by omega), w64 (by omega) (by omega), rd_at hq, rd_at ho, show ((j : Int) + 1) = ((j + 1 : Nat) : Int) by omega]
    by_cases c1 : q.f0 ≥ o.f0
    · exact ⟨1, by rw [go 0, if_pos c1, bad (.inl c1)]⟩
    · by_cases c2 : q.f6 = o.f6
      · by_cases c3 : q.f7 = o.f7
        · obtain ⟨K, hK⟩ := recu ⟨by omega, fun _ => c3⟩
          exact ⟨K + 1, by rw [go K, if_neg c1, if_pos c2, if_pos c3, hK]⟩
        · exact ⟨1, by rw [go 0, if_neg c1, if_pos c2, if_neg c3, bad (.inr ⟨c2, c3⟩)]⟩
      · obtain ⟨K, hK⟩ := recu ⟨by omega, fun h => absurd h c2⟩
        exact ⟨K + 1, by rw [go K, if_neg c1, if_neg c2, hK]⟩
theorem l0_all (hl : l.length ≤ 64) : ∀ r i : Nat, i + r = l.length → AtA.Good l i → ∃ K, mooringref13_May.l0 K (i : Int) ep k m p d l = some (goodB l)
  | 0, i, hi, hg => by
    obtain rfl : i = l.length := by omega
    refine ⟨1, ?_⟩
    rw [mooringref13_May.l0, if_neg (by omega), goodB_yes hg]
  | r + 1, i, hi, hg => by
    have hlt : i < l.length := by omega
    have ho : l[i]? = some l[i] := List.getElem?_eq_getElem hlt
    obtain ⟨o, hoe⟩ : ∃ o, o = l[i] := ⟨_, rfl⟩
    rw [← hoe] at ho
    clear hoe
    have go : ∀ K, mooringref13_May.l0 (K + 1) (i : Int) ep k m p d l = if osdB o = true then mooringref13_May.l1 K (i : Int) 0 ep k m p d l else some false := by
      intro K
      rw [mooringref13_May.l0, if_pos (by omega), if_pos (by omega), rd_at ho, osd_eq]
      rfl
    cases h1 : osdB o with
    | false => exact ⟨1, by rw [go 0, h1, goodB_no (not_good hlt ho (.inl h1))]; rfl⟩
    | true =>
      obtain ⟨K, hK⟩ := l1_all ep k m p d hl ho h1 hg (fun hg1 => l0_all hl r (i + 1) (by omega) hg1) i 0 (by omega) (fun j' _ h => absurd h (Nat.not_lt_zero _))
      exact ⟨K + 1, by rw [go K, h1, if_pos rfl]; exact hK⟩
theorem may_eq : ∃ K, mooringref13_May.f K ep k m p d l = some (mayB ep k m p d l) := by
  unfold mooringref13_May.f mayB
  rw [within_eq, pool_eq]
  simp only [Option.bind_some]
  cases winB ep 1048576 with
  | false => exact ⟨1, rfl⟩
  | true =>
    cases poolB k m p d with
    | false => exact ⟨1, rfl⟩
    | true =>
      by_cases h : l.length ≤ 64
      · obtain ⟨K, hK⟩ := l0_all ep k m p d h l.length 0 (by omega) (fun i _ h => absurd h (Nat.not_lt_zero _))
        refine ⟨K + 1, ?_⟩
        rw [if_pos rfl, if_pos rfl, mooringref13_May.j0, decide_eq_false (show ¬ ((l.length : Int) > 64) by omega), decide_eq_true h, if_neg Bool.false_ne_true]
        exact hK
      · refine ⟨1, ?_⟩
        rw [if_pos rfl, if_pos rfl, mooringref13_May.j0, decide_eq_true (show ((l.length : Int) > 64) by omega), decide_eq_false h]
        rfl
end
theorem may_calls (ep k m p d : Int) (A : Option Addr) (c : Nat) (l : List Od) (w : World) (hx : kO.C w A l.length l) (hc : l.length ≤ c) :
    Calls Try.prog 12 #[.agg (boxM ep k m p d A c l)] w fun e w' => e = .returned (.bool (mayB ep k m p d l)) ∧ Below w.heap.size w w' := by
  obtain ⟨K, hK⟩ := may_eq ep k m p d (l := l)
  refine (mooringref13_May.calls K ep k m p d A c l _ w hx hc hK).mono ?_
  rintro e w1 ⟨rfl, hb⟩
  exact ⟨rfl, hb⟩
end Go.Proofs.Ytnpphmgibgfjoaa.MayP
/- crush.Choose of every rule; the only OSD is found. -/
namespace Go.Proofs.Ytnpphmgibgfjoaa.Awk
open Go Go.RowKit Go.Proofs.YtnpphmgibgfjoaaW.PrintWords Go.Proofs.YtnpphmgibgfjoaaW.PrintMore Mem PAll KW MixP MixW StrP StrW AtA Srt Grp Sl Dsc AtB Roo Rep Cho MayP
open CrP hiding Od
/-! ### the only OSD is found -/
end Go.Proofs.Ytnpphmgibgfjoaa.Awk
/- Who is up turns nothing: the plain law. -/
namespace Go.Proofs.Ytnpphmgibgfjoaa.UpsP
open Go Go.RowKit Go.Proofs.YtnpphmgibgfjoaaW.PrintWords Go.Proofs.YtnpphmgibgfjoaaW.PrintMore Mem PAll KW MixP MixW StrP StrW AtA Srt Grp Sl Dsc AtB Roo Rep Cho MayP Awk
open CrP hiding Od
def nrm (o : Od) : Od := { o with f1 := false, f4 := 0 }
theorem groupF_nrm (lv : Nat) : ∀ (l : List Od) (g : List Wd), groupF lv g (l.map nrm) = groupF lv g l
  | [], _ => rfl
  | o :: r, g => groupF_nrm lv r (ins (keyN lv o) (wOf o) g)
theorem group_nrm (lv : Nat) (l : List Od) : group lv (l.map nrm) = group lv l := groupF_nrm lv l []
theorem lvl_nrm (x r : Int) (lv : Nat) (l : List Od) : lvl x r lv (l.map nrm) = (lvl x r lv l).map (List.map nrm) := by
  unfold lvl
  rw [group_nrm]
  split
  · rfl
  · rw [List.filter_map]
    rfl
theorem desc_nrm (x r : Int) (l : List Od) : desc x r (l.map nrm) = (desc x r l).map nrm := by
  unfold desc
  rw [lvl_nrm]
  cases lvl x r 1 l with
  | none => rfl
  | some l1 =>
    show ((lvl x r 2 (l1.map nrm)).bind (lvl x r 3)).bind List.head? = (((lvl x r 2 l1).bind (lvl x r 3)).bind List.head?).map nrm
    rw [lvl_nrm]
    cases lvl x r 2 l1 with
    | none => rfl
    | some l2 =>
      show (lvl x r 3 (l2.map nrm)).bind List.head? = ((lvl x r 3 l2).bind List.head?).map nrm
      rw [lvl_nrm]
      cases lvl x r 3 l2 with
      | none => rfl
      | some l3 => cases l3 <;> rfl
theorem tries_nrm (l : List Od) (x want place : Int) (lv : Nat) (taken : List Int) : ∀ m t, tries (l.map nrm) x want place lv taken m t = (tries l x want place lv taken m t).map nrm
  | 0, _ => rfl
  | m + 1, t => by
    simp only [tries]
    rw [desc_nrm]
    cases desc x (place + t * want) l with
    | none => exact tries_nrm l x want place lv taken m (t + 1)
    | some o =>
      show (if keyN lv (nrm o) ∈ taken then _ else _) = _
      rw [show keyN lv (nrm o) = keyN lv o from rfl]
      by_cases h : keyN lv o ∈ taken
      · simp only [if_pos h]; exact tries_nrm l x want place lv taken m (t + 1)
      · simp only [if_neg h]; rfl
theorem places_nrm (l : List Od) (x want : Int) (lv : Nat) : ∀ m p taken, places (l.map nrm) x want lv m p taken = places l x want lv m p taken
  | 0, _, _ => rfl
  | m + 1, p, taken => by
    simp only [places]
    rw [tries_nrm]
    cases tries l x want p lv taken 50 0 with
    | none => exact congrArg _ (places_nrm l x want lv m (p + 1) taken)
    | some o => exact congrArg _ (places_nrm l x want lv m (p + 1) (keyN lv o :: taken))
def off (j : Nat) (o : Od) : Od := { o with f1 := false, f4 := (j : Int) }
/-- The first i are down. -/
structure Downs (l xs : List Od) (i : Nat) : Prop where
  len : xs.length = l.length
  at_ : ∀ j o, l[j]? = some o → xs[j]? = some (if j < i then off j o else o)
theorem Downs.start (l : List Od) : Downs l l 0 := ⟨rfl, fun j o h => by rw [if_neg (Nat.not_lt_zero _)]; exact h⟩
theorem Downs.more {l xs : List Od} {i : Nat} {o : Od} (h : Downs l xs i) (ho : l[i]? = some o) : Downs l (xs.set i (off i o)) (i + 1) := by
  refine ⟨by rw [List.length_set]; exact h.len, fun j q hq => ?_⟩
  have hi := (List.getElem?_eq_some_iff.1 ho).1
  have hl := h.len
  rw [List.getElem?_set]
  by_cases e : i = j
  · subst e
    obtain rfl : o = q := Option.some.inj (ho.symm.trans hq)
    rw [if_pos rfl, if_pos (by omega), if_pos (Nat.lt_succ_self _)]
  · rw [if_neg e, h.at_ j q hq]
    by_cases h2 : j < i
    · rw [if_pos h2, if_pos (by omega)]
    · rw [if_neg h2, if_neg (by omega)]
theorem Downs.nrm_eq {l xs : List Od} {i : Nat} (h : Downs l xs i) : xs.map nrm = l.map nrm := by
  apply List.ext_getElem?
  intro j
  rw [List.getElem?_map, List.getElem?_map]
  rcases Nat.lt_or_ge j l.length with hj | hj
  · rw [h.at_ j _ (List.getElem?_eq_getElem hj), List.getElem?_eq_getElem hj]
    split <;> rfl
  · rw [List.getElem?_eq_none hj, List.getElem?_eq_none (by rw [h.len]; exact hj)]
theorem Downs.places {l xs : List Od} {i : Nat} (h : Downs l xs i) (x want : Int) (lv m p : Nat) (taken : List Int) : places xs x want lv m p taken = places l x want lv m p taken := by
  rw [← places_nrm xs, h.nrm_eq, places_nrm]
theorem osdB_off {o : Od} {j : Nat} (h : osdB o = true) (hj : j < 64) : osdB (off j o) = true := by
  unfold osdB at *
  simp only [Bool.and_eq_true] at h
  obtain ⟨h0, h6, h7, h3, _, h5, _⟩ := h
  have h4 : winB (j : Int) 2147483647 = true := decide_eq_true (by omega)
  show (winB o.f0 999 && (winB o.f6 999 && (winB o.f7 999 && (winB o.f3 16777216 && (winB (j : Int) 2147483647 && (winB o.f5 2147483647 && (!false || (decide (1 ≤ (j : Int)) && decide (1 ≤ o.f5))))))))) = true
  rw [h0, h6, h7, h3, h4, h5]
  rfl
theorem Downs.may {l xs : List Od} {ep k m p d : Int} (h : Downs l xs l.length) (hm : mayB ep k m p d l = true) : mayB 7 k m p d xs = true := by
  have hg := may_good hm
  have hG := goodB_iff.1 hg.2
  have hlen := h.len
  have at' : ∀ j o, xs[j]? = some o → ∃ q, l[j]? = some q ∧ o = off j q ∧ j < l.length := fun j o ho => by
    have hj := (List.getElem?_eq_some_iff.1 ho).1
    have e := h.at_ j _ (List.getElem?_eq_getElem (show j < l.length by omega))
    rw [if_pos (by omega)] at e
    exact ⟨_, List.getElem?_eq_getElem (by omega), Option.some.inj (ho.symm.trans e), by omega⟩
  have hgood : AtA.Good xs xs.length := fun i o _ ho => by
    obtain ⟨q, hq, rfl, hi⟩ := at' i o ho
    have hq2 := hG i q hi hq
    refine ⟨osdB_off hq2.1 (by omega), fun j p hj hp => ?_⟩
    obtain ⟨q', hq', rfl, hj'⟩ := at' j p hp
    exact hq2.2 j q' hj hq'
  unfold mayB at *
  rw [goodB_yes hgood, hlen]
  simp only [Bool.and_eq_true, decide_eq_true_eq] at *
  first | exact ⟨by decide, hm.2.1, hm.2.2.1⟩ | exact ⟨by decide, hm.2.1, hm.2.2.1, trivial⟩
theorem Downs.wf {l xs : List Od} {i : Nat} (h : Downs l xs i) (hw : WfL l) : WfL xs := fun o ho => by
  obtain ⟨j, hj, e⟩ := List.mem_iff_getElem.1 ho
  have hj' : j < l.length := by rw [← h.len]; exact hj
  have e2 := h.at_ j _ (List.getElem?_eq_getElem hj')
  rw [List.getElem?_eq_getElem hj, e] at e2
  have hw2 := hw l[j] (List.getElem_mem hj')
  rw [Option.some.inj e2]
  split
  · exact hw2
  · exact hw2
/-! ### lists of numbers alike -/
theorem places_len (l : List Od) (x want : Int) (lv : Nat) : ∀ m p taken, (places l x want lv m p taken).length = m
  | 0, _, _ => rfl
  | m + 1, p, taken => by
    simp only [places]
    split
    · rw [List.length_cons, places_len l x want lv m]
    · rw [List.length_cons, places_len l x want lv m]
end Go.Proofs.Ytnpphmgibgfjoaa.UpsP
/- Who is chosen is apart from the others, and in: plain lists. -/
namespace Go.Proofs.Ytnpphmgibgfjoaa.ApP
open Go Go.RowKit Go.Proofs.YtnpphmgibgfjoaaW.PrintWords KW MixP MixW StrP PAll AtA AtB Grp Dsc Roo Cho UpsP
open CrP hiding Od
def Asc (l : List Od) : Prop := l.Pairwise (fun a b => a.f0 < b.f0)
theorem asc_of_good {l : List Od} (h : AtA.Good l l.length) : Asc l := by
  refine List.pairwise_iff_getElem.2 (fun i j hi hj hij => ?_)
  exact ((h j l[j] hj (List.getElem?_eq_getElem hj)).2 i l[i] hij (List.getElem?_eq_getElem hi)).1
theorem may_asc {ep k m p d : Int} {l : List Od} (h : mayB ep k m p d l = true) : Asc l := asc_of_good (goodB_iff.1 (may_good h).2)
theorem sumK_none {lv : Nat} {k : Int} : ∀ {l : List Od}, (∀ a ∈ l, keyN lv a ≠ k) → sumK lv k l = 0
  | [], _ => rfl
  | a :: r, h => by
    simp only [sumK]
    rw [if_neg (h a List.mem_cons_self), sumK_none (fun b hb => h b (List.mem_cons_of_mem _ hb))]
    rfl
theorem sumK_one : ∀ {l : List Od} {o : Od}, Asc l → o ∈ l → sumK 3 o.f0 l = wOf o
  | a :: r, o, h, ho => by
    have h1 := List.pairwise_cons.1 h
    simp only [sumK]
    rcases List.mem_cons.1 ho with rfl | ho
    · rw [show keyN 3 o = o.f0 from rfl, if_pos rfl, sumK_none (fun b hb => by have := h1.1 b hb; show b.f0 ≠ o.f0; omega), Int.add_zero]
    · have h2 := h1.1 o ho
      rw [show keyN 3 a = a.f0 from rfl, if_neg (by omega), sumK_one h1.2 ho, Int.zero_add]
theorem asc_filter {l : List Od} (h : Asc l) (p : Od → Bool) : Asc (l.filter p) := List.Pairwise.filter p h
theorem lvl_asc {x r : Int} {lv : Nat} {l l' : List Od} (hl : Asc l) (h : lvl x r lv l = some l') : Asc l' := by
  obtain ⟨v, _, _, rfl⟩ := lvl_some h
  exact asc_filter hl _
theorem desc_weight {x r : Int} {l : List Od} {o : Od} (hl : Asc l) (h : desc x r l = some o) : 0 < wOf o := by
  unfold desc at h
  obtain ⟨l3, h3, ho⟩ := Option.bind_eq_some_iff.1 h
  obtain ⟨l2, h2, h3⟩ := Option.bind_eq_some_iff.1 h3
  obtain ⟨l1, h1, h2⟩ := Option.bind_eq_some_iff.1 h2
  have a2 := lvl_asc (lvl_asc hl h1) h2
  obtain ⟨v, hv, hd, rfl⟩ := lvl_some h3
  have hm := (List.mem_filter.1 (List.mem_of_mem_head? ho))
  have hk : o.f0 = v.id := of_decide_eq_true hm.2
  have hw := ((group_mem 3 l2 v).1 hv).2
  rw [← hk, sumK_one a2 hm.1] at hw
  have := ((drB_iff v).1 hd).1
  omega
theorem tries_some {l : List Od} {x want p : Int} {lv : Nat} {taken : List Int} {o : Od} : ∀ {m t : Nat}, tries l x want p lv taken m t = some o → ∃ r, desc x r l = some o ∧ keyN lv o ∉ taken
  | 0, _, h => by cases h
  | m + 1, t, h => by
    simp only [tries] at h
    cases hd : desc x (p + t * want) l with
    | none => rw [hd] at h; exact tries_some h
    | some q =>
      rw [hd] at h
      by_cases hk : keyN lv q ∈ taken
      · simp only [if_pos hk] at h; exact tries_some h
      · simp only [if_neg hk] at h
        obtain rfl := Option.some.inj h
        exact ⟨_, hd, hk⟩
/-- Who has each place. -/
def slots (l : List Od) (x want : Int) (lv : Nat) : Nat → Nat → List Int → List (Option Od)
  | 0, _, _ => []
  | m + 1, p, taken => match tries l x want p lv taken 50 0 with
    | some o => some o :: slots l x want lv m (p + 1) (keyN lv o :: taken)
    | none => none :: slots l x want lv m (p + 1) taken
def vO : Option Od → Int
  | some o => o.f0
  | none => -1
theorem places_slots (l : List Od) (x want : Int) (lv : Nat) : ∀ m p taken, places l x want lv m p taken = (slots l x want lv m p taken).map vO
  | 0, _, _ => rfl
  | m + 1, p, taken => by
    simp only [places, slots]
    cases tries l x want p lv taken 50 0 with
    | some o => simp only [List.map_cons, places_slots l x want lv m]; rfl
    | none => simp only [List.map_cons, places_slots l x want lv m]; rfl
theorem slots_len (l : List Od) (x want : Int) (lv : Nat) (m p : Nat) (taken : List Int) : (slots l x want lv m p taken).length = m := by
  have := places_len l x want lv m p taken
  rw [places_slots, List.length_map] at this
  exact this
theorem slots_mem {l : List Od} {x want : Int} {lv : Nat} (hl : Asc l) : ∀ {m p : Nat} {taken : List Int} {o : Od}, some o ∈ slots l x want lv m p taken → o ∈ l ∧ 0 < wOf o ∧ keyN lv o ∉ taken
  | 0, _, _, _, h => absurd h List.not_mem_nil
  | m + 1, p, taken, o, h => by
    simp only [slots] at h
    cases ht : tries l x want p lv taken 50 0 with
    | none =>
      rw [ht] at h
      rcases List.mem_cons.1 h with h | h
      · cases h
      · exact slots_mem hl h
    | some q =>
      rw [ht] at h
      rcases List.mem_cons.1 h with h | h
      · obtain rfl := Option.some.inj h
        obtain ⟨r, hd, hk⟩ := tries_some ht
        exact ⟨desc_mem hd, desc_weight hl hd, hk⟩
      · have := slots_mem hl h
        exact ⟨this.1, this.2.1, fun hm => this.2.2 (List.mem_cons_of_mem _ hm)⟩
/-! ### who is found by a number -/
def findO (l : List Od) (id : Int) : Option Od := l.find? fun o => o.f0 == id
theorem findO_mem : ∀ {l : List Od} {o : Od}, Asc l → o ∈ l → findO l o.f0 = some o
  | a :: r, o, h, ho => by
    have h1 := List.pairwise_cons.1 h
    unfold findO
    rw [List.find?_cons]
    rcases List.mem_cons.1 ho with rfl | ho
    · simp
    · have h2 := h1.1 o ho
      have : (a.f0 == o.f0) = false := beq_eq_false_iff_ne.2 (by omega)
      rw [this]
      exact findO_mem h1.2 ho
theorem findO_none {l : List Od} {id : Int} (h : ∀ o ∈ l, o.f0 ≠ id) : findO l id = none := List.find?_eq_none.2 (fun o ho => by have := h o ho; simpa using this)
/-! ### how many have room -/
end Go.Proofs.Ytnpphmgibgfjoaa.ApP
/- Find: who has a number. -/
namespace Go.Proofs.Ytnpphmgibgfjoaa.Fnd
open Go Go.RowKit Go.Proofs.YtnpphmgibgfjoaaW.PrintWords Go.Proofs.YtnpphmgibgfjoaaW.PrintLast Go.Proofs.YtnpphmgibgfjoaaW.PrintMore PAll AtA AtB Dsc MayP ApP
open CrP hiding Od
section
variable (ep k m p d id : Int) (l : List Od)
theorem place_l0 (hl : l.length ≤ 9223372036854775807) : ∀ r i : Nat, i + r = l.length → ∃ K z, mooringref13_place.l0 K id (i : Int) ep k m p d l = some z ∧ ((z = -1 ∧ (l.drop i).find? (fun o => o.f0 == id) = none) ∨ ∃ (j : Nat) (o : Od), z = j ∧ l[j]? = some o ∧ (l.drop i).find? (fun o => o.f0 == id) = some o)
  | 0, i, hi => ⟨1, -1, by rw [mooringref13_place.l0, if_neg (by omega)], .inl ⟨rfl, by rw [List.drop_eq_nil_of_le (by omega)]; rfl⟩⟩
  | r + 1, i, hi => by
    obtain ⟨K, z, hK, hz⟩ := place_l0 hl r (i + 1) (by omega)
    have h1 : i < l.length := by omega
    have ho : l[i]? = some l[i] := List.getElem?_eq_getElem h1
    have e : l.drop i = l[i] :: l.drop (i + 1) := List.drop_eq_getElem_cons h1
    by_cases hk : l[i].f0 = id
    · refine ⟨1, i, ?_, .inr ⟨i, l[i], rfl, ho, ?_⟩⟩
      · rw [mooringref13_place.l0, if_pos (by omega), if_pos (by omega), rd_at ho, if_pos hk]
      · rw [e, List.find?_cons, beq_iff_eq.2 hk]
    · refine ⟨K + 1, z, ?_, ?_⟩
      · rw [mooringref13_place.l0, if_pos (by omega), if_pos (by omega), rd_at ho, if_neg hk, w64 (by omega) (by omega)]
        exact hK
      · rw [e, List.find?_cons, beq_eq_false_iff_ne.2 hk]
        exact hz
end
end Go.Proofs.Ytnpphmgibgfjoaa.Fnd
/- The document's MayChange. -/
namespace Go.Proofs.Ytnpphmgibgfjoaa.McW
open Go Go.RowKit Go.Proofs.YtnpphmgibgfjoaaW.PrintWords Go.Proofs.YtnpphmgibgfjoaaW.PrintLast Go.Proofs.YtnpphmgibgfjoaaW.PrintMore Mem PAll AtA AtB Dsc MayP ApP Fnd Roo Awk
open CrP hiding Od
def eqO (a b : Od) : Bool := (a.f0 == b.f0 && (a.f1 == b.f1 && (a.f2 == b.f2 && (a.f3 == b.f3 && (a.f4 == b.f4 && (a.f5 == b.f5 && (a.f6 == b.f6 && (a.f7 == b.f7))))))))
theorem eql_O (a b : Od) (W : World) : (binOp .eql 40 (.agg #[.int .i64 a.f0, .bool a.f1, .bool a.f2, .int .i64 a.f3, .int .i64 a.f4, .int .i64 a.f5, .int .i64 a.f6, .int .i64 a.f7]) (.agg #[.int .i64 b.f0, .bool b.f1, .bool b.f2, .int .i64 b.f3, .int .i64 b.f4, .int .i64 b.f5, .int .i64 b.f6, .int .i64 b.f7])).run Try.prog W = .ok (.bool (eqO a b)) W := by
  have h := fun d => eqA40 d W a.f0 b.f0 a.f1 b.f1 a.f2 b.f2 a.f3 b.f3 a.f4 b.f4 a.f5 b.f5 a.f6 b.f6 a.f7 b.f7
  unfold eqO
  go_simp
def within1 (a b : Int) : Bool := decide (1 ≤ a ∧ a ≤ b)
def mayC (kd : Int) (o : Od) : Bool :=
  if kd = 1 then osdB o
  else if kd = 2 then eqO o ⟨o.f0, false, false, 0, o.f4, o.f5, 0, 0⟩ && (winB o.f0 999 && (within1 o.f4 2147483647 && within1 o.f5 2147483647))
  else if kd = 6 then eqO o ⟨o.f0, false, false, o.f3, 0, 0, 0, 0⟩ && (winB o.f0 999 && winB o.f3 16777216)
  else if kd = 3 ∨ kd = 4 ∨ kd = 5 then eqO o ⟨o.f0, false, false, 0, 0, 0, 0, 0⟩ && winB o.f0 999
  else false
abbrev chA (kd : Int) (o : Od) : Array Value := #[.int .i64 kd, .int .i64 o.f0, .bool o.f1, .bool o.f2, .int .i64 o.f3, .int .i64 o.f4, .int .i64 o.f5, .int .i64 o.f6, .int .i64 o.f7]
theorem rwin_calls (a b : Int) (w : World) : Calls Try.prog 36 #[.int .i64 a, .int .i64 0, .int .i64 b] w fun e w' => e = .returned (.bool (winB a b)) ∧ Below w.heap.size w w' := by
  refine (mooringref13_within.calls a 0 b _ w (within_eq a b)).mono ?_
  rintro e w1 ⟨rfl, hd⟩
  exact ⟨rfl, hd.below⟩
theorem rwin1_calls (a b : Int) (w : World) : Calls Try.prog 36 #[.int .i64 a, .int .i64 1, .int .i64 b] w fun e w' => e = .returned (.bool (within1 a b)) ∧ Below w.heap.size w w' := by
  refine (mooringref13_within.calls a 1 b _ w (MayP.within1 a b)).mono ?_
  rintro e w1 ⟨rfl, hd⟩
  exact ⟨rfl, hd.below⟩
theorem rosd_calls (o : Od) (w : World) : Calls Try.prog 38 #[.agg #[.int .i64 o.f0, .bool o.f1, .bool o.f2, .int .i64 o.f3, .int .i64 o.f4, .int .i64 o.f5, .int .i64 o.f6, .int .i64 o.f7]] w fun e w' => e = .returned (.bool (osdB o)) ∧ Below w.heap.size w w' := mooringref13_Osd.calls o.f0 o.f1 o.f2 o.f3 o.f4 o.f5 o.f6 o.f7 _ w (osd_eq o)
set_option maxHeartbeats 8000000 in
set_option maxRecDepth 100000 in
theorem mayChange_calls (kd : Int) (o : Od) (w : World) : Calls Try.prog 84 #[.agg (chA kd o)] w fun e w' => e = .returned (.bool (mayC kd o)) ∧ Below w.heap.size w w' := by
  have HB1 := Lib.hid (below_alloc (below_alloc (Below.refl w.heap.size w) (.cells (chA kd o) 88)) (.cells (aggO ⟨o.f0, false, false, 0, 0, 0, 0, 0⟩) 40))
  have HC1 : Hid (((w.alloc (.cells (chA kd o) 88)).alloc (.cells (aggO ⟨o.f0, false, false, 0, 0, 0, 0, 0⟩) 40)).heap[w.heap.size]? = some (.cells (chA kd o) 88 (0, 0))) := Lib.hid (blk_below (blk_new _ _) (below_alloc (Below.refl _ _) _))
  have HO1 : Hid (((w.alloc (.cells (chA kd o) 88)).alloc (.cells (aggO ⟨o.f0, false, false, 0, 0, 0, 0, 0⟩) 40)).heap[w.heap.size + 1]? = some (.cells (aggO ⟨o.f0, false, false, 0, 0, 0, 0, 0⟩) 40 (0, 0))) := Lib.hid (by have h := blk_new (w.alloc (.cells (chA kd o) 88)) (.cells (aggO ⟨o.f0, false, false, 0, 0, 0, 0, 0⟩) 40); simp only [World.alloc, Array.size_push] at h ⊢; exact h)
  by_cases k1 : kd = 1
  · subst k1
    rw [show mayC 1 o = osdB o from rfl]
    have c0 := blk_cell HC1.out 0
    have c1 := blk_cell HC1.out 1
    have c2 := blk_cell HC1.out 2
    have c3 := blk_cell HC1.out 3
    have c4 := blk_cell HC1.out 4
    have c5 := blk_cell HC1.out 5
    have c6 := blk_cell HC1.out 6
    have c7 := blk_cell HC1.out 7
    have c8 := blk_cell HC1.out 8
    unfold chA at *
    go_enter Try.func84, Try.ntmps84
    go_wp2_with fail
    refine (rosd_calls o _).mono ?_
    rintro e w1 ⟨rfl, hb⟩
    have HB2 := Lib.hid (below_then HB1.out HB1.out.size hb)
    clear hb
    go_wp2_with fail
    go_ret
    exact ⟨rfl, HB2.out⟩
  by_cases k3 : kd = 3
  · clear k1
    subst k3
    rw [show mayC 3 o = (eqO o ⟨o.f0, false, false, 0, 0, 0, 0, 0⟩ && winB o.f0 999) from rfl]
    obtain ⟨q, hq⟩ : ∃ q, q = eqO o ⟨o.f0, false, false, 0, 0, 0, 0, 0⟩ := ⟨_, rfl⟩
    have hE := eql_O o ⟨o.f0, false, false, 0, 0, 0, 0, 0⟩
    rw [← hq] at hE ⊢
    clear hq
    obtain ⟨y0, y1, y2, y3, y4, y5, y6, y7⟩ := blkO HO1.out
    have c0 := blk_cell HC1.out 0
    have c1 := blk_cell HC1.out 1
    have c2 := blk_cell HC1.out 2
    have c3 := blk_cell HC1.out 3
    have c4 := blk_cell HC1.out 4
    have c5 := blk_cell HC1.out 5
    have c6 := blk_cell HC1.out 6
    have c7 := blk_cell HC1.out 7
    have c8 := blk_cell HC1.out 8
    unfold chA at *
    cases q with
    | false =>
      go_enter Try.func84, Try.ntmps84
      go_wp2_with fail
      go_ret
      exact ⟨rfl, HB1.out⟩
    | true =>
      go_enter Try.func84, Try.ntmps84
      go_wp2_with fail
      refine (rwin_calls _ _ _).mono ?_
      rintro e w1 ⟨rfl, hb⟩
      have HB2 := Lib.hid (below_then HB1.out HB1.out.size hb)
      clear hb
      go_wp2_with fail
      go_ret
      exact ⟨rfl, HB2.out⟩
  by_cases k4 : kd = 4
  · clear k1 k3
    subst k4
    rw [show mayC 4 o = (eqO o ⟨o.f0, false, false, 0, 0, 0, 0, 0⟩ && winB o.f0 999) from rfl]
    obtain ⟨q, hq⟩ : ∃ q, q = eqO o ⟨o.f0, false, false, 0, 0, 0, 0, 0⟩ := ⟨_, rfl⟩
    have hE := eql_O o ⟨o.f0, false, false, 0, 0, 0, 0, 0⟩
    rw [← hq] at hE ⊢
    clear hq
    obtain ⟨y0, y1, y2, y3, y4, y5, y6, y7⟩ := blkO HO1.out
    have c0 := blk_cell HC1.out 0
    have c1 := blk_cell HC1.out 1
    have c2 := blk_cell HC1.out 2
    have c3 := blk_cell HC1.out 3
    have c4 := blk_cell HC1.out 4
    have c5 := blk_cell HC1.out 5
    have c6 := blk_cell HC1.out 6
    have c7 := blk_cell HC1.out 7
    have c8 := blk_cell HC1.out 8
    unfold chA at *
    cases q with
    | false =>
      go_enter Try.func84, Try.ntmps84
      go_wp2_with fail
      go_ret
      exact ⟨rfl, HB1.out⟩
    | true =>
      go_enter Try.func84, Try.ntmps84
      go_wp2_with fail
      refine (rwin_calls _ _ _).mono ?_
      rintro e w1 ⟨rfl, hb⟩
      have HB2 := Lib.hid (below_then HB1.out HB1.out.size hb)
      clear hb
      go_wp2_with fail
      go_ret
      exact ⟨rfl, HB2.out⟩
  by_cases k5 : kd = 5
  · clear k1 k3 k4
    subst k5
    rw [show mayC 5 o = (eqO o ⟨o.f0, false, false, 0, 0, 0, 0, 0⟩ && winB o.f0 999) from rfl]
    obtain ⟨q, hq⟩ : ∃ q, q = eqO o ⟨o.f0, false, false, 0, 0, 0, 0, 0⟩ := ⟨_, rfl⟩
    have hE := eql_O o ⟨o.f0, false, false, 0, 0, 0, 0, 0⟩
    rw [← hq] at hE ⊢
    clear hq
    obtain ⟨y0, y1, y2, y3, y4, y5, y6, y7⟩ := blkO HO1.out
    have c0 := blk_cell HC1.out 0
    have c1 := blk_cell HC1.out 1
    have c2 := blk_cell HC1.out 2
    have c3 := blk_cell HC1.out 3
    have c4 := blk_cell HC1.out 4
    have c5 := blk_cell HC1.out 5
    have c6 := blk_cell HC1.out 6
    have c7 := blk_cell HC1.out 7
    have c8 := blk_cell HC1.out 8
    unfold chA at *
    cases q with
    | false =>
      go_enter Try.func84, Try.ntmps84
      go_wp2_with fail
      go_ret
      exact ⟨rfl, HB1.out⟩
    | true =>
      go_enter Try.func84, Try.ntmps84
      go_wp2_with fail
      refine (rwin_calls _ _ _).mono ?_
      rintro e w1 ⟨rfl, hb⟩
      have HB2 := Lib.hid (below_then HB1.out HB1.out.size hb)
      clear hb
      go_wp2_with fail
      go_ret
      exact ⟨rfl, HB2.out⟩
  by_cases k6 : kd = 6
  · clear k1 k3 k4 k5
    subst k6
    rw [show mayC 6 o = (eqO o ⟨o.f0, false, false, o.f3, 0, 0, 0, 0⟩ && (winB o.f0 999 && winB o.f3 16777216)) from rfl]
    obtain ⟨q, hq⟩ : ∃ q, q = eqO o ⟨o.f0, false, false, o.f3, 0, 0, 0, 0⟩ := ⟨_, rfl⟩
    have hE := eql_O o ⟨o.f0, false, false, o.f3, 0, 0, 0, 0⟩
    rw [← hq] at hE ⊢
    clear hq
    obtain ⟨y0, y1, y2, y3, y4, y5, y6, y7⟩ := blkO HO1.out
    have f3 := blk_frozen HO1.out 3
    have c0 := blk_cell HC1.out 0
    have c1 := blk_cell HC1.out 1
    have c2 := blk_cell HC1.out 2
    have c3 := blk_cell HC1.out 3
    have c4 := blk_cell HC1.out 4
    have c5 := blk_cell HC1.out 5
    have c6 := blk_cell HC1.out 6
    have c7 := blk_cell HC1.out 7
    have c8 := blk_cell HC1.out 8
    have HB2 := Lib.hid (below_alloc (below_alloc (Below.refl w.heap.size w) (.cells (chA 6 o) 88)) (.cells (aggO ⟨o.f0, false, false, o.f3, 0, 0, 0, 0⟩) 40))
    have HO2 : Hid (((w.alloc (.cells (chA 6 o) 88)).alloc (.cells (aggO ⟨o.f0, false, false, o.f3, 0, 0, 0, 0⟩) 40)).heap[w.heap.size + 1]? = some (.cells (aggO ⟨o.f0, false, false, o.f3, 0, 0, 0, 0⟩) 40 (0, 0))) := Lib.hid (by have h := blk_new (w.alloc (.cells (chA 6 o) 88)) (.cells (aggO ⟨o.f0, false, false, o.f3, 0, 0, 0, 0⟩) 40); simp only [World.alloc, Array.size_push] at h ⊢; exact h)
    obtain ⟨b0, hb0⟩ : ∃ b0, b0 = winB o.f0 999 := ⟨_, rfl⟩
    have T0 : Hid (∀ W, Calls Try.prog 36 #[.int .i64 o.f0, .int .i64 0, .int .i64 999] W fun e w' => e = .returned (.bool b0) ∧ Below W.heap.size W w') := Lib.hid (fun W => by rw [hb0]; exact rwin_calls _ _ W)
    rw [← hb0]
    clear hb0
    unfold chA at *
    cases q with
    | false =>
      go_enter Try.func84, Try.ntmps84
      go_wp2_with fail
      go_ret
      exact ⟨rfl, HB2.out⟩
    | true =>
      cases b0 with
      | false =>
        go_enter Try.func84, Try.ntmps84
        go_wp2_with fail
        refine (T0.out _).mono ?_
        rintro e w1 ⟨rfl, hb⟩
        have HB3 := Lib.hid (below_then HB2.out HB2.out.size hb)
        clear hb
        go_wp2_with fail
        go_ret
        exact ⟨rfl, HB3.out⟩
      | true =>
        go_enter Try.func84, Try.ntmps84
        go_wp2_with fail
        refine (T0.out _).mono ?_
        rintro e w1 ⟨rfl, hb⟩
        have HB3 := Lib.hid (below_then HB2.out HB2.out.size hb)
        have z3 := blk_cell (blk_below HO2.out hb) 3
        clear hb
        go_wp2_with fail
        refine (rwin_calls _ _ _).mono ?_
        rintro e w2 ⟨rfl, hb⟩
        have HB4 := Lib.hid (below_then HB3.out HB3.out.size hb)
        clear hb
        go_wp2_with fail
        go_ret
        exact ⟨rfl, HB4.out⟩
  by_cases k2 : kd = 2
  · clear k1 k3 k4 k5 k6
    subst k2
    rw [show mayC 2 o = (eqO o ⟨o.f0, false, false, 0, o.f4, o.f5, 0, 0⟩ && (winB o.f0 999 && (within1 o.f4 2147483647 && within1 o.f5 2147483647))) from rfl]
    obtain ⟨q, hq⟩ : ∃ q, q = eqO o ⟨o.f0, false, false, 0, o.f4, o.f5, 0, 0⟩ := ⟨_, rfl⟩
    have hE := eql_O o ⟨o.f0, false, false, 0, o.f4, o.f5, 0, 0⟩
    rw [← hq] at hE ⊢
    clear hq
    obtain ⟨y0, y1, y2, y3, y4, y5, y6, y7⟩ := blkO HO1.out
    have f4 := blk_frozen HO1.out 4
    have f5 := blk_frozen HO1.out 5
    have c0 := blk_cell HC1.out 0
    have c1 := blk_cell HC1.out 1
    have c2 := blk_cell HC1.out 2
    have c3 := blk_cell HC1.out 3
    have c4 := blk_cell HC1.out 4
    have c5 := blk_cell HC1.out 5
    have c6 := blk_cell HC1.out 6
    have c7 := blk_cell HC1.out 7
    have c8 := blk_cell HC1.out 8
    have HB2 := Lib.hid (below_alloc (below_alloc (Below.refl w.heap.size w) (.cells (chA 2 o) 88)) (.cells (aggO ⟨o.f0, false, false, 0, o.f4, o.f5, 0, 0⟩) 40))
    have HC2 : Hid (((w.alloc (.cells (chA 2 o) 88)).alloc (.cells (aggO ⟨o.f0, false, false, 0, o.f4, o.f5, 0, 0⟩) 40)).heap[w.heap.size]? = some (.cells (chA 2 o) 88 (0, 0))) := Lib.hid (blk_below (blk_new _ _) (below_alloc (Below.refl _ _) _))
    have HO2 : Hid (((w.alloc (.cells (chA 2 o) 88)).alloc (.cells (aggO ⟨o.f0, false, false, 0, o.f4, o.f5, 0, 0⟩) 40)).heap[w.heap.size + 1]? = some (.cells (aggO ⟨o.f0, false, false, 0, o.f4, o.f5, 0, 0⟩) 40 (0, 0))) := Lib.hid (by have h := blk_new (w.alloc (.cells (chA 2 o) 88)) (.cells (aggO ⟨o.f0, false, false, 0, o.f4, o.f5, 0, 0⟩) 40); simp only [World.alloc, Array.size_push] at h ⊢; exact h)
    obtain ⟨b0, hb0⟩ : ∃ b0, b0 = winB o.f0 999 := ⟨_, rfl⟩
    obtain ⟨b4, hb4⟩ : ∃ b4, b4 = within1 o.f4 2147483647 := ⟨_, rfl⟩
    have T0 : Hid (∀ W, Calls Try.prog 36 #[.int .i64 o.f0, .int .i64 0, .int .i64 999] W fun e w' => e = .returned (.bool b0) ∧ Below W.heap.size W w') := Lib.hid (fun W => by rw [hb0]; exact rwin_calls _ _ W)
    have T4 : Hid (∀ W, Calls Try.prog 36 #[.int .i64 o.f4, .int .i64 1, .int .i64 2147483647] W fun e w' => e = .returned (.bool b4) ∧ Below W.heap.size W w') := Lib.hid (fun W => by rw [hb4]; exact rwin1_calls _ _ W)
    have T5 : Hid (∀ W, Calls Try.prog 36 #[.int .i64 o.f5, .int .i64 1, .int .i64 2147483647] W fun e w' => e = .returned (.bool (within1 o.f5 2147483647)) ∧ Below W.heap.size W w') := Lib.hid (fun W => rwin1_calls _ _ W)
    rw [← hb0, ← hb4]
    clear hb0 hb4
    unfold chA at c0 c1 c2 c3 c4 c5 c6 c7 c8 HB1 HO1 HC1 y0 y1 y2 y3 y4 y5 y6 y7 ⊢
    cases q with
    | false =>
      go_enter Try.func84, Try.ntmps84
      go_wp2_with fail
      go_region
      obtain ⟨wz, hwz⟩ : ∃ wz, wz = ((w.alloc (.cells (chA 2 o) 88)).alloc (.cells (aggO ⟨o.f0, false, false, 0, o.f4, o.f5, 0, 0⟩) 40)).drew := ⟨_, rfl⟩
      have HWZ := Lib.hid hwz
      have HO3 : Hid (wz.heap[w.heap.size + 1]? = some (.cells (aggO ⟨o.f0, false, false, 0, o.f4, o.f5, 0, 0⟩) 40 (0, 0))) := Lib.hid (by rw [hwz]; exact HO2.out)
      have HC3 : Hid (wz.heap[w.heap.size]? = some (.cells (chA 2 o) 88 (0, 0))) := Lib.hid (by rw [hwz]; exact HC2.out)
      have HB3 : Hid (Below w.heap.size w wz) := Lib.hid (by rw [hwz]; exact below_drew HB2.out)
      unfold chA at HWZ HC3
      rw [← HWZ.out]
      clear hwz
      clear c0 c1 c2 c3 c4 c5 c6 c7 c8 y0 y1 y2 y3 y4 y5 y6 y7 f4 f5
      obtain ⟨y0, y1, y2, y3, y4, y5, y6, y7⟩ := blkO HO3.out
      have c0 := blk_cell HC3.out 0
      have c1 := blk_cell HC3.out 1
      have c2 := blk_cell HC3.out 2
      have c3 := blk_cell HC3.out 3
      have c4 := blk_cell HC3.out 4
      have c5 := blk_cell HC3.out 5
      have c6 := blk_cell HC3.out 6
      have c7 := blk_cell HC3.out 7
      have c8 := blk_cell HC3.out 8
      go_wp2_with fail
      go_ret
      exact ⟨rfl, HB3.out⟩
    | true =>
      cases b0 with
      | false =>
        go_enter Try.func84, Try.ntmps84
        go_wp2_with fail
        go_region
        obtain ⟨wz, hwz⟩ : ∃ wz, wz = ((w.alloc (.cells (chA 2 o) 88)).alloc (.cells (aggO ⟨o.f0, false, false, 0, o.f4, o.f5, 0, 0⟩) 40)).drew := ⟨_, rfl⟩
        have HWZ := Lib.hid hwz
        have HO3 : Hid (wz.heap[w.heap.size + 1]? = some (.cells (aggO ⟨o.f0, false, false, 0, o.f4, o.f5, 0, 0⟩) 40 (0, 0))) := Lib.hid (by rw [hwz]; exact HO2.out)
        have HC3 : Hid (wz.heap[w.heap.size]? = some (.cells (chA 2 o) 88 (0, 0))) := Lib.hid (by rw [hwz]; exact HC2.out)
        have HB3 : Hid (Below w.heap.size w wz) := Lib.hid (by rw [hwz]; exact below_drew HB2.out)
        unfold chA at HWZ HC3
        rw [← HWZ.out]
        clear hwz
        clear c0 c1 c2 c3 c4 c5 c6 c7 c8 y0 y1 y2 y3 y4 y5 y6 y7 f4 f5
        obtain ⟨y0, y1, y2, y3, y4, y5, y6, y7⟩ := blkO HO3.out
        have c0 := blk_cell HC3.out 0
        have c1 := blk_cell HC3.out 1
        have c2 := blk_cell HC3.out 2
        have c3 := blk_cell HC3.out 3
        have c4 := blk_cell HC3.out 4
        have c5 := blk_cell HC3.out 5
        have c6 := blk_cell HC3.out 6
        have c7 := blk_cell HC3.out 7
        have c8 := blk_cell HC3.out 8
        go_wp2_with fail
        refine (T0.out _).mono ?_
        rintro e w4 ⟨rfl, hb⟩
        have HB4 := Lib.hid (below_then HB3.out HB3.out.size hb)
        clear hb
        go_wp2_with fail
        go_ret
        exact ⟨rfl, HB4.out⟩
      | true =>
        cases b4 with
        | false =>
          go_enter Try.func84, Try.ntmps84
          go_wp2_with fail
          go_region
          obtain ⟨wz, hwz⟩ : ∃ wz, wz = ((w.alloc (.cells (chA 2 o) 88)).alloc (.cells (aggO ⟨o.f0, false, false, 0, o.f4, o.f5, 0, 0⟩) 40)).drew := ⟨_, rfl⟩
          have HWZ := Lib.hid hwz
          have HO3 : Hid (wz.heap[w.heap.size + 1]? = some (.cells (aggO ⟨o.f0, false, false, 0, o.f4, o.f5, 0, 0⟩) 40 (0, 0))) := Lib.hid (by rw [hwz]; exact HO2.out)
          have HC3 : Hid (wz.heap[w.heap.size]? = some (.cells (chA 2 o) 88 (0, 0))) := Lib.hid (by rw [hwz]; exact HC2.out)
          have HB3 : Hid (Below w.heap.size w wz) := Lib.hid (by rw [hwz]; exact below_drew HB2.out)
          unfold chA at HWZ HC3
          rw [← HWZ.out]
          clear hwz
          clear c0 c1 c2 c3 c4 c5 c6 c7 c8 y0 y1 y2 y3 y4 y5 y6 y7 f4 f5
          obtain ⟨y0, y1, y2, y3, y4, y5, y6, y7⟩ := blkO HO3.out
          have c0 := blk_cell HC3.out 0
          have c1 := blk_cell HC3.out 1
          have c2 := blk_cell HC3.out 2
          have c3 := blk_cell HC3.out 3
          have c4 := blk_cell HC3.out 4
          have c5 := blk_cell HC3.out 5
          have c6 := blk_cell HC3.out 6
          have c7 := blk_cell HC3.out 7
          have c8 := blk_cell HC3.out 8
          go_wp2_with fail
          refine (T0.out _).mono ?_
          rintro e w4 ⟨rfl, hb⟩
          have HB4 := Lib.hid (below_then HB3.out HB3.out.size hb)
          have z4 := blk_cell (blk_below HO3.out hb) 4
          have HO4 := Lib.hid (blk_below HO3.out hb)
          clear hb
          go_wp2_with fail
          refine (T4.out _).mono ?_
          rintro e w5 ⟨rfl, hb⟩
          have HB5 := Lib.hid (below_then HB4.out HB4.out.size hb)
          clear hb
          go_wp2_with fail
          go_ret
          exact ⟨rfl, HB5.out⟩
        | true =>
          go_enter Try.func84, Try.ntmps84
          go_wp2_with fail
          go_region
          obtain ⟨wz, hwz⟩ : ∃ wz, wz = ((w.alloc (.cells (chA 2 o) 88)).alloc (.cells (aggO ⟨o.f0, false, false, 0, o.f4, o.f5, 0, 0⟩) 40)).drew := ⟨_, rfl⟩
          have HWZ := Lib.hid hwz
          have HO3 : Hid (wz.heap[w.heap.size + 1]? = some (.cells (aggO ⟨o.f0, false, false, 0, o.f4, o.f5, 0, 0⟩) 40 (0, 0))) := Lib.hid (by rw [hwz]; exact HO2.out)
          have HC3 : Hid (wz.heap[w.heap.size]? = some (.cells (chA 2 o) 88 (0, 0))) := Lib.hid (by rw [hwz]; exact HC2.out)
          have HB3 : Hid (Below w.heap.size w wz) := Lib.hid (by rw [hwz]; exact below_drew HB2.out)
          unfold chA at HWZ HC3
          rw [← HWZ.out]
          clear hwz
          clear c0 c1 c2 c3 c4 c5 c6 c7 c8 y0 y1 y2 y3 y4 y5 y6 y7 f4 f5
          obtain ⟨y0, y1, y2, y3, y4, y5, y6, y7⟩ := blkO HO3.out
          have c0 := blk_cell HC3.out 0
          have c1 := blk_cell HC3.out 1
          have c2 := blk_cell HC3.out 2
          have c3 := blk_cell HC3.out 3
          have c4 := blk_cell HC3.out 4
          have c5 := blk_cell HC3.out 5
          have c6 := blk_cell HC3.out 6
          have c7 := blk_cell HC3.out 7
          have c8 := blk_cell HC3.out 8
          go_wp2_with fail
          refine (T0.out _).mono ?_
          rintro e w4 ⟨rfl, hb⟩
          have HB4 := Lib.hid (below_then HB3.out HB3.out.size hb)
          have z4 := blk_cell (blk_below HO3.out hb) 4
          have HO4 := Lib.hid (blk_below HO3.out hb)
          clear hb
          go_wp2_with fail
          refine (T4.out _).mono ?_
          rintro e w5 ⟨rfl, hb⟩
          have HB5 := Lib.hid (below_then HB4.out HB4.out.size hb)
          have z5 := blk_cell (blk_below HO4.out hb) 5
          clear hb
          go_wp2_with fail
          refine (T5.out _).mono ?_
          rintro e w6 ⟨rfl, hb⟩
          have HB6 := Lib.hid (below_then HB5.out HB5.out.size hb)
          clear hb
          go_wp2_with fail
          go_ret
          exact ⟨rfl, HB6.out⟩
  · have b1 : (kd == 1) = false := beq_eq_false_iff_ne.2 k1
    have b2 : (kd == 2) = false := beq_eq_false_iff_ne.2 k2
    have b3 : (kd == 3) = false := beq_eq_false_iff_ne.2 k3
    have b4 : (kd == 4) = false := beq_eq_false_iff_ne.2 k4
    have b5 : (kd == 5) = false := beq_eq_false_iff_ne.2 k5
    have b6 : (kd == 6) = false := beq_eq_false_iff_ne.2 k6
    have e : mayC kd o = false := by
      unfold mayC
      rw [if_neg k1, if_neg k2, if_neg k6, if_neg (by rintro (h | h | h); exact k3 h; exact k4 h; exact k5 h)]
    rw [e]
    clear e k1 k2 k3 k4 k5 k6
    have c0 := blk_cell HC1.out 0
    have c1 := blk_cell HC1.out 1
    have c2 := blk_cell HC1.out 2
    have c3 := blk_cell HC1.out 3
    have c4 := blk_cell HC1.out 4
    have c5 := blk_cell HC1.out 5
    have c6 := blk_cell HC1.out 6
    have c7 := blk_cell HC1.out 7
    have c8 := blk_cell HC1.out 8
    unfold chA at *
    go_enter Try.func84, Try.ntmps84
    go_wp2_with fail
    go_ret
    exact ⟨rfl, HB1.out⟩
end Go.Proofs.Ytnpphmgibgfjoaa.McW
/- The document's Apply: the map behind a change. -/
set_option linter.unusedSimpArgs false
namespace Go.Proofs.Ytnpphmgibgfjoaa.ApY
open Go Go.RowKit Go.Proofs.YtnpphmgibgfjoaaW.PrintWords Go.Proofs.YtnpphmgibgfjoaaW.PrintLast Go.Proofs.YtnpphmgibgfjoaaW.PrintMore Mem PAll KW MixP MixW StrP AtA Srt Grp Sl Dsc AtB Roo Cho MayP Awk ApP Fnd McW
open CrP hiding Od
abbrev zM : Array Value := #[.int .i64 0, .int .i64 0, .int .i64 0, .int .i64 0, .int .i64 0, .slice none 0 0]
/-- A whole map stored into a block. -/
def put6 (w : World) (g : Nat) (a0 a1 a2 a3 a4 a5 : Value) : World := (((((w.setCell ⟨g, 0, none⟩ a0).setCell ⟨g, 1, none⟩ a1).setCell ⟨g, 2, none⟩ a2).setCell ⟨g, 3, none⟩ a3).setCell ⟨g, 4, none⟩ a4).setCell ⟨g, 5, none⟩ a5
theorem put6_blk {w : World} {g : Nat} {b0 b1 b2 b3 b4 b5 : Value} {t : TypeId} (h : w.heap[g]? = some (.cells #[b0, b1, b2, b3, b4, b5] t (0, 0))) (a0 a1 a2 a3 a4 a5 : Value) : (put6 w g a0 a1 a2 a3 a4 a5).heap[g]? = some (.cells #[a0, a1, a2, a3, a4, a5] t (0, 0)) := by
  have e : ((((((#[b0, b1, b2, b3, b4, b5] : Array Value).setIfInBounds 0 a0).setIfInBounds 1 a1).setIfInBounds 2 a2).setIfInBounds 3 a3).setIfInBounds 4 a4).setIfInBounds 5 a5 = #[a0, a1, a2, a3, a4, a5] := rfl
  rw [← e]
  exact blk_set (blk_set (blk_set (blk_set (blk_set (blk_set h 0 _) 1 _) 2 _) 3 _) 4 _) 5 _
theorem put6_below {B g : Nat} {w0 w : World} (h : Below B w0 w) (hg : B ≤ g) (a0 a1 a2 a3 a4 a5 : Value) : Below B w0 (put6 w g a0 a1 a2 a3 a4 a5) :=
  (((((h.setCell hg _).setCell hg _).setCell hg _).setCell hg _).setCell hg _).setCell hg _
/-- One more, in its place. -/
def insA (o : Od) : List Od → List Od
  | [] => [o]
  | x :: r => if o.f0 < x.f0 then o :: x :: r else x :: insA o r
def chg (kd : Int) (o c : Od) : Od := if kd = 2 then { o with f1 := true, f4 := c.f4, f5 := c.f5 } else if kd = 3 then { o with f1 := false } else if kd = 4 then { o with f2 := true } else if kd = 5 then { o with f2 := false } else { o with f3 := c.f3 }
def setO (l : List Od) (id : Int) (o' : Od) : List Od := l.map fun x => if x.f0 = id then o' else x
/-- The map behind a change: its OSDs; or why there is none. -/
noncomputable def applyR (ep k m p d : Int) (l : List Od) (kd : Int) (c : Od) : Int × List Od :=
  if (mayB ep k m p d l && (mayC kd c && !(ep == 1048576))) = false then (1, [])
  else if kd = 1 then (if (findO l c.f0).isSome = true then (6, []) else if 64 ≤ l.length then (2, []) else if mayB (ep + 1) k m p d (insA c l) = true then (0, insA c l) else (1, []))
  else match findO l c.f0 with
    | none => (4, [])
    | some o => if eqO (chg kd o c) o = true then (6, []) else (0, setO l c.f0 (chg kd o c))
theorem place_calls (ep k m p d id : Int) (A : Option Addr) (c : Nat) (l : List Od) (w : World) (hx : kO.C w A l.length l) (hcap : l.length ≤ c) :
    Calls Try.prog 46 #[.agg (boxM ep k m p d A c l), .int .i64 id] w fun e w' => ∃ z : Int, e = .returned (.int .i64 z) ∧ ((z = -1 ∧ findO l id = none) ∨ ∃ (j : Nat) (o : Od), z = j ∧ l[j]? = some o ∧ findO l id = some o) ∧ Below w.heap.size w w' := by
  obtain ⟨K, z, hK, hz⟩ := place_l0 ep k m p d id l hx.2.1 l.length 0 (by omega)
  rw [List.drop_zero] at hz
  refine (mooringref13_place.calls K ep k m p d A c l id z w hx hcap hK).mono ?_
  rintro e w1 ⟨rfl, hd⟩
  exact ⟨z, rfl, hz, hd⟩
set_option maxHeartbeats 8000000 in
set_option maxRecDepth 100000 in
theorem apply_bad (ep k m p d : Int) (A : Option Addr) (c : Nat) (l : List Od) (kd : Int) (o : Od) (w : World) (hx : kO.C w A l.length l) (hcap : l.length ≤ c) (hn : (mayB ep k m p d l && (mayC kd o && !(ep == 1048576))) = false) :
    Calls Try.prog 49 #[.agg (boxM ep k m p d A c l), .agg (chA kd o)] w fun e w' => e = .returned (.tuple #[.agg zM, .int .i64 1]) ∧ Below w.heap.size w w' := by
  have hs1 : (w.alloc (.cells (boxM ep k m p d A c l) 26)).heap.size = w.heap.size + 1 := by simp only [World.alloc, Array.size_push]
  have hs2 : ((w.alloc (.cells (boxM ep k m p d A c l) 26)).alloc (.cells (chA kd o) 88)).heap.size = w.heap.size + 2 := by simp only [World.alloc, Array.size_push]
  have hs3 : (((w.alloc (.cells (boxM ep k m p d A c l) 26)).alloc (.cells (chA kd o) 88)).alloc (.cells zM 26)).heap.size = w.heap.size + 3 := by simp only [World.alloc, Array.size_push]
  have HM1 : Hid ((((w.alloc (.cells (boxM ep k m p d A c l) 26)).alloc (.cells (chA kd o) 88)).alloc (.cells zM 26)).heap[w.heap.size]? = some (.cells (boxM ep k m p d A c l) 26 (0, 0))) := Lib.hid (blk_below (blk_new _ _) (below_alloc (below_alloc (Below.refl _ _) _) _))
  have HG1 : Hid ((((w.alloc (.cells (boxM ep k m p d A c l) 26)).alloc (.cells (chA kd o) 88)).alloc (.cells zM 26)).heap[w.heap.size + 1]? = some (.cells (chA kd o) 88 (0, 0))) := Lib.hid (by
    have h := blk_new (w.alloc (.cells (boxM ep k m p d A c l) 26)) (.cells (chA kd o) 88)
    rw [hs1] at h
    exact blk_below h (below_alloc (Below.refl _ _) _))
  have HR1 : Hid ((((w.alloc (.cells (boxM ep k m p d A c l) 26)).alloc (.cells (chA kd o) 88)).alloc (.cells zM 26)).heap[w.heap.size + 2]? = some (.cells zM 26 (0, 0))) := Lib.hid (by
    have h := blk_new ((w.alloc (.cells (boxM ep k m p d A c l) 26)).alloc (.cells (chA kd o) 88)) (.cells zM 26)
    rw [hs2] at h
    exact h)
  have HB1 := Lib.hid (below_alloc (below_alloc (below_alloc (Below.refl w.heap.size w) (.cells (boxM ep k m p d A c l) 26)) (.cells (chA kd o) 88)) (.cells zM 26))
  have HC1 := Lib.hid (Kd.C_below hx HB1.out)
  obtain ⟨w1, hw1⟩ : ∃ w1, w1 = (((w.alloc (.cells (boxM ep k m p d A c l) 26)).alloc (.cells (chA kd o) 88)).alloc (.cells zM 26)) := ⟨_, rfl⟩
  have HWN := Lib.hid hw1
  rw [← hw1] at HM1 HG1 HR1 HB1 HC1 hs3
  have HSZ := Lib.hid hs3
  have TM := Lib.hid (may_calls ep k m p d A c l w1 HC1.out hcap)
  obtain ⟨mb, hmb⟩ : ∃ mb, mb = mayB ep k m p d l := ⟨_, rfl⟩
  obtain ⟨cb, hcb⟩ : ∃ cb, cb = mayC kd o := ⟨_, rfl⟩
  rw [← hmb] at TM hn
  rw [← hcb] at hn
  have TC := Lib.hid (fun w1 => mayChange_calls kd o w1)
  rw [← hcb] at TC
  have HN := Lib.hid hn
  clear hx hcap hn hmb hcb hw1 hs1 hs2 hs3
  unfold boxM chA at *
  cases mb with
  | false =>
    go_enter Try.func49, Try.ntmps49
    go_wp2_with fail
    rw [← HWN.out]
    refine TM.out.mono ?_
    rintro e w2 ⟨rfl, hb⟩
    have HB2 := Lib.hid (below_then HB1.out HB1.out.size hb)
    have HM2 := Lib.hid (blk_below HM1.out hb)
    have HG2 := Lib.hid (blk_below HG1.out hb)
    have HR2 := Lib.hid (blk_below HR1.out hb)
    have HC2 := Lib.hid (Kd.C_below HC1.out hb)
    have HS2 : Hid (w.heap.size + 3 ≤ w2.heap.size) := Lib.hid (by have := hb.size; have := HSZ.out; omega)
    clear hb TM HB1 HM1 HG1 HR1 HC1 HWN HSZ
    have r0 := blk_cell HR2.out 0
    have r1 := blk_cell HR2.out 1
    have r2 := blk_cell HR2.out 2
    have r3 := blk_cell HR2.out 3
    have r4 := blk_cell HR2.out 4
    have r5 := blk_cell HR2.out 5
    have f0 := blk_frozen HR2.out 0
    have f1 := blk_frozen HR2.out 1
    have f2 := blk_frozen HR2.out 2
    have f3 := blk_frozen HR2.out 3
    have f4 := blk_frozen HR2.out 4
    have f5 := blk_frozen HR2.out 5
    have HF := Lib.hid (put6_blk HR2.out (.int .i64 0) (.int .i64 0) (.int .i64 0) (.int .i64 0) (.int .i64 0) (.slice none 0 0))
    have HBF := Lib.hid (put6_below HB2.out (show w.heap.size ≤ w.heap.size + 2 by omega) (.int .i64 0) (.int .i64 0) (.int .i64 0) (.int .i64 0) (.int .i64 0) (.slice none 0 0))
    obtain ⟨wf, hwf⟩ : ∃ wf, wf = put6 w2 (w.heap.size + 2) (.int .i64 0) (.int .i64 0) (.int .i64 0) (.int .i64 0) (.int .i64 0) (.slice none 0 0) := ⟨_, rfl⟩
    rw [← hwf] at HF HBF
    simp only [put6] at hwf
    go_wp2_with fail
    rw [← hwf]
    clear hwf
    clear r0 r1 r2 r3 r4 r5 f0 f1 f2 f3 f4 f5
    refine bodyPost_ret (results_ct rfl _ _ (w.heap.size + 2) 26 zM (0, 0) _ rfl HF.out Try.underlying26 rfl (by kernel_rfl)) rfl ?_
    exact ⟨rfl, HBF.out⟩
  | true =>
    cases cb with
    | false =>
      go_enter Try.func49, Try.ntmps49
      go_wp2_with fail
      rw [← HWN.out]
      refine TM.out.mono ?_
      rintro e w2 ⟨rfl, hb⟩
      have HB2 := Lib.hid (below_then HB1.out HB1.out.size hb)
      have HM2 := Lib.hid (blk_below HM1.out hb)
      have HG2 := Lib.hid (blk_below HG1.out hb)
      have HR2 := Lib.hid (blk_below HR1.out hb)
      have HC2 := Lib.hid (Kd.C_below HC1.out hb)
      have HS2 : Hid (w.heap.size + 3 ≤ w2.heap.size) := Lib.hid (by have := hb.size; have := HSZ.out; omega)
      clear hb TM HB1 HM1 HG1 HR1 HC1 HWN HSZ
      have c0 := blk_cell HG2.out 0
      have c1 := blk_cell HG2.out 1
      have c2 := blk_cell HG2.out 2
      have c3 := blk_cell HG2.out 3
      have c4 := blk_cell HG2.out 4
      have c5 := blk_cell HG2.out 5
      have c6 := blk_cell HG2.out 6
      have c7 := blk_cell HG2.out 7
      have c8 := blk_cell HG2.out 8
      go_wp2_with fail
      refine (TC.out _).mono ?_
      rintro e w3 ⟨rfl, hb⟩
      have HB3 := Lib.hid (below_then HB2.out HB2.out.size hb)
      have HR3 := Lib.hid (blk_below HR2.out hb)
      clear hb
      clear c0 c1 c2 c3 c4 c5 c6 c7 c8
      have r0 := blk_cell HR3.out 0
      have r1 := blk_cell HR3.out 1
      have r2 := blk_cell HR3.out 2
      have r3 := blk_cell HR3.out 3
      have r4 := blk_cell HR3.out 4
      have r5 := blk_cell HR3.out 5
      have f0 := blk_frozen HR3.out 0
      have f1 := blk_frozen HR3.out 1
      have f2 := blk_frozen HR3.out 2
      have f3 := blk_frozen HR3.out 3
      have f4 := blk_frozen HR3.out 4
      have f5 := blk_frozen HR3.out 5
      have HF := Lib.hid (put6_blk HR3.out (.int .i64 0) (.int .i64 0) (.int .i64 0) (.int .i64 0) (.int .i64 0) (.slice none 0 0))
      have HBF := Lib.hid (put6_below HB3.out (show w.heap.size ≤ w.heap.size + 2 by omega) (.int .i64 0) (.int .i64 0) (.int .i64 0) (.int .i64 0) (.int .i64 0) (.slice none 0 0))
      obtain ⟨wf, hwf⟩ : ∃ wf, wf = put6 w3 (w.heap.size + 2) (.int .i64 0) (.int .i64 0) (.int .i64 0) (.int .i64 0) (.int .i64 0) (.slice none 0 0) := ⟨_, rfl⟩
      rw [← hwf] at HF HBF
      simp only [put6] at hwf
      go_wp2_with fail
      rw [← hwf]
      clear hwf
      clear r0 r1 r2 r3 r4 r5 f0 f1 f2 f3 f4 f5
      refine bodyPost_ret (results_ct rfl _ _ (w.heap.size + 2) 26 zM (0, 0) _ rfl HF.out Try.underlying26 rfl (by kernel_rfl)) rfl ?_
      exact ⟨rfl, HBF.out⟩
    | true =>
      have hep : (ep == 1048576) = true := by
        have := HN.out
        simpa using this
      go_enter Try.func49, Try.ntmps49
      go_wp2_with fail
      rw [← HWN.out]
      refine TM.out.mono ?_
      rintro e w2 ⟨rfl, hb⟩
      have HB2 := Lib.hid (below_then HB1.out HB1.out.size hb)
      have HM2 := Lib.hid (blk_below HM1.out hb)
      have HG2 := Lib.hid (blk_below HG1.out hb)
      have HR2 := Lib.hid (blk_below HR1.out hb)
      have HC2 := Lib.hid (Kd.C_below HC1.out hb)
      have HS2 : Hid (w.heap.size + 3 ≤ w2.heap.size) := Lib.hid (by have := hb.size; have := HSZ.out; omega)
      clear hb TM HB1 HM1 HG1 HR1 HC1 HWN HSZ
      have c0 := blk_cell HG2.out 0
      have c1 := blk_cell HG2.out 1
      have c2 := blk_cell HG2.out 2
      have c3 := blk_cell HG2.out 3
      have c4 := blk_cell HG2.out 4
      have c5 := blk_cell HG2.out 5
      have c6 := blk_cell HG2.out 6
      have c7 := blk_cell HG2.out 7
      have c8 := blk_cell HG2.out 8
      go_wp2_with fail
      refine (TC.out _).mono ?_
      rintro e w3 ⟨rfl, hb⟩
      have HB3 := Lib.hid (below_then HB2.out HB2.out.size hb)
      have HR3 := Lib.hid (blk_below HR2.out hb)
      have m0 := blk_cell (blk_below HM2.out hb) 0
      clear hb
      clear c0 c1 c2 c3 c4 c5 c6 c7 c8
      have r0 := blk_cell HR3.out 0
      have r1 := blk_cell HR3.out 1
      have r2 := blk_cell HR3.out 2
      have r3 := blk_cell HR3.out 3
      have r4 := blk_cell HR3.out 4
      have r5 := blk_cell HR3.out 5
      have f0 := blk_frozen HR3.out 0
      have f1 := blk_frozen HR3.out 1
      have f2 := blk_frozen HR3.out 2
      have f3 := blk_frozen HR3.out 3
      have f4 := blk_frozen HR3.out 4
      have f5 := blk_frozen HR3.out 5
      have HF := Lib.hid (put6_blk HR3.out (.int .i64 0) (.int .i64 0) (.int .i64 0) (.int .i64 0) (.int .i64 0) (.slice none 0 0))
      have HBF := Lib.hid (put6_below HB3.out (show w.heap.size ≤ w.heap.size + 2 by omega) (.int .i64 0) (.int .i64 0) (.int .i64 0) (.int .i64 0) (.int .i64 0) (.slice none 0 0))
      obtain ⟨wf, hwf⟩ : ∃ wf, wf = put6 w3 (w.heap.size + 2) (.int .i64 0) (.int .i64 0) (.int .i64 0) (.int .i64 0) (.int .i64 0) (.slice none 0 0) := ⟨_, rfl⟩
      rw [← hwf] at HF HBF
      simp only [put6] at hwf
      go_wp2_with fail
      rw [← hwf]
      clear hwf
      clear r0 r1 r2 r3 r4 r5 f0 f1 f2 f3 f4 f5
      refine bodyPost_ret (results_ct rfl _ _ (w.heap.size + 2) 26 zM (0, 0) _ rfl HF.out Try.underlying26 rfl (by kernel_rfl)) rfl ?_
      exact ⟨rfl, HBF.out⟩
theorem insA_len (o : Od) : ∀ l : List Od, (insA o l).length = l.length + 1
  | [] => rfl
  | x :: r => by
    unfold insA
    split
    · rfl
    · rw [List.length_cons, insA_len o r, List.length_cons]
theorem insA_stop {o x : Od} {r : List Od} (h : o.f0 < x.f0) : insA o (x :: r) = o :: x :: r := by
  rw [insA, if_pos h]
theorem insA_go {o x : Od} {r : List Od} (h : ¬ o.f0 < x.f0) : insA o (x :: r) = x :: insA o r := by
  rw [insA, if_neg h]
/-- What is left to lay behind the row so far. -/
def restA (o : Od) (dn : Bool) (r : List Od) : List Od := if dn = true then r else insA o r
theorem grown_set (W : World) (b j : Nat) (v : Value) : W.grownBy (W.setCell ⟨b, j, none⟩ v) (some b) :=
  ⟨rfl, rfl, rfl, (by simp [World.setCell]), fun k _ hk => Below.heap_setCell _ _ _ k (fun e => hk (by rw [e]))⟩
theorem R_put6 {α : Type} {dk : Kd α} {e : Nat} {W : World} {base g : Nat} {ok : Nat → Prop} {v : Value} {xs : List α} (h : dk.R e W base ok v xs) (hk : ∀ k, ok k → k ≠ g) (a0 a1 a2 a3 a4 a5 : Value) : dk.R e (put6 W g a0 a1 a2 a3 a4 a5) base ok v xs := by
  have hne : ∀ k, ok k → some k ≠ some g := fun k hk1 e => hk k hk1 (Option.some.inj e)
  exact Kd.R_grown (Kd.R_grown (Kd.R_grown (Kd.R_grown (Kd.R_grown (Kd.R_grown h (grown_set _ _ _ _) hne) (grown_set _ _ _ _) hne) (grown_set _ _ _ _) hne) (grown_set _ _ _ _) hne) (grown_set _ _ _ _) hne) (grown_set _ _ _ _) hne
set_option maxHeartbeats 8000000 in
set_option maxRecDepth 100000 in
theorem apply_add (ep k m p d : Int) (A : Option Addr) (c : Nat) (l : List Od) (o : Od) (w : World) (hx : kO.C w A l.length l) (hcap : l.length ≤ c) (hmay : mayB ep k m p d l = true) (hmc : mayC 1 o = true) (hep : (ep == 1048576) = false) (he0 : 0 ≤ ep) (he1 : ep ≤ 1048576) :
    Calls Try.prog 49 #[.agg (boxM ep k m p d A c l), .agg (chA 1 o)] w fun e w' => ∃ (er : Int) (l' : List Od), applyR ep k m p d l 1 o = (er, l') ∧ Below w.heap.size w w' ∧ ((er ≠ 0 ∧ e = .returned (.tuple #[.agg zM, .int .i64 er])) ∨ (er = 0 ∧ ∃ (A' : Option Addr) (c' : Nat), e = .returned (.tuple #[.agg (boxM (ep + 1) k m p d A' c' l'), .int .i64 0]) ∧ kO.R 40 w' w.heap.size (fun _ => True) (.slice A' l'.length c') l')) := by
  have hs1 : (w.alloc (.cells (boxM ep k m p d A c l) 26)).heap.size = w.heap.size + 1 := by simp only [World.alloc, Array.size_push]
  have hs2 : ((w.alloc (.cells (boxM ep k m p d A c l) 26)).alloc (.cells (chA 1 o) 88)).heap.size = w.heap.size + 2 := by simp only [World.alloc, Array.size_push]
  have hs3 : (((w.alloc (.cells (boxM ep k m p d A c l) 26)).alloc (.cells (chA 1 o) 88)).alloc (.cells zM 26)).heap.size = w.heap.size + 3 := by simp only [World.alloc, Array.size_push]
  have HM1 : Hid ((((w.alloc (.cells (boxM ep k m p d A c l) 26)).alloc (.cells (chA 1 o) 88)).alloc (.cells zM 26)).heap[w.heap.size]? = some (.cells (boxM ep k m p d A c l) 26 (0, 0))) := Lib.hid (blk_below (blk_new _ _) (below_alloc (below_alloc (Below.refl _ _) _) _))
  have HG1 : Hid ((((w.alloc (.cells (boxM ep k m p d A c l) 26)).alloc (.cells (chA 1 o) 88)).alloc (.cells zM 26)).heap[w.heap.size + 1]? = some (.cells (chA 1 o) 88 (0, 0))) := Lib.hid (by
    have h := blk_new (w.alloc (.cells (boxM ep k m p d A c l) 26)) (.cells (chA 1 o) 88)
    rw [hs1] at h
    exact blk_below h (below_alloc (Below.refl _ _) _))
  have HR1 : Hid ((((w.alloc (.cells (boxM ep k m p d A c l) 26)).alloc (.cells (chA 1 o) 88)).alloc (.cells zM 26)).heap[w.heap.size + 2]? = some (.cells zM 26 (0, 0))) := Lib.hid (by
    have h := blk_new ((w.alloc (.cells (boxM ep k m p d A c l) 26)).alloc (.cells (chA 1 o) 88)) (.cells zM 26)
    rw [hs2] at h
    exact h)
  have HB1 := Lib.hid (below_alloc (below_alloc (below_alloc (Below.refl w.heap.size w) (.cells (boxM ep k m p d A c l) 26)) (.cells (chA 1 o) 88)) (.cells zM 26))
  have HC1 := Lib.hid (Kd.C_below hx HB1.out)
  obtain ⟨w1, hw1⟩ : ∃ w1, w1 = (((w.alloc (.cells (boxM ep k m p d A c l) 26)).alloc (.cells (chA 1 o) 88)).alloc (.cells zM 26)) := ⟨_, rfl⟩
  have HWN := Lib.hid hw1
  rw [← hw1] at HM1 HG1 HR1 HB1 HC1 hs3
  have HSZ := Lib.hid hs3
  have TC := Lib.hid (fun w1 => mayChange_calls 1 o w1)
  have TM := Lib.hid (may_calls ep k m p d A c l w1 HC1.out hcap)
  rw [hmay] at TM
  rw [hmc] at TC
  have HCP := Lib.hid hcap
  have happ : applyR ep k m p d l 1 o = (if (findO l o.f0).isSome = true then (6, []) else if 64 ≤ l.length then (2, []) else if mayB (ep + 1) k m p d (insA o l) = true then (0, insA o l) else (1, [])) := by
    unfold applyR
    rw [if_neg (by rw [hmay, hmc, hep]; decide), if_pos rfl]
  obtain ⟨ans, hans⟩ : ∃ ans, ans = applyR ep k m p d l 1 o := ⟨_, rfl⟩
  rw [← hans] at happ ⊢
  have HAN := Lib.hid happ
  clear hx hcap hmay hmc hw1 hs1 hs2 hs3 hans happ
  unfold boxM chA at *
  go_enter Try.func49, Try.ntmps49
  go_wp2_with fail
  rw [← HWN.out]
  refine TM.out.mono ?_
  rintro e w2 ⟨rfl, hb⟩
  have HB2 := Lib.hid (below_then HB1.out HB1.out.size hb)
  have HM2 := Lib.hid (blk_below HM1.out hb)
  have HG2 := Lib.hid (blk_below HG1.out hb)
  have HR2 := Lib.hid (blk_below HR1.out hb)
  have HC2 := Lib.hid (Kd.C_below HC1.out hb)
  have HS2 : Hid (w.heap.size + 3 ≤ w2.heap.size) := Lib.hid (by have := hb.size; have := HSZ.out; omega)
  clear hb TM HB1 HM1 HG1 HR1 HC1 HWN HSZ
  have c0 := blk_cell HG2.out 0
  have c1 := blk_cell HG2.out 1
  have c2 := blk_cell HG2.out 2
  have c3 := blk_cell HG2.out 3
  have c4 := blk_cell HG2.out 4
  have c5 := blk_cell HG2.out 5
  have c6 := blk_cell HG2.out 6
  have c7 := blk_cell HG2.out 7
  have c8 := blk_cell HG2.out 8
  go_wp2_with fail
  refine (TC.out _).mono ?_
  rintro e w2' ⟨rfl, hb⟩
  have HB3 := Lib.hid (below_then HB2.out HB2.out.size hb)
  have HM3 := Lib.hid (blk_below HM2.out hb)
  have HG3 := Lib.hid (blk_below HG2.out hb)
  have HR3 := Lib.hid (blk_below HR2.out hb)
  have HC3 := Lib.hid (Kd.C_below HC2.out hb)
  have HS3 : Hid (w.heap.size + 3 ≤ w2'.heap.size) := Lib.hid (by have := hb.size; have := HS2.out; omega)
  clear hb HB2 HM2 HG2 HR2 HC2 HS2
  clear c0 c1 c2 c3 c4 c5 c6 c7 c8
  have m0 := blk_cell HM3.out 0
  have m1 := blk_cell HM3.out 1
  have m2 := blk_cell HM3.out 2
  have m3 := blk_cell HM3.out 3
  have m4 := blk_cell HM3.out 4
  have m5 := blk_cell HM3.out 5
  have c0 := blk_cell HG3.out 0
  have c1 := blk_cell HG3.out 1
  have c2 := blk_cell HG3.out 2
  have c3 := blk_cell HG3.out 3
  have c4 := blk_cell HG3.out 4
  have c5 := blk_cell HG3.out 5
  have c6 := blk_cell HG3.out 6
  have c7 := blk_cell HG3.out 7
  have c8 := blk_cell HG3.out 8
  have TP := Lib.hid (place_calls ep k m p d o.f0 A c l w2' HC3.out HCP.out)
  unfold boxM at TP
  go_wp2_with fail
  refine TP.out.mono ?_
  rintro e w3 ⟨z, rfl, hz, hb⟩
  have HZ := Lib.hid hz
  have HBx := Lib.hid (below_then HB3.out HB3.out.size hb)
  have HMx := Lib.hid (blk_below HM3.out hb)
  have HGx := Lib.hid (blk_below HG3.out hb)
  have HRx := Lib.hid (blk_below HR3.out hb)
  have HCx := Lib.hid (Kd.C_below HC3.out hb)
  have HSx : Hid (w.heap.size + 3 ≤ w3.heap.size) := Lib.hid (by have := hb.size; have := HS3.out; omega)
  clear hb hz TP HB3 HM3 HG3 HR3 HC3 HS3
  clear c0 c1 c2 c3 c4 c5 c6 c7 c8
  clear m0 m1 m2 m3 m4 m5
  clear hep
  have HW4 := Lib.hid (below_alloc (Below.refl w3.heap.size w3) (.cells (boxM ep k m p d A c l) 26))
  have HNx : Hid ((w3.alloc (.cells (boxM ep k m p d A c l) 26)).heap[w3.heap.size]? = some (.cells (boxM ep k m p d A c l) 26 (0, 0))) := Lib.hid (blk_new _ _)
  have HN4 : Hid ((w3.alloc (.cells (boxM (ep + 1) k m p d A c l) 26)).heap[w3.heap.size]? = some (.cells (boxM (ep + 1) k m p d A c l) 26 (0, 0))) := Lib.hid (blk_new _ _)
  have HB4 := Lib.hid (below_alloc (Below.refl w3.heap.size w3) (.cells (boxM (ep + 1) k m p d A c l) 26))
  have HMy := Lib.hid (blk_below HMx.out HW4.out)
  obtain ⟨w4, hw4⟩ : ∃ w4, w4 = w3.alloc (.cells (boxM (ep + 1) k m p d A c l) 26) := ⟨_, rfl⟩
  rw [← hw4] at HN4 HB4
  unfold boxM at *
  have m0 := blk_cell HMx.out 0
  have m1 := blk_cell HMx.out 1
  have m2 := blk_cell HMx.out 2
  have m3 := blk_cell HMx.out 3
  have m4 := blk_cell HMx.out 4
  have m5 := blk_cell HMx.out 5
  have m0' := blk_cell HMy.out 0
  have n0 := blk_cell HNx.out 0
  have f0 := blk_frozen HNx.out 0
  go_upto_region 6 with fail
  rw [← hw4]
  clear hw4 HNx HW4 HMy m0' n0 f0
  clear m0 m1 m2 m3 m4 m5
  have HM4 := Lib.hid (blk_below HMx.out HB4.out)
  have HG4 := Lib.hid (blk_below HGx.out HB4.out)
  have HR4 := Lib.hid (blk_below HRx.out HB4.out)
  have HC4 := Lib.hid (Kd.C_below HCx.out HB4.out)
  have HBw4 : Hid (Below w.heap.size w w4) := Lib.hid (below_then HBx.out HBx.out.size HB4.out)
  have c0 := blk_cell HG4.out 0
  rcases HZ.out with ⟨rfl, hf⟩ | ⟨j, q, rfl, hj, hf⟩
  rotate_left
  · have hj0 : decide ((j : Int) ≥ 0) = true := decide_eq_true (by omega)
    have hj1 : (0 : Int) ≤ j := by omega
    have HAN2 : Hid (ans = (6, [])) := Lib.hid (by rw [HAN.out, hf]; rfl)
    clear hf hj
    have r0 := blk_cell HR4.out 0
    have r1 := blk_cell HR4.out 1
    have r2 := blk_cell HR4.out 2
    have r3 := blk_cell HR4.out 3
    have r4 := blk_cell HR4.out 4
    have r5 := blk_cell HR4.out 5
    have f0 := blk_frozen HR4.out 0
    have f1 := blk_frozen HR4.out 1
    have f2 := blk_frozen HR4.out 2
    have f3 := blk_frozen HR4.out 3
    have f4 := blk_frozen HR4.out 4
    have f5 := blk_frozen HR4.out 5
    have HF := Lib.hid (put6_blk HR4.out (.int .i64 0) (.int .i64 0) (.int .i64 0) (.int .i64 0) (.int .i64 0) (.slice none 0 0))
    have HBF := Lib.hid (put6_below HBw4.out (show w.heap.size ≤ w.heap.size + 2 by omega) (.int .i64 0) (.int .i64 0) (.int .i64 0) (.int .i64 0) (.int .i64 0) (.slice none 0 0))
    obtain ⟨wf, hwf⟩ : ∃ wf, wf = put6 w4 (w.heap.size + 2) (.int .i64 0) (.int .i64 0) (.int .i64 0) (.int .i64 0) (.int .i64 0) (.slice none 0 0) := ⟨_, rfl⟩
    rw [← hwf] at HF HBF
    simp only [put6] at hwf
    go_wp2_with fail
    rw [← hwf]
    clear hwf
    clear r0 r1 r2 r3 r4 r5 f0 f1 f2 f3 f4 f5
    refine bodyPost_ret (results_ct rfl _ _ (w.heap.size + 2) 26 zM (0, 0) _ rfl HF.out Try.underlying26 rfl (by kernel_rfl)) rfl ?_
    exact ⟨_, [], by exact HAN2.out, HBF.out, .inl ⟨by decide, rfl⟩⟩
  have HFN := Lib.hid hf
  clear hf
  have m0 := blk_cell HM4.out 0
  have m1 := blk_cell HM4.out 1
  have m2 := blk_cell HM4.out 2
  have m3 := blk_cell HM4.out 3
  have m4 := blk_cell HM4.out 4
  have m5 := blk_cell HM4.out 5
  by_cases h64 : 64 ≤ l.length
  · have hl0 : decide ((l.length : Int) ≥ 64) = true := decide_eq_true (by omega)
    have hl1 : (64 : Int) ≤ l.length := by omega
    have HAN2 : Hid (ans = (2, [])) := Lib.hid (by rw [HAN.out, HFN.out]; simp only [Option.isSome_none, Bool.false_eq_true, if_false]; rw [if_pos h64])
    have r0 := blk_cell HR4.out 0
    have r1 := blk_cell HR4.out 1
    have r2 := blk_cell HR4.out 2
    have r3 := blk_cell HR4.out 3
    have r4 := blk_cell HR4.out 4
    have r5 := blk_cell HR4.out 5
    have f0 := blk_frozen HR4.out 0
    have f1 := blk_frozen HR4.out 1
    have f2 := blk_frozen HR4.out 2
    have f3 := blk_frozen HR4.out 3
    have f4 := blk_frozen HR4.out 4
    have f5 := blk_frozen HR4.out 5
    have HF := Lib.hid (put6_blk HR4.out (.int .i64 0) (.int .i64 0) (.int .i64 0) (.int .i64 0) (.int .i64 0) (.slice none 0 0))
    have HBF := Lib.hid (put6_below HBw4.out (show w.heap.size ≤ w.heap.size + 2 by omega) (.int .i64 0) (.int .i64 0) (.int .i64 0) (.int .i64 0) (.int .i64 0) (.slice none 0 0))
    obtain ⟨wf, hwf⟩ : ∃ wf, wf = put6 w4 (w.heap.size + 2) (.int .i64 0) (.int .i64 0) (.int .i64 0) (.int .i64 0) (.int .i64 0) (.slice none 0 0) := ⟨_, rfl⟩
    rw [← hwf] at HF HBF
    simp only [put6] at hwf
    go_wp2_with fail
    rw [← hwf]
    clear hwf
    clear r0 r1 r2 r3 r4 r5 f0 f1 f2 f3 f4 f5
    refine bodyPost_ret (results_ct rfl _ _ (w.heap.size + 2) 26 zM (0, 0) _ rfl HF.out Try.underlying26 rfl (by kernel_rfl)) rfl ?_
    exact ⟨_, [], by exact HAN2.out, HBF.out, .inl ⟨by decide, rfl⟩⟩
  have HL64 := Lib.hid (Nat.lt_of_not_le h64)
  have hl0 : decide ((l.length : Int) ≥ 64) = false := decide_eq_false (by omega)
  have hl2 : decide (64 ≤ (l.length : Int)) = false := decide_eq_false (by omega)
  have n5f := blk_frozen HN4.out 5
  have n5c := blk_cell HN4.out 5
  have HN5 := Lib.hid (blk_set HN4.out 5 (.slice none 0 0))
  obtain ⟨w5, hw5⟩ : ∃ w5, w5 = w4.setCell ⟨w3.heap.size, 5, none⟩ (.slice none 0 0) := ⟨_, rfl⟩
  have HB35 := Lib.hid (HB4.out.setCell (p := ⟨w3.heap.size, 5, none⟩) (Nat.le_refl _) (.slice none 0 0))
  rw [← hw5] at HN5 HB35
  go_wp2_with fail
  rw [← hw5]
  clear h64
  have hm : l.length ≤ 9223372036854775807 := HCx.out.2.1
  go_loopw [8, 9] (fun b' i' wr => ∃ (n : Nat) (dn : Bool) (acc : List Od) (v : Value), b' = .bool dn ∧ i' = .int .i64 n ∧ Hid (n ≤ l.length) ∧ Hid (acc ++ restA o dn (l.drop n) = insA o l) ∧ Hid (wr.heap[w3.heap.size]? = some (.cells #[.int .i64 (ep + 1), .int .i64 k, .int .i64 m, .int .i64 p, .int .i64 d, v] 26 (0, 0))) ∧ Hid (kO.R 40 wr w3.heap.size (fun k => w3.heap.size < k) v acc) ∧ Hid (Below w3.heap.size w3 wr)) (fun _ i' _ => (l.length - intOf i').toNat)
  case atStart => exact ⟨0, false, [], .slice none 0 0, rfl, rfl, Lib.hid (Nat.zero_le _), Lib.hid rfl, HN5, Lib.hid (Kd.R_nil _ _ _ _ _), HB35⟩
  case round =>
    obtain ⟨n, dn, acc, v, rfl, rfl, HNL, HE, HN, HO, HB⟩ := hrel
    clear HN5 HB35 HN4 HB4 HBw4
    have hn := HNL.out
    have HMn := Lib.hid (blk_below HMx.out HB.out)
    have m5 := blk_cell HMn.out 5
    by_cases h : n < l.length
    · have hlt : decide (n < l.length) = true := decide_eq_true h
      have hltI : decide ((n : Int) < (l.length : Int)) = true := decide_eq_true (by omega)
      have i0 : (0 : Int) ≤ n := by omega
      have i1 : (n : Int) < l.length := by omega
      obtain ⟨ad, q, hq, hA, b0, b1, b2, b3, b4, b5, b6, b7⟩ := at_O HCx.out n h
      subst hA
      have HQ := Lib.hid hq
      have HDR : Hid (l.drop n = q :: l.drop (n + 1)) := Lib.hid (by obtain ⟨q1, q2⟩ := List.getElem?_eq_some_iff.1 hq; rw [← q2]; exact List.drop_eq_getElem_cons h)
      have HNI := Lib.hid h
      clear hq h hn
      cases dn with
      | true =>
        go_wp2_with fail
        go_quiet (fail)
        have HNp := Lib.hid (blk_below HN.out (pw_below_drewN (Below.refl _ _) nq))
        have HOp := Lib.hid (Kd.R_below HO.out (pw_below_drewN (Below.refl _ _) nq))
        have HBp := Lib.hid (pw_below_drewN HB.out nq)
        obtain ⟨wp, hwp⟩ : ∃ wp, wp = wr.drewN nq := ⟨_, rfl⟩
        rw [← hwp] at HNp HOp HBp ⊢
        clear hwp HN HO HB
        go_wp2_with fail
        have HNq := Lib.hid (blk_below HNp.out (below_drew (Below.refl _ _)))
        have HOq := Lib.hid (Kd.R_below HOp.out (below_drew (Below.refl _ _)))
        have HBq := Lib.hid (below_drew HBp.out)
        refine start_ (n := 11) (S := fun w' => w'.heap[w3.heap.size]? = some (.cells #[.int .i64 (ep + 1), .int .i64 k, .int .i64 m, .int .i64 p, .int .i64 d, v] 26 (0, 0)) ∧ Below w3.heap.size w3 w') (ds := [10]) #[false, false, false, false, false, false, false, false, false, false, false] (by kernel_rfl) rfl rfl ⟨HNq.out, HBq.out⟩ (fun hHeld => ?_)
        generalize wp.drew = wd at HNq HOq HBq hHeld ⊢
        refine pure_ (i := 0) (N := some 75) (v := ?_) (a' := ?_) #[true, false, false, false, false, false, false, false, false, false, false] rfl rfl (by kernel_rfl) (fun _ _ _ h => h) (Or.inl ⟨by rfl, ?_⟩) ?_ ?_
        rotate_left
        · intro w'
          go_simp
          with_reducible rfl
        rotate_left
        · simp only [Act.put, List.setIfInBounds_toArray, List.set_cons_zero, List.set_cons_succ, i64_w, i32_w]
          rfl
        refine pure_ (i := 2) (N := some 77) (v := ?_) (a' := ?_) #[true, false, true, false, false, false, false, false, false, false, false] rfl rfl (by kernel_rfl) (fun _ _ _ h => h) (Or.inl ⟨by rfl, ?_⟩) ?_ ?_
        rotate_left
        · intro w'
          go_simp
          with_reducible rfl
        rotate_left
        · simp only [Act.put, List.setIfInBounds_toArray, List.set_cons_zero, List.set_cons_succ, i64_w, i32_w]
          rfl
        refine pure_ (i := 4) (N := some 79) (v := ?_) (a' := ?_) #[true, false, true, false, true, false, false, false, false, false, false] rfl rfl (by kernel_rfl) (fun _ _ _ h => h) (Or.inl ⟨by rfl, ?_⟩) ?_ ?_
        rotate_left
        · intro w'
          go_simp
          with_reducible rfl
        rotate_left
        · simp only [Act.put, List.setIfInBounds_toArray, List.set_cons_zero, List.set_cons_succ, i64_w, i32_w]
          rfl
        refine take_ (i := 1) (N := some 76) (v := ?_) (a' := ?_) #[true, true, true, false, true, false, false, false, false, false, false] rfl rfl (by kernel_rfl) (fun _ _ _ h => h) (Or.inl ⟨by rfl, ?_⟩) hHeld ?_ ?_
        rotate_left
        · rintro w' hS
          have n5 := blk_cell hS.1 5
          go_simp
          with_reducible rfl
        rotate_left
        · simp only [Act.put, List.setIfInBounds_toArray, List.set_cons_zero, List.set_cons_succ, i64_w, i32_w]
          rfl
        refine take_ (i := 3) (N := some 78) (v := ?_) (a' := ?_) #[true, true, true, true, true, false, false, false, false, false, false] rfl rfl (by kernel_rfl) (fun _ _ _ h => h) (Or.inl ⟨by rfl, ?_⟩) hHeld ?_ ?_
        rotate_left
        · rintro w' hS
          have m5 := blk_cell (blk_below HMx.out hS.2) 5
          go_simp
          with_reducible rfl
        rotate_left
        · simp only [Act.put, List.setIfInBounds_toArray, List.set_cons_zero, List.set_cons_succ, i64_w, i32_w]
          rfl
        refine pure_ (i := 5) (N := some 80) (v := ?_) (a' := ?_) #[true, true, true, true, true, true, false, false, false, false, false] rfl rfl (by kernel_rfl) (fun _ _ _ h => h) (Or.inl ⟨by rfl, ?_⟩) ?_ ?_
        rotate_left
        · intro w'
          go_simp
          with_reducible rfl
        rotate_left
        · simp only [Act.put, List.setIfInBounds_toArray, List.set_cons_zero, List.set_cons_succ, i64_w, i32_w]
          rfl
        refine take_ (i := 6) (N := some 81) (v := ?_) (a' := ?_) #[true, true, true, true, true, true, true, false, false, false, false] rfl rfl (by kernel_rfl) (fun _ _ _ h => h) (Or.inl ⟨by rfl, ?_⟩) hHeld ?_ ?_
        rotate_left
        · rintro w' hS
          have y0 := (hS.2.cell (World.block_lt_of_cell? _ _ b0)).trans b0
          have y1 := (hS.2.cell (World.block_lt_of_cell? _ _ b1)).trans b1
          have y2 := (hS.2.cell (World.block_lt_of_cell? _ _ b2)).trans b2
          have y3 := (hS.2.cell (World.block_lt_of_cell? _ _ b3)).trans b3
          have y4 := (hS.2.cell (World.block_lt_of_cell? _ _ b4)).trans b4
          have y5 := (hS.2.cell (World.block_lt_of_cell? _ _ b5)).trans b5
          have y6 := (hS.2.cell (World.block_lt_of_cell? _ _ b6)).trans b6
          have y7 := (hS.2.cell (World.block_lt_of_cell? _ _ b7)).trans b7
          go_simp
          with_reducible rfl
        rotate_left
        · simp only [Act.put, List.setIfInBounds_toArray, List.set_cons_zero, List.set_cons_succ, i64_w, i32_w]
          rfl
        refine one_ (i := 7) (N := some 82) #[true, true, true, true, true, true, true, true, false, false, false] rfl rfl (by kernel_rfl) (by decide) (fun K hK => ?_)
        refine value_ (w1 := ?_) (v := ?_) (by rfl) rfl ?_ ?_
        rotate_left 2
        · go_simp
          constructor
          · rfl
          · rfl
        refine hK.out _ _ ⟨blk_below HNq.out (below_alloc (Below.refl _ _) _), below_alloc HBq.out _⟩ (fun hHeld => ?_)
        clear hK K
        refine norm_ (a' := ?_) ?_ ?_
        rotate_left
        · show Act.put _ (some 82) _ = _
          simp only [Act.put, List.setIfInBounds_toArray, List.set_cons_zero, List.set_cons_succ, i64_w, i32_w]
          rfl
        refine one_ (i := 8) (N := some 83) #[true, true, true, true, true, true, true, true, true, false, false] rfl rfl (by kernel_rfl) (by decide) (fun K hK => ?_)
        refine Kd.R_append_step kO (w0 := w3) w3.heap.size (by rfl) (.tmp 76) (.tmp 82) 24 40 (.agg #[.int .i64 0, .bool false, .bool false, .int .i64 0, .int .i64 0, .int .i64 0, .int .i64 0, .int .i64 0]) 56 rfl Try.underlying24 infoO rfl (by decide) (by decide) v (acc) q [.int .i64 q.f0, .bool q.f1, .bool q.f2, .int .i64 q.f3, .int .i64 q.f4, .int .i64 q.f5, .int .i64 q.f6, .int .i64 q.f7] (fun k => w3.heap.size < k) (fun _ => False) rfl rfl (k40_mkM _ _ _ q) (fun _ hk => hk.elim) (fun k hk => by have := blk_lt HNq.out; omega) HOq.out HBq.out HBq.out.size ?aL ?_
        (case aL => have h1 := congrArg List.length HE.out; rw [List.length_append, insA_len] at h1; have := HL64.out; omega)
        intro v83 w83 ho hb hg hat
        obtain ⟨A83, c83, rfl⟩ := Kd.R_slice ho
        obtain ⟨L83, hL83⟩ : ∃ L83, L83 = (acc ++ [q]).length := ⟨_, rfl⟩
        rw [← hL83] at ho ⊢
        clear hL83
        have HO83 := Lib.hid ho
        have HB83 := Lib.hid hb
        have HN83 := Lib.hid (blk_grown HNq.out hg (Kd.R_away HOq.out (fun k hk => Nat.ne_of_gt hk)))
        clear ho hb hg hat HNq HOq HBq
        refine hK.out _ _ ⟨HN83.out, HB83.out⟩ (fun hHeld => ?_)
        clear hK K
        refine norm_ (a' := ?_) ?_ ?_
        rotate_left
        · show Act.put _ (some 83) _ = _
          simp only [Act.put, List.setIfInBounds_toArray, List.set_cons_zero, List.set_cons_succ, i64_w, i32_w]
          rfl
        refine pure_ (i := 9) (N := some 84) (v := ?_) (a' := ?_) #[true, true, true, true, true, true, true, true, true, true, false] rfl rfl (by kernel_rfl) (fun _ _ _ h => h) (Or.inl ⟨by rfl, ?_⟩) ?_ ?_
        rotate_left
        · intro w'
          go_simp
          with_reducible rfl
        rotate_left
        · simp only [Act.put, List.setIfInBounds_toArray, List.set_cons_zero, List.set_cons_succ, i64_w, i32_w]
          rfl
        refine last_ (i := 10) (N := none) #[true, true, true, true, true, true, true, true, true, true, true] rfl rfl (by kernel_rfl) (by decide) (fun K hK => ?_)
        have n5c := blk_cell HN83.out 5
        have n5f := blk_frozen HN83.out 5
        refine skip_ (w1 := w83.setCell ⟨w3.heap.size, 5, none⟩ (.slice A83 L83 c83)) (by rfl) rfl (by first | (go_simp; done) | (go_simp; rfl)) ?_
        refine hK.out _ _ ?_
        clear hK K
        refine done_ (by kernel_rfl) ?_
        have HN84 := Lib.hid (blk_set HN83.out 5 (.slice A83 L83 c83))
        have HO84 := Lib.hid (Kd.R_grown HO83.out (grown_set w83 w3.heap.size 5 (.slice A83 L83 c83)) (fun k hk e => Nat.ne_of_gt hk (Option.some.inj e)))
        have HB84 := Lib.hid (HB83.out.setCell (p := ⟨w3.heap.size, 5, none⟩) (Nat.le_refl _) (.slice A83 L83 c83))
        clear HN83 HO83 HB83
        go_wp2_with fail
        go_roundw
        case rel => exact ⟨n + 1, true, acc ++ [q], .slice A83 L83 c83, rfl, by go_num, Lib.hid HNI.out, Lib.hid (by have := HE.out; rw [HDR.out] at this; rw [List.append_assoc]; exact this), HN84, HO84, HB84⟩
        case measure => have := HNI.out; simp only [intOf]; omega
      | false =>
        have HGn := Lib.hid (blk_below HGx.out HB.out)
        have c1 := blk_cell HGn.out 1
        have y0 := (HB.out.cell (World.block_lt_of_cell? _ _ b0)).trans b0
        by_cases hgt : o.f0 < q.f0
        · have hgB : decide (o.f0 < q.f0) = true := decide_eq_true hgt
          have HE2 : Hid ((acc ++ [o]) ++ [q] ++ l.drop (n + 1) = insA o l) := Lib.hid (by have h2 := HE.out; rw [HDR.out] at h2; rw [← h2]; show _ = acc ++ insA o (q :: l.drop (n + 1)); rw [insA_stop hgt]; simp only [List.append_assoc, List.cons_append, List.nil_append])
          clear hgt
          go_wp2_with fail
          go_quiet (fail)
          have HNp := Lib.hid (blk_below HN.out (pw_below_drewN (Below.refl _ _) nq))
          have HOp := Lib.hid (Kd.R_below HO.out (pw_below_drewN (Below.refl _ _) nq))
          have HBp := Lib.hid (pw_below_drewN HB.out nq)
          obtain ⟨wp, hwp⟩ : ∃ wp, wp = wr.drewN nq := ⟨_, rfl⟩
          rw [← hwp] at HNp HOp HBp ⊢
          clear hwp HN HO HB
          have HGp := Lib.hid (blk_below HGx.out HBp.out)
          have n5 := blk_cell HNp.out 5
          clear c1 y0
          have d0 := blk_cell HGp.out 0
          have d1 := blk_cell HGp.out 1
          have d2 := blk_cell HGp.out 2
          have d3 := blk_cell HGp.out 3
          have d4 := blk_cell HGp.out 4
          have d5 := blk_cell HGp.out 5
          have d6 := blk_cell HGp.out 6
          have d7 := blk_cell HGp.out 7
          have d8 := blk_cell HGp.out 8
          go_wp2_with (first | (at_builtin; go_must (refine Kd.R_append kO (w0 := w3) w3.heap.size rfl _ _ 24 40 (.agg #[.int .i64 0, .bool false, .bool false, .int .i64 0, .int .i64 0, .int .i64 0, .int .i64 0, .int .i64 0]) 56 rfl Try.underlying24 infoO rfl (by decide) (by decide) _ _ o [.int .i64 o.f0, .bool o.f1, .bool o.f2, .int .i64 o.f3, .int .i64 o.f4, .int .i64 o.f5, .int .i64 o.f6, .int .i64 o.f7] (fun k => w3.heap.size < k) (fun _ => False) rfl rfl (k40_mkM _ _ _ o) (fun _ hk => hk.elim) (fun k hk => by have := blk_lt HNp.out; omega) (by exact HOp.out) (by exact HBp.out) (by exact HBp.out.size) ?hl ?_; (case hl => have h1 := congrArg List.length HE2.out; rw [List.length_append, List.length_append, List.length_append, insA_len] at h1; have := HL64.out; simp only [List.length_cons, List.length_nil] at h1; omega)); intro v6 w6 ho6 hb6 hg6 hat6; obtain ⟨A6, c6, rfl⟩ := Kd.R_slice ho6; obtain ⟨L6, hL6⟩ : ∃ L6, L6 = (acc ++ [o]).length := ⟨_, rfl⟩; rw [← hL6] at ho6 ⊢; clear hL6; have HO6 := Lib.hid ho6; have HB6 := Lib.hid hb6; have HN6 := Lib.hid (blk_grown HNp.out hg6 (Kd.R_away HOp.out (fun k hk => Nat.ne_of_gt hk))); have n6c := blk_cell HN6.out 5; have n6f := blk_frozen HN6.out 5; clear ho6 hb6 hg6 hat6))
          have HN7 := Lib.hid (blk_set HN6.out 5 (.slice A6 L6 c6))
          have HO7 := Lib.hid (Kd.R_grown HO6.out (grown_set w6 w3.heap.size 5 (.slice A6 L6 c6)) (fun k hk e => Nat.ne_of_gt hk (Option.some.inj e)))
          have HB7 := Lib.hid (HB6.out.setCell (p := ⟨w3.heap.size, 5, none⟩) (Nat.le_refl _) (.slice A6 L6 c6))
          obtain ⟨w7, hw7⟩ : ∃ w7, w7 = w6.setCell ⟨w3.heap.size, 5, none⟩ (.slice A6 L6 c6) := ⟨_, rfl⟩
          rw [← hw7] at HN7 HO7 HB7 ⊢
          clear hw7 n6c n6f HN6 HO6 HB6
          clear n5 d0 d1 d2 d3 d4 d5 d6 d7 d8 HNp HOp HBp
          have HNq := Lib.hid (blk_below HN7.out (below_drew (Below.refl _ _)))
          have HOq := Lib.hid (Kd.R_below HO7.out (below_drew (Below.refl _ _)))
          have HBq := Lib.hid (below_drew HB7.out)
          refine start_ (n := 11) (S := fun w' => w'.heap[w3.heap.size]? = some (.cells #[.int .i64 (ep + 1), .int .i64 k, .int .i64 m, .int .i64 p, .int .i64 d, (.slice A6 L6 c6)] 26 (0, 0)) ∧ Below w3.heap.size w3 w') (ds := [10]) #[false, false, false, false, false, false, false, false, false, false, false] (by kernel_rfl) rfl rfl ⟨HNq.out, HBq.out⟩ (fun hHeld => ?_)
          generalize w7.drew = wd at HNq HOq HBq hHeld ⊢
          refine pure_ (i := 0) (N := some 75) (v := ?_) (a' := ?_) #[true, false, false, false, false, false, false, false, false, false, false] rfl rfl (by kernel_rfl) (fun _ _ _ h => h) (Or.inl ⟨by rfl, ?_⟩) ?_ ?_
          rotate_left
          · intro w'
            go_simp
            with_reducible rfl
          rotate_left
          · simp only [Act.put, List.setIfInBounds_toArray, List.set_cons_zero, List.set_cons_succ, i64_w, i32_w]
            rfl
          refine pure_ (i := 2) (N := some 77) (v := ?_) (a' := ?_) #[true, false, true, false, false, false, false, false, false, false, false] rfl rfl (by kernel_rfl) (fun _ _ _ h => h) (Or.inl ⟨by rfl, ?_⟩) ?_ ?_
          rotate_left
          · intro w'
            go_simp
            with_reducible rfl
          rotate_left
          · simp only [Act.put, List.setIfInBounds_toArray, List.set_cons_zero, List.set_cons_succ, i64_w, i32_w]
            rfl
          refine pure_ (i := 4) (N := some 79) (v := ?_) (a' := ?_) #[true, false, true, false, true, false, false, false, false, false, false] rfl rfl (by kernel_rfl) (fun _ _ _ h => h) (Or.inl ⟨by rfl, ?_⟩) ?_ ?_
          rotate_left
          · intro w'
            go_simp
            with_reducible rfl
          rotate_left
          · simp only [Act.put, List.setIfInBounds_toArray, List.set_cons_zero, List.set_cons_succ, i64_w, i32_w]
            rfl
          refine take_ (i := 1) (N := some 76) (v := ?_) (a' := ?_) #[true, true, true, false, true, false, false, false, false, false, false] rfl rfl (by kernel_rfl) (fun _ _ _ h => h) (Or.inl ⟨by rfl, ?_⟩) hHeld ?_ ?_
          rotate_left
          · rintro w' hS
            have n5 := blk_cell hS.1 5
            go_simp
            with_reducible rfl
          rotate_left
          · simp only [Act.put, List.setIfInBounds_toArray, List.set_cons_zero, List.set_cons_succ, i64_w, i32_w]
            rfl
          refine take_ (i := 3) (N := some 78) (v := ?_) (a' := ?_) #[true, true, true, true, true, false, false, false, false, false, false] rfl rfl (by kernel_rfl) (fun _ _ _ h => h) (Or.inl ⟨by rfl, ?_⟩) hHeld ?_ ?_
          rotate_left
          · rintro w' hS
            have m5 := blk_cell (blk_below HMx.out hS.2) 5
            go_simp
            with_reducible rfl
          rotate_left
          · simp only [Act.put, List.setIfInBounds_toArray, List.set_cons_zero, List.set_cons_succ, i64_w, i32_w]
            rfl
          refine pure_ (i := 5) (N := some 80) (v := ?_) (a' := ?_) #[true, true, true, true, true, true, false, false, false, false, false] rfl rfl (by kernel_rfl) (fun _ _ _ h => h) (Or.inl ⟨by rfl, ?_⟩) ?_ ?_
          rotate_left
          · intro w'
            go_simp
            with_reducible rfl
          rotate_left
          · simp only [Act.put, List.setIfInBounds_toArray, List.set_cons_zero, List.set_cons_succ, i64_w, i32_w]
            rfl
          refine take_ (i := 6) (N := some 81) (v := ?_) (a' := ?_) #[true, true, true, true, true, true, true, false, false, false, false] rfl rfl (by kernel_rfl) (fun _ _ _ h => h) (Or.inl ⟨by rfl, ?_⟩) hHeld ?_ ?_
          rotate_left
          · rintro w' hS
            have y0 := (hS.2.cell (World.block_lt_of_cell? _ _ b0)).trans b0
            have y1 := (hS.2.cell (World.block_lt_of_cell? _ _ b1)).trans b1
            have y2 := (hS.2.cell (World.block_lt_of_cell? _ _ b2)).trans b2
            have y3 := (hS.2.cell (World.block_lt_of_cell? _ _ b3)).trans b3
            have y4 := (hS.2.cell (World.block_lt_of_cell? _ _ b4)).trans b4
            have y5 := (hS.2.cell (World.block_lt_of_cell? _ _ b5)).trans b5
            have y6 := (hS.2.cell (World.block_lt_of_cell? _ _ b6)).trans b6
            have y7 := (hS.2.cell (World.block_lt_of_cell? _ _ b7)).trans b7
            go_simp
            with_reducible rfl
          rotate_left
          · simp only [Act.put, List.setIfInBounds_toArray, List.set_cons_zero, List.set_cons_succ, i64_w, i32_w]
            rfl
          refine one_ (i := 7) (N := some 82) #[true, true, true, true, true, true, true, true, false, false, false] rfl rfl (by kernel_rfl) (by decide) (fun K hK => ?_)
          refine value_ (w1 := ?_) (v := ?_) (by rfl) rfl ?_ ?_
          rotate_left 2
          · go_simp
            constructor
            · rfl
            · rfl
          refine hK.out _ _ ⟨blk_below HNq.out (below_alloc (Below.refl _ _) _), below_alloc HBq.out _⟩ (fun hHeld => ?_)
          clear hK K
          refine norm_ (a' := ?_) ?_ ?_
          rotate_left
          · show Act.put _ (some 82) _ = _
            simp only [Act.put, List.setIfInBounds_toArray, List.set_cons_zero, List.set_cons_succ, i64_w, i32_w]
            rfl
          refine one_ (i := 8) (N := some 83) #[true, true, true, true, true, true, true, true, true, false, false] rfl rfl (by kernel_rfl) (by decide) (fun K hK => ?_)
          refine Kd.R_append_step kO (w0 := w3) w3.heap.size (by rfl) (.tmp 76) (.tmp 82) 24 40 (.agg #[.int .i64 0, .bool false, .bool false, .int .i64 0, .int .i64 0, .int .i64 0, .int .i64 0, .int .i64 0]) 56 rfl Try.underlying24 infoO rfl (by decide) (by decide) (.slice A6 L6 c6) (acc ++ [o]) q [.int .i64 q.f0, .bool q.f1, .bool q.f2, .int .i64 q.f3, .int .i64 q.f4, .int .i64 q.f5, .int .i64 q.f6, .int .i64 q.f7] (fun k => w3.heap.size < k) (fun _ => False) rfl rfl (k40_mkM _ _ _ q) (fun _ hk => hk.elim) (fun k hk => by have := blk_lt HNq.out; omega) HOq.out HBq.out HBq.out.size ?aL ?_
          (case aL => have h1 := congrArg List.length HE2.out; rw [List.length_append, List.length_append, insA_len] at h1; have := HL64.out; simp only [List.length_cons, List.length_nil] at h1; omega)
          intro v83 w83 ho hb hg hat
          obtain ⟨A83, c83, rfl⟩ := Kd.R_slice ho
          obtain ⟨L83, hL83⟩ : ∃ L83, L83 = (acc ++ [o] ++ [q]).length := ⟨_, rfl⟩
          rw [← hL83] at ho ⊢
          clear hL83
          have HO83 := Lib.hid ho
          have HB83 := Lib.hid hb
          have HN83 := Lib.hid (blk_grown HNq.out hg (Kd.R_away HOq.out (fun k hk => Nat.ne_of_gt hk)))
          clear ho hb hg hat HNq HOq HBq
          refine hK.out _ _ ⟨HN83.out, HB83.out⟩ (fun hHeld => ?_)
          clear hK K
          refine norm_ (a' := ?_) ?_ ?_
          rotate_left
          · show Act.put _ (some 83) _ = _
            simp only [Act.put, List.setIfInBounds_toArray, List.set_cons_zero, List.set_cons_succ, i64_w, i32_w]
            rfl
          refine pure_ (i := 9) (N := some 84) (v := ?_) (a' := ?_) #[true, true, true, true, true, true, true, true, true, true, false] rfl rfl (by kernel_rfl) (fun _ _ _ h => h) (Or.inl ⟨by rfl, ?_⟩) ?_ ?_
          rotate_left
          · intro w'
            go_simp
            with_reducible rfl
          rotate_left
          · simp only [Act.put, List.setIfInBounds_toArray, List.set_cons_zero, List.set_cons_succ, i64_w, i32_w]
            rfl
          refine last_ (i := 10) (N := none) #[true, true, true, true, true, true, true, true, true, true, true] rfl rfl (by kernel_rfl) (by decide) (fun K hK => ?_)
          have n5c := blk_cell HN83.out 5
          have n5f := blk_frozen HN83.out 5
          refine skip_ (w1 := w83.setCell ⟨w3.heap.size, 5, none⟩ (.slice A83 L83 c83)) (by rfl) rfl (by first | (go_simp; done) | (go_simp; rfl)) ?_
          refine hK.out _ _ ?_
          clear hK K
          refine done_ (by kernel_rfl) ?_
          have HN84 := Lib.hid (blk_set HN83.out 5 (.slice A83 L83 c83))
          have HO84 := Lib.hid (Kd.R_grown HO83.out (grown_set w83 w3.heap.size 5 (.slice A83 L83 c83)) (fun k hk e => Nat.ne_of_gt hk (Option.some.inj e)))
          have HB84 := Lib.hid (HB83.out.setCell (p := ⟨w3.heap.size, 5, none⟩) (Nat.le_refl _) (.slice A83 L83 c83))
          clear HN83 HO83 HB83
          go_wp2_with fail
          go_roundw
          case rel => exact ⟨n + 1, true, acc ++ [o] ++ [q], .slice A83 L83 c83, rfl, by go_num, Lib.hid HNI.out, HE2, HN84, HO84, HB84⟩
          case measure => have := HNI.out; simp only [intOf]; omega
        · have hgB : decide (o.f0 < q.f0) = false := decide_eq_false hgt
          have HE2 : Hid (acc ++ [q] ++ restA o false (l.drop (n + 1)) = insA o l) := Lib.hid (by have h2 := HE.out; rw [HDR.out] at h2; rw [← h2]; show _ = acc ++ insA o (q :: l.drop (n + 1)); rw [insA_go hgt, List.append_assoc]; rfl)
          clear hgt
          go_wp2_with fail
          go_quiet (fail)
          have HNp := Lib.hid (blk_below HN.out (pw_below_drewN (Below.refl _ _) nq))
          have HOp := Lib.hid (Kd.R_below HO.out (pw_below_drewN (Below.refl _ _) nq))
          have HBp := Lib.hid (pw_below_drewN HB.out nq)
          obtain ⟨wp, hwp⟩ : ∃ wp, wp = wr.drewN nq := ⟨_, rfl⟩
          rw [← hwp] at HNp HOp HBp ⊢
          clear hwp HN HO HB
          clear c1 y0
          go_wp2_with fail
          have HNq := Lib.hid (blk_below HNp.out (below_drew (Below.refl _ _)))
          have HOq := Lib.hid (Kd.R_below HOp.out (below_drew (Below.refl _ _)))
          have HBq := Lib.hid (below_drew HBp.out)
          refine start_ (n := 11) (S := fun w' => w'.heap[w3.heap.size]? = some (.cells #[.int .i64 (ep + 1), .int .i64 k, .int .i64 m, .int .i64 p, .int .i64 d, v] 26 (0, 0)) ∧ Below w3.heap.size w3 w') (ds := [10]) #[false, false, false, false, false, false, false, false, false, false, false] (by kernel_rfl) rfl rfl ⟨HNq.out, HBq.out⟩ (fun hHeld => ?_)
          generalize wp.drew = wd at HNq HOq HBq hHeld ⊢
          refine pure_ (i := 0) (N := some 75) (v := ?_) (a' := ?_) #[true, false, false, false, false, false, false, false, false, false, false] rfl rfl (by kernel_rfl) (fun _ _ _ h => h) (Or.inl ⟨by rfl, ?_⟩) ?_ ?_
          rotate_left
          · intro w'
            go_simp
            with_reducible rfl
          rotate_left
          · simp only [Act.put, List.setIfInBounds_toArray, List.set_cons_zero, List.set_cons_succ, i64_w, i32_w]
            rfl
          refine pure_ (i := 2) (N := some 77) (v := ?_) (a' := ?_) #[true, false, true, false, false, false, false, false, false, false, false] rfl rfl (by kernel_rfl) (fun _ _ _ h => h) (Or.inl ⟨by rfl, ?_⟩) ?_ ?_
          rotate_left
          · intro w'
            go_simp
            with_reducible rfl
          rotate_left
          · simp only [Act.put, List.setIfInBounds_toArray, List.set_cons_zero, List.set_cons_succ, i64_w, i32_w]
            rfl
          refine pure_ (i := 4) (N := some 79) (v := ?_) (a' := ?_) #[true, false, true, false, true, false, false, false, false, false, false] rfl rfl (by kernel_rfl) (fun _ _ _ h => h) (Or.inl ⟨by rfl, ?_⟩) ?_ ?_
          rotate_left
          · intro w'
            go_simp
            with_reducible rfl
          rotate_left
          · simp only [Act.put, List.setIfInBounds_toArray, List.set_cons_zero, List.set_cons_succ, i64_w, i32_w]
            rfl
          refine take_ (i := 1) (N := some 76) (v := ?_) (a' := ?_) #[true, true, true, false, true, false, false, false, false, false, false] rfl rfl (by kernel_rfl) (fun _ _ _ h => h) (Or.inl ⟨by rfl, ?_⟩) hHeld ?_ ?_
          rotate_left
          · rintro w' hS
            have n5 := blk_cell hS.1 5
            go_simp
            with_reducible rfl
          rotate_left
          · simp only [Act.put, List.setIfInBounds_toArray, List.set_cons_zero, List.set_cons_succ, i64_w, i32_w]
            rfl
          refine take_ (i := 3) (N := some 78) (v := ?_) (a' := ?_) #[true, true, true, true, true, false, false, false, false, false, false] rfl rfl (by kernel_rfl) (fun _ _ _ h => h) (Or.inl ⟨by rfl, ?_⟩) hHeld ?_ ?_
          rotate_left
          · rintro w' hS
            have m5 := blk_cell (blk_below HMx.out hS.2) 5
            go_simp
            with_reducible rfl
          rotate_left
          · simp only [Act.put, List.setIfInBounds_toArray, List.set_cons_zero, List.set_cons_succ, i64_w, i32_w]
            rfl
          refine pure_ (i := 5) (N := some 80) (v := ?_) (a' := ?_) #[true, true, true, true, true, true, false, false, false, false, false] rfl rfl (by kernel_rfl) (fun _ _ _ h => h) (Or.inl ⟨by rfl, ?_⟩) ?_ ?_
          rotate_left
          · intro w'
            go_simp
            with_reducible rfl
          rotate_left
          · simp only [Act.put, List.setIfInBounds_toArray, List.set_cons_zero, List.set_cons_succ, i64_w, i32_w]
            rfl
          refine take_ (i := 6) (N := some 81) (v := ?_) (a' := ?_) #[true, true, true, true, true, true, true, false, false, false, false] rfl rfl (by kernel_rfl) (fun _ _ _ h => h) (Or.inl ⟨by rfl, ?_⟩) hHeld ?_ ?_
          rotate_left
          · rintro w' hS
            have y0 := (hS.2.cell (World.block_lt_of_cell? _ _ b0)).trans b0
            have y1 := (hS.2.cell (World.block_lt_of_cell? _ _ b1)).trans b1
            have y2 := (hS.2.cell (World.block_lt_of_cell? _ _ b2)).trans b2
            have y3 := (hS.2.cell (World.block_lt_of_cell? _ _ b3)).trans b3
            have y4 := (hS.2.cell (World.block_lt_of_cell? _ _ b4)).trans b4
            have y5 := (hS.2.cell (World.block_lt_of_cell? _ _ b5)).trans b5
            have y6 := (hS.2.cell (World.block_lt_of_cell? _ _ b6)).trans b6
            have y7 := (hS.2.cell (World.block_lt_of_cell? _ _ b7)).trans b7
            go_simp
            with_reducible rfl
          rotate_left
          · simp only [Act.put, List.setIfInBounds_toArray, List.set_cons_zero, List.set_cons_succ, i64_w, i32_w]
            rfl
          refine one_ (i := 7) (N := some 82) #[true, true, true, true, true, true, true, true, false, false, false] rfl rfl (by kernel_rfl) (by decide) (fun K hK => ?_)
          refine value_ (w1 := ?_) (v := ?_) (by rfl) rfl ?_ ?_
          rotate_left 2
          · go_simp
            constructor
            · rfl
            · rfl
          refine hK.out _ _ ⟨blk_below HNq.out (below_alloc (Below.refl _ _) _), below_alloc HBq.out _⟩ (fun hHeld => ?_)
          clear hK K
          refine norm_ (a' := ?_) ?_ ?_
          rotate_left
          · show Act.put _ (some 82) _ = _
            simp only [Act.put, List.setIfInBounds_toArray, List.set_cons_zero, List.set_cons_succ, i64_w, i32_w]
            rfl
          refine one_ (i := 8) (N := some 83) #[true, true, true, true, true, true, true, true, true, false, false] rfl rfl (by kernel_rfl) (by decide) (fun K hK => ?_)
          refine Kd.R_append_step kO (w0 := w3) w3.heap.size (by rfl) (.tmp 76) (.tmp 82) 24 40 (.agg #[.int .i64 0, .bool false, .bool false, .int .i64 0, .int .i64 0, .int .i64 0, .int .i64 0, .int .i64 0]) 56 rfl Try.underlying24 infoO rfl (by decide) (by decide) v (acc) q [.int .i64 q.f0, .bool q.f1, .bool q.f2, .int .i64 q.f3, .int .i64 q.f4, .int .i64 q.f5, .int .i64 q.f6, .int .i64 q.f7] (fun k => w3.heap.size < k) (fun _ => False) rfl rfl (k40_mkM _ _ _ q) (fun _ hk => hk.elim) (fun k hk => by have := blk_lt HNq.out; omega) HOq.out HBq.out HBq.out.size ?aL ?_
          (case aL => have h1 := congrArg List.length HE.out; rw [List.length_append, insA_len] at h1; have := HL64.out; have h3 : 0 < (restA o false (l.drop n)).length := (by rw [HDR.out]; unfold restA; rw [if_neg (by decide), insA_len]; omega); omega)
          intro v83 w83 ho hb hg hat
          obtain ⟨A83, c83, rfl⟩ := Kd.R_slice ho
          obtain ⟨L83, hL83⟩ : ∃ L83, L83 = (acc ++ [q]).length := ⟨_, rfl⟩
          rw [← hL83] at ho ⊢
          clear hL83
          have HO83 := Lib.hid ho
          have HB83 := Lib.hid hb
          have HN83 := Lib.hid (blk_grown HNq.out hg (Kd.R_away HOq.out (fun k hk => Nat.ne_of_gt hk)))
          clear ho hb hg hat HNq HOq HBq
          refine hK.out _ _ ⟨HN83.out, HB83.out⟩ (fun hHeld => ?_)
          clear hK K
          refine norm_ (a' := ?_) ?_ ?_
          rotate_left
          · show Act.put _ (some 83) _ = _
            simp only [Act.put, List.setIfInBounds_toArray, List.set_cons_zero, List.set_cons_succ, i64_w, i32_w]
            rfl
          refine pure_ (i := 9) (N := some 84) (v := ?_) (a' := ?_) #[true, true, true, true, true, true, true, true, true, true, false] rfl rfl (by kernel_rfl) (fun _ _ _ h => h) (Or.inl ⟨by rfl, ?_⟩) ?_ ?_
          rotate_left
          · intro w'
            go_simp
            with_reducible rfl
          rotate_left
          · simp only [Act.put, List.setIfInBounds_toArray, List.set_cons_zero, List.set_cons_succ, i64_w, i32_w]
            rfl
          refine last_ (i := 10) (N := none) #[true, true, true, true, true, true, true, true, true, true, true] rfl rfl (by kernel_rfl) (by decide) (fun K hK => ?_)
          have n5c := blk_cell HN83.out 5
          have n5f := blk_frozen HN83.out 5
          refine skip_ (w1 := w83.setCell ⟨w3.heap.size, 5, none⟩ (.slice A83 L83 c83)) (by rfl) rfl (by first | (go_simp; done) | (go_simp; rfl)) ?_
          refine hK.out _ _ ?_
          clear hK K
          refine done_ (by kernel_rfl) ?_
          have HN84 := Lib.hid (blk_set HN83.out 5 (.slice A83 L83 c83))
          have HO84 := Lib.hid (Kd.R_grown HO83.out (grown_set w83 w3.heap.size 5 (.slice A83 L83 c83)) (fun k hk e => Nat.ne_of_gt hk (Option.some.inj e)))
          have HB84 := Lib.hid (HB83.out.setCell (p := ⟨w3.heap.size, 5, none⟩) (Nat.le_refl _) (.slice A83 L83 c83))
          clear HN83 HO83 HB83
          go_wp2_with fail
          go_roundw
          case rel => exact ⟨n + 1, false, acc ++ [q], .slice A83 L83 c83, rfl, by go_num, Lib.hid HNI.out, HE2, HN84, HO84, HB84⟩
          case measure => have := HNI.out; simp only [intOf]; omega
    · obtain rfl : n = l.length := by omega
      have hlt : decide (l.length < l.length) = false := decide_eq_false (by omega)
      have hltI : decide ((l.length : Int) < (l.length : Int)) = false := decide_eq_false (by omega)
      have HAN3 : Hid (ans = if mayB (ep + 1) k m p d (insA o l) = true then (0, insA o l) else (1, [])) := Lib.hid (by rw [HAN.out, HFN.out]; simp only [Option.isSome_none, Bool.false_eq_true, if_false]; rw [if_neg (Nat.not_le_of_lt HL64.out)])
      have n0 := blk_cell HN.out 0
      have n1 := blk_cell HN.out 1
      have n2 := blk_cell HN.out 2
      have n3 := blk_cell HN.out 3
      have n4 := blk_cell HN.out 4
      clear h hn HAN HFN
      cases dn with
      | true =>
        have HACC : Hid (acc = insA o l) := Lib.hid (by have := HE.out; rw [List.drop_length] at this; rw [← this]; exact (List.append_nil acc).symm)
        obtain ⟨A6, c6, rfl⟩ := Kd.R_slice HO.out
        obtain ⟨L6, hL6⟩ : ∃ L6, L6 = acc.length := ⟨_, rfl⟩
        rw [← hL6] at HN HO
        clear hL6
        have n5 := blk_cell HN.out 5
        have hrc := Kd.R_reads' HO.out
        have HLL := Lib.hid hrc.1
        have TM2 := Lib.hid (may_calls (ep + 1) k m p d A6 c6 (acc) wr hrc.2.2 (by have := hrc.1; have := hrc.2.1; omega))
        obtain ⟨mb, hmb⟩ : ∃ mb, mb = mayB (ep + 1) k m p d (acc) := ⟨_, rfl⟩
        rw [← hmb] at TM2
        unfold boxM at TM2
        rw [← HLL.out] at TM2
        have HAN4 : Hid (ans = if mb = true then (0, acc) else (1, [])) := Lib.hid (by rw [hmb, HACC.out]; exact HAN3.out)
        clear hmb hrc
        go_wp2_with fail
        clear n0 n1 n2 n3 n4 n5 m5
        refine TM2.out.mono ?_
        rintro e w8 ⟨rfl, hb⟩
        have HN8 := Lib.hid (blk_below HN.out hb)
        have HO8 := Lib.hid (Kd.R_below HO.out hb)
        have HB8 := Lib.hid (below_then HB.out HB.out.size hb)
        have HR8 := Lib.hid (blk_below HRx.out HB8.out)
        have HBw8 := Lib.hid (below_then HBx.out HBx.out.size HB8.out)
        clear hb TM2
        cases mb with
        | false =>
          have r0 := blk_cell HR8.out 0
          have r1 := blk_cell HR8.out 1
          have r2 := blk_cell HR8.out 2
          have r3 := blk_cell HR8.out 3
          have r4 := blk_cell HR8.out 4
          have r5 := blk_cell HR8.out 5
          have f0 := blk_frozen HR8.out 0
          have f1 := blk_frozen HR8.out 1
          have f2 := blk_frozen HR8.out 2
          have f3 := blk_frozen HR8.out 3
          have f4 := blk_frozen HR8.out 4
          have f5 := blk_frozen HR8.out 5
          have HF := Lib.hid (put6_blk HR8.out (.int .i64 0) (.int .i64 0) (.int .i64 0) (.int .i64 0) (.int .i64 0) (.slice none 0 0))
          have HBF := Lib.hid (put6_below HBw8.out (show w.heap.size ≤ w.heap.size + 2 by omega) (.int .i64 0) (.int .i64 0) (.int .i64 0) (.int .i64 0) (.int .i64 0) (.slice none 0 0))
          obtain ⟨wf, hwf⟩ : ∃ wf, wf = put6 w8 (w.heap.size + 2) (.int .i64 0) (.int .i64 0) (.int .i64 0) (.int .i64 0) (.int .i64 0) (.slice none 0 0) := ⟨_, rfl⟩
          rw [← hwf] at HF HBF
          simp only [put6] at hwf
          go_wp2_with fail
          rw [← hwf]
          clear hwf
          clear r0 r1 r2 r3 r4 r5 f0 f1 f2 f3 f4 f5
          refine bodyPost_ret (results_ct rfl _ _ (w.heap.size + 2) 26 zM (0, 0) _ rfl HF.out Try.underlying26 rfl (by kernel_rfl)) rfl ?_
          exact ⟨_, [], by exact HAN4.out, HBF.out, .inl ⟨by decide, rfl⟩⟩
        | true =>
          have n0 := blk_cell HN8.out 0
          have n1 := blk_cell HN8.out 1
          have n2 := blk_cell HN8.out 2
          have n3 := blk_cell HN8.out 3
          have n4 := blk_cell HN8.out 4
          have n5 := blk_cell HN8.out 5
          have r0 := blk_cell HR8.out 0
          have f0 := blk_frozen HR8.out 0
          have r1 := blk_cell HR8.out 1
          have f1 := blk_frozen HR8.out 1
          have r2 := blk_cell HR8.out 2
          have f2 := blk_frozen HR8.out 2
          have r3 := blk_cell HR8.out 3
          have f3 := blk_frozen HR8.out 3
          have r4 := blk_cell HR8.out 4
          have f4 := blk_frozen HR8.out 4
          have r5 := blk_cell HR8.out 5
          have f5 := blk_frozen HR8.out 5
          have HF := Lib.hid (put6_blk HR8.out (.int .i64 (ep + 1)) (.int .i64 k) (.int .i64 m) (.int .i64 p) (.int .i64 d) (.slice A6 L6 c6))
          have HBF := Lib.hid (put6_below HBw8.out (show w.heap.size ≤ w.heap.size + 2 by omega) (.int .i64 (ep + 1)) (.int .i64 k) (.int .i64 m) (.int .i64 p) (.int .i64 d) (.slice A6 L6 c6))
          have HOF := Lib.hid (R_put6 HO8.out (fun k hk => show k ≠ w.heap.size + 2 by have := HSx.out; omega) (.int .i64 (ep + 1)) (.int .i64 k) (.int .i64 m) (.int .i64 p) (.int .i64 d) (.slice A6 L6 c6))
          obtain ⟨wf, hwf⟩ : ∃ wf, wf = put6 w8 (w.heap.size + 2) (.int .i64 (ep + 1)) (.int .i64 k) (.int .i64 m) (.int .i64 p) (.int .i64 d) (.slice A6 L6 c6) := ⟨_, rfl⟩
          rw [← hwf] at HF HBF HOF
          simp only [put6] at hwf
          go_wp2_with fail
          rw [← hwf]
          clear hwf r0 r1 r2 r3 r4 r5 f0 f1 f2 f3 f4 f5 n0 n1 n2 n3 n4 n5
          refine bodyPost_ret (results_ct rfl _ _ (w.heap.size + 2) 26 #[.int .i64 (ep + 1), .int .i64 k, .int .i64 m, .int .i64 p, .int .i64 d, .slice A6 L6 c6] (0, 0) _ rfl HF.out Try.underlying26 rfl (by kernel_rfl)) rfl ?_
          refine ⟨0, acc, HAN4.out, HBF.out, .inr ⟨rfl, A6, c6, ?_, ?_⟩⟩
          · rw [← HLL.out]
            rfl
          · rw [← HLL.out]
            exact Kd.R_mono (Kd.R_lower HOF.out (by have := HSx.out; omega)) (fun _ _ => trivial)
      | false =>
        have HACC : Hid (acc ++ [o] = insA o l) := Lib.hid (by have := HE.out; rw [List.drop_length] at this; rw [← this]; rfl)
        have HGn := Lib.hid (blk_below HGx.out HB.out)
        have n5 := blk_cell HN.out 5
        have d0 := blk_cell HGn.out 0
        have d1 := blk_cell HGn.out 1
        have d2 := blk_cell HGn.out 2
        have d3 := blk_cell HGn.out 3
        have d4 := blk_cell HGn.out 4
        have d5 := blk_cell HGn.out 5
        have d6 := blk_cell HGn.out 6
        have d7 := blk_cell HGn.out 7
        have d8 := blk_cell HGn.out 8
        go_wp2_with (first | (at_builtin; go_must (refine Kd.R_append kO (w0 := w3) w3.heap.size rfl _ _ 24 40 (.agg #[.int .i64 0, .bool false, .bool false, .int .i64 0, .int .i64 0, .int .i64 0, .int .i64 0, .int .i64 0]) 56 rfl Try.underlying24 infoO rfl (by decide) (by decide) _ _ o [.int .i64 o.f0, .bool o.f1, .bool o.f2, .int .i64 o.f3, .int .i64 o.f4, .int .i64 o.f5, .int .i64 o.f6, .int .i64 o.f7] (fun k => w3.heap.size < k) (fun _ => False) rfl rfl (k40_mkM _ _ _ o) (fun _ hk => hk.elim) (fun k hk => by have := blk_lt HN.out; omega) (by exact HO.out) (by exact HB.out) (by exact HB.out.size) ?hl ?_; (case hl => have h1 := congrArg List.length HACC.out; rw [List.length_append, insA_len] at h1; have := HL64.out; simp only [List.length_cons, List.length_nil] at h1; omega)); intro v6 w6 ho6 hb6 hg6 hat6; obtain ⟨A6, c6, rfl⟩ := Kd.R_slice ho6; obtain ⟨L6, hL6⟩ : ∃ L6, L6 = (acc ++ [o]).length := ⟨_, rfl⟩; rw [← hL6] at ho6 ⊢; clear hL6; have HO6 := Lib.hid ho6; have HB6 := Lib.hid hb6; have HN6 := Lib.hid (blk_grown HN.out hg6 (Kd.R_away HO.out (fun k hk => Nat.ne_of_gt hk))); have q0 := blk_cell HN6.out 0; have q1 := blk_cell HN6.out 1; have q2 := blk_cell HN6.out 2; have q3 := blk_cell HN6.out 3; have q4 := blk_cell HN6.out 4; have n6c := blk_cell HN6.out 5; have n6f := blk_frozen HN6.out 5; clear ho6 hb6 hg6 hat6))
        have HN7 := Lib.hid (blk_set HN6.out 5 (.slice A6 L6 c6))
        have HO7 := Lib.hid (Kd.R_grown HO6.out (grown_set w6 w3.heap.size 5 (.slice A6 L6 c6)) (fun k hk e => Nat.ne_of_gt hk (Option.some.inj e)))
        have HB7 := Lib.hid (HB6.out.setCell (p := ⟨w3.heap.size, 5, none⟩) (Nat.le_refl _) (.slice A6 L6 c6))
        obtain ⟨w7, hw7⟩ : ∃ w7, w7 = w6.setCell ⟨w3.heap.size, 5, none⟩ (.slice A6 L6 c6) := ⟨_, rfl⟩
        rw [← hw7] at HN7 HO7 HB7 ⊢
        clear hw7 n6c n6f HN6 HO6 HB6
        have hrc := Kd.R_reads' HO7.out
        have HLL := Lib.hid hrc.1
        have TM2 := Lib.hid (may_calls (ep + 1) k m p d A6 c6 (acc ++ [o]) w7 hrc.2.2 (by have := hrc.1; have := hrc.2.1; omega))
        obtain ⟨mb, hmb⟩ : ∃ mb, mb = mayB (ep + 1) k m p d (acc ++ [o]) := ⟨_, rfl⟩
        rw [← hmb] at TM2
        unfold boxM at TM2
        rw [← HLL.out] at TM2
        have HAN4 : Hid (ans = if mb = true then (0, acc ++ [o]) else (1, [])) := Lib.hid (by rw [hmb, HACC.out]; exact HAN3.out)
        clear hmb hrc
        clear q0 q1 q2 q3 q4 n0 n1 n2 n3 n4 n5 m5 d0 d1 d2 d3 d4 d5 d6 d7 d8
        refine TM2.out.mono ?_
        rintro e w8 ⟨rfl, hb⟩
        have HN8 := Lib.hid (blk_below HN7.out hb)
        have HO8 := Lib.hid (Kd.R_below HO7.out hb)
        have HB8 := Lib.hid (below_then HB7.out HB7.out.size hb)
        have HR8 := Lib.hid (blk_below HRx.out HB8.out)
        have HBw8 := Lib.hid (below_then HBx.out HBx.out.size HB8.out)
        clear hb TM2
        cases mb with
        | false =>
          have r0 := blk_cell HR8.out 0
          have r1 := blk_cell HR8.out 1
          have r2 := blk_cell HR8.out 2
          have r3 := blk_cell HR8.out 3
          have r4 := blk_cell HR8.out 4
          have r5 := blk_cell HR8.out 5
          have f0 := blk_frozen HR8.out 0
          have f1 := blk_frozen HR8.out 1
          have f2 := blk_frozen HR8.out 2
          have f3 := blk_frozen HR8.out 3
          have f4 := blk_frozen HR8.out 4
          have f5 := blk_frozen HR8.out 5
          have HF := Lib.hid (put6_blk HR8.out (.int .i64 0) (.int .i64 0) (.int .i64 0) (.int .i64 0) (.int .i64 0) (.slice none 0 0))
          have HBF := Lib.hid (put6_below HBw8.out (show w.heap.size ≤ w.heap.size + 2 by omega) (.int .i64 0) (.int .i64 0) (.int .i64 0) (.int .i64 0) (.int .i64 0) (.slice none 0 0))
          obtain ⟨wf, hwf⟩ : ∃ wf, wf = put6 w8 (w.heap.size + 2) (.int .i64 0) (.int .i64 0) (.int .i64 0) (.int .i64 0) (.int .i64 0) (.slice none 0 0) := ⟨_, rfl⟩
          rw [← hwf] at HF HBF
          simp only [put6] at hwf
          go_wp2_with fail
          rw [← hwf]
          clear hwf
          clear r0 r1 r2 r3 r4 r5 f0 f1 f2 f3 f4 f5
          refine bodyPost_ret (results_ct rfl _ _ (w.heap.size + 2) 26 zM (0, 0) _ rfl HF.out Try.underlying26 rfl (by kernel_rfl)) rfl ?_
          exact ⟨_, [], by exact HAN4.out, HBF.out, .inl ⟨by decide, rfl⟩⟩
        | true =>
          have n0 := blk_cell HN8.out 0
          have n1 := blk_cell HN8.out 1
          have n2 := blk_cell HN8.out 2
          have n3 := blk_cell HN8.out 3
          have n4 := blk_cell HN8.out 4
          have n5 := blk_cell HN8.out 5
          have r0 := blk_cell HR8.out 0
          have f0 := blk_frozen HR8.out 0
          have r1 := blk_cell HR8.out 1
          have f1 := blk_frozen HR8.out 1
          have r2 := blk_cell HR8.out 2
          have f2 := blk_frozen HR8.out 2
          have r3 := blk_cell HR8.out 3
          have f3 := blk_frozen HR8.out 3
          have r4 := blk_cell HR8.out 4
          have f4 := blk_frozen HR8.out 4
          have r5 := blk_cell HR8.out 5
          have f5 := blk_frozen HR8.out 5
          have HF := Lib.hid (put6_blk HR8.out (.int .i64 (ep + 1)) (.int .i64 k) (.int .i64 m) (.int .i64 p) (.int .i64 d) (.slice A6 L6 c6))
          have HBF := Lib.hid (put6_below HBw8.out (show w.heap.size ≤ w.heap.size + 2 by omega) (.int .i64 (ep + 1)) (.int .i64 k) (.int .i64 m) (.int .i64 p) (.int .i64 d) (.slice A6 L6 c6))
          have HOF := Lib.hid (R_put6 HO8.out (fun k hk => show k ≠ w.heap.size + 2 by have := HSx.out; omega) (.int .i64 (ep + 1)) (.int .i64 k) (.int .i64 m) (.int .i64 p) (.int .i64 d) (.slice A6 L6 c6))
          obtain ⟨wf, hwf⟩ : ∃ wf, wf = put6 w8 (w.heap.size + 2) (.int .i64 (ep + 1)) (.int .i64 k) (.int .i64 m) (.int .i64 p) (.int .i64 d) (.slice A6 L6 c6) := ⟨_, rfl⟩
          rw [← hwf] at HF HBF HOF
          simp only [put6] at hwf
          go_wp2_with fail
          rw [← hwf]
          clear hwf r0 r1 r2 r3 r4 r5 f0 f1 f2 f3 f4 f5 n0 n1 n2 n3 n4 n5
          refine bodyPost_ret (results_ct rfl _ _ (w.heap.size + 2) 26 #[.int .i64 (ep + 1), .int .i64 k, .int .i64 m, .int .i64 p, .int .i64 d, .slice A6 L6 c6] (0, 0) _ rfl HF.out Try.underlying26 rfl (by kernel_rfl)) rfl ?_
          refine ⟨0, acc ++ [o], HAN4.out, HBF.out, .inr ⟨rfl, A6, c6, ?_, ?_⟩⟩
          · rw [← HLL.out]
            rfl
          · rw [← HLL.out]
            exact Kd.R_mono (Kd.R_lower HOF.out (by have := HSx.out; omega)) (fun _ _ => trivial)

end Go.Proofs.Ytnpphmgibgfjoaa.ApY
/- CrushUps: the walk. -/
namespace Go.Proofs.Ytnpphmgibgfjoaa.Ups
open Go Go.RowKit Go.Proofs.YtnpphmgibgfjoaaW.PrintWords Go.Proofs.YtnpphmgibgfjoaaW.PrintMore Mem PAll KW MixP MixW StrP StrW AtA Srt Grp Sl Dsc AtB Roo Rep Cho MayP Awk UpsP
open CrP hiding Od
theorem row_cells {w : World} {base g n cap i : Nat} {ok : Nat → Prop} {xs : List Od} {o : Od} (h : kO.R 40 w base ok (.slice (some ⟨g, 0, none⟩) n cap) xs) (ho : xs[i]? = some o) :
    ∀ (jj : Nat) u, [Value.int .i64 o.f0, .bool o.f1, .bool o.f2, .int .i64 o.f3, .int .i64 o.f4, .int .i64 o.f5, .int .i64 o.f6, .int .i64 o.f7][jj]? = some u → w.cell? ⟨g, (i : Int).toNat * kO.sz + jj, none⟩ = some u := by
  have hi := (List.getElem?_eq_some_iff.1 ho).1
  have hn := (Kd.R_reads' h).1
  obtain ⟨ad2, o2, ho2, hA2, b0, b1, b2, b3, b4, b5, b6, b7⟩ := at_O (Kd.R_reads' h).2.2 i (by omega)
  injection hA2 with hA2
  subst hA2
  obtain rfl : o = o2 := Option.some.inj (ho.symm.trans ho2)
  rw [add_plain] at b0 b1 b2 b3 b4 b5 b6 b7
  intro jj u hu
  rw [show (i : Int).toNat * kO.sz + jj = i * 8 + jj from rfl]
  match jj, hu with
  | 0, hu => obtain rfl := Option.some.inj hu; exact b0
  | 1, hu => obtain rfl := Option.some.inj hu; exact b1
  | 2, hu => obtain rfl := Option.some.inj hu; exact b2
  | 3, hu => obtain rfl := Option.some.inj hu; exact b3
  | 4, hu => obtain rfl := Option.some.inj hu; exact b4
  | 5, hu => obtain rfl := Option.some.inj hu; exact b5
  | 6, hu => obtain rfl := Option.some.inj hu; exact b6
  | 7, hu => obtain rfl := Option.some.inj hu; exact b7
  | jj + 8, hu => cases hu
end Go.Proofs.Ytnpphmgibgfjoaa.Ups
/- The document's Apply: the other changes. -/
set_option linter.unusedSimpArgs false
namespace Go.Proofs.Ytnpphmgibgfjoaa.ApZ
open Go Go.RowKit Go.Proofs.YtnpphmgibgfjoaaW.PrintWords Go.Proofs.YtnpphmgibgfjoaaW.PrintLast Go.Proofs.YtnpphmgibgfjoaaW.PrintMore Mem PAll KW MixP MixW StrP AtA Srt Grp Sl Dsc AtB Roo Cho MayP Awk ApP Fnd McW ApY Ups
open CrP hiding Od
set_option maxHeartbeats 8000000 in
set_option maxRecDepth 100000 in
theorem apply_set (ep k m p d : Int) (A : Option Addr) (c : Nat) (l : List Od) (kd : Int) (o : Od) (w : World) (hx : kO.C w A l.length l) (hcap : l.length ≤ c) (hkd : kd = 2 ∨ kd = 3 ∨ kd = 4 ∨ kd = 5 ∨ kd = 6) (hmay : mayB ep k m p d l = true) (hmc : mayC kd o = true) (hep : (ep == 1048576) = false) (he0 : 0 ≤ ep) (he1 : ep ≤ 1048576) (hl64 : l.length ≤ 64) :
    Calls Try.prog 49 #[.agg (boxM ep k m p d A c l), .agg (chA kd o)] w fun e w' => ∃ (er : Int) (l' : List Od), ((findO l o.f0 = none ∧ er = 4) ∨ ∃ (j : Nat) (q : Od), l[j]? = some q ∧ findO l o.f0 = some q ∧ ((eqO (chg kd q o) q = true ∧ er = 6) ∨ (eqO (chg kd q o) q = false ∧ er = 0 ∧ l' = l.set j (chg kd q o)))) ∧ Below w.heap.size w w' ∧ ((er ≠ 0 ∧ e = .returned (.tuple #[.agg zM, .int .i64 er])) ∨ (er = 0 ∧ ∃ (A' : Option Addr) (c' : Nat), e = .returned (.tuple #[.agg (boxM (ep + 1) k m p d A' c' l'), .int .i64 0]) ∧ kO.R 40 w' w.heap.size (fun _ => True) (.slice A' l'.length c') l')) := by
  have hs1 : (w.alloc (.cells (boxM ep k m p d A c l) 26)).heap.size = w.heap.size + 1 := by simp only [World.alloc, Array.size_push]
  have hs2 : ((w.alloc (.cells (boxM ep k m p d A c l) 26)).alloc (.cells (chA kd o) 88)).heap.size = w.heap.size + 2 := by simp only [World.alloc, Array.size_push]
  have hs3 : (((w.alloc (.cells (boxM ep k m p d A c l) 26)).alloc (.cells (chA kd o) 88)).alloc (.cells zM 26)).heap.size = w.heap.size + 3 := by simp only [World.alloc, Array.size_push]
  have HM1 : Hid ((((w.alloc (.cells (boxM ep k m p d A c l) 26)).alloc (.cells (chA kd o) 88)).alloc (.cells zM 26)).heap[w.heap.size]? = some (.cells (boxM ep k m p d A c l) 26 (0, 0))) := Lib.hid (blk_below (blk_new _ _) (below_alloc (below_alloc (Below.refl _ _) _) _))
  have HG1 : Hid ((((w.alloc (.cells (boxM ep k m p d A c l) 26)).alloc (.cells (chA kd o) 88)).alloc (.cells zM 26)).heap[w.heap.size + 1]? = some (.cells (chA kd o) 88 (0, 0))) := Lib.hid (by
    have h := blk_new (w.alloc (.cells (boxM ep k m p d A c l) 26)) (.cells (chA kd o) 88)
    rw [hs1] at h
    exact blk_below h (below_alloc (Below.refl _ _) _))
  have HR1 : Hid ((((w.alloc (.cells (boxM ep k m p d A c l) 26)).alloc (.cells (chA kd o) 88)).alloc (.cells zM 26)).heap[w.heap.size + 2]? = some (.cells zM 26 (0, 0))) := Lib.hid (by
    have h := blk_new ((w.alloc (.cells (boxM ep k m p d A c l) 26)).alloc (.cells (chA kd o) 88)) (.cells zM 26)
    rw [hs2] at h
    exact h)
  have HB1 := Lib.hid (below_alloc (below_alloc (below_alloc (Below.refl w.heap.size w) (.cells (boxM ep k m p d A c l) 26)) (.cells (chA kd o) 88)) (.cells zM 26))
  have HC1 := Lib.hid (Kd.C_below hx HB1.out)
  obtain ⟨w1, hw1⟩ : ∃ w1, w1 = (((w.alloc (.cells (boxM ep k m p d A c l) 26)).alloc (.cells (chA kd o) 88)).alloc (.cells zM 26)) := ⟨_, rfl⟩
  have HWN := Lib.hid hw1
  rw [← hw1] at HM1 HG1 HR1 HB1 HC1 hs3
  have HSZ := Lib.hid hs3
  have TC := Lib.hid (fun w1 => mayChange_calls kd o w1)
  have TM := Lib.hid (may_calls ep k m p d A c l w1 HC1.out hcap)
  rw [hmay] at TM
  rw [hmc] at TC
  have HCP := Lib.hid hcap
  have HL64 := Lib.hid hl64
  have HKD := Lib.hid hkd
  have hk1 : (kd == 1) = false := by
    rcases hkd with rfl | rfl | rfl | rfl | rfl <;> rfl
  clear hx hcap hmay hmc hw1 hs1 hs2 hs3 hl64 hkd
  unfold boxM chA at *
  go_enter Try.func49, Try.ntmps49
  go_wp2_with fail
  rw [← HWN.out]
  refine TM.out.mono ?_
  rintro e w2 ⟨rfl, hb⟩
  have HB2 := Lib.hid (below_then HB1.out HB1.out.size hb)
  have HM2 := Lib.hid (blk_below HM1.out hb)
  have HG2 := Lib.hid (blk_below HG1.out hb)
  have HR2 := Lib.hid (blk_below HR1.out hb)
  have HC2 := Lib.hid (Kd.C_below HC1.out hb)
  have HS2 : Hid (w.heap.size + 3 ≤ w2.heap.size) := Lib.hid (by have := hb.size; have := HSZ.out; omega)
  clear hb TM HB1 HM1 HG1 HR1 HC1 HWN HSZ
  have c0 := blk_cell HG2.out 0
  have c1 := blk_cell HG2.out 1
  have c2 := blk_cell HG2.out 2
  have c3 := blk_cell HG2.out 3
  have c4 := blk_cell HG2.out 4
  have c5 := blk_cell HG2.out 5
  have c6 := blk_cell HG2.out 6
  have c7 := blk_cell HG2.out 7
  have c8 := blk_cell HG2.out 8
  go_wp2_with fail
  refine (TC.out _).mono ?_
  rintro e w2' ⟨rfl, hb⟩
  have HB3 := Lib.hid (below_then HB2.out HB2.out.size hb)
  have HM3 := Lib.hid (blk_below HM2.out hb)
  have HG3 := Lib.hid (blk_below HG2.out hb)
  have HR3 := Lib.hid (blk_below HR2.out hb)
  have HC3 := Lib.hid (Kd.C_below HC2.out hb)
  have HS3 : Hid (w.heap.size + 3 ≤ w2'.heap.size) := Lib.hid (by have := hb.size; have := HS2.out; omega)
  clear hb HB2 HM2 HG2 HR2 HC2 HS2
  clear c0 c1 c2 c3 c4 c5 c6 c7 c8
  have m0 := blk_cell HM3.out 0
  have m1 := blk_cell HM3.out 1
  have m2 := blk_cell HM3.out 2
  have m3 := blk_cell HM3.out 3
  have m4 := blk_cell HM3.out 4
  have m5 := blk_cell HM3.out 5
  have c0 := blk_cell HG3.out 0
  have c1 := blk_cell HG3.out 1
  have c2 := blk_cell HG3.out 2
  have c3 := blk_cell HG3.out 3
  have c4 := blk_cell HG3.out 4
  have c5 := blk_cell HG3.out 5
  have c6 := blk_cell HG3.out 6
  have c7 := blk_cell HG3.out 7
  have c8 := blk_cell HG3.out 8
  have TP := Lib.hid (place_calls ep k m p d o.f0 A c l w2' HC3.out HCP.out)
  unfold boxM at TP
  go_wp2_with fail
  refine TP.out.mono ?_
  rintro e w3 ⟨z, rfl, hz, hb⟩
  have HZ := Lib.hid hz
  have HBx := Lib.hid (below_then HB3.out HB3.out.size hb)
  have HMx := Lib.hid (blk_below HM3.out hb)
  have HGx := Lib.hid (blk_below HG3.out hb)
  have HRx := Lib.hid (blk_below HR3.out hb)
  have HCx := Lib.hid (Kd.C_below HC3.out hb)
  have HSx : Hid (w.heap.size + 3 ≤ w3.heap.size) := Lib.hid (by have := hb.size; have := HS3.out; omega)
  clear hb hz TP HB3 HM3 HG3 HR3 HC3 HS3
  clear c0 c1 c2 c3 c4 c5 c6 c7 c8
  clear m0 m1 m2 m3 m4 m5
  clear hep
  have HW4 := Lib.hid (below_alloc (Below.refl w3.heap.size w3) (.cells (boxM ep k m p d A c l) 26))
  have HNx : Hid ((w3.alloc (.cells (boxM ep k m p d A c l) 26)).heap[w3.heap.size]? = some (.cells (boxM ep k m p d A c l) 26 (0, 0))) := Lib.hid (blk_new _ _)
  have HN4 : Hid ((w3.alloc (.cells (boxM (ep + 1) k m p d A c l) 26)).heap[w3.heap.size]? = some (.cells (boxM (ep + 1) k m p d A c l) 26 (0, 0))) := Lib.hid (blk_new _ _)
  have HB4 := Lib.hid (below_alloc (Below.refl w3.heap.size w3) (.cells (boxM (ep + 1) k m p d A c l) 26))
  have HMy := Lib.hid (blk_below HMx.out HW4.out)
  obtain ⟨w4, hw4⟩ : ∃ w4, w4 = w3.alloc (.cells (boxM (ep + 1) k m p d A c l) 26) := ⟨_, rfl⟩
  rw [← hw4] at HN4 HB4
  unfold boxM at *
  have m0 := blk_cell HMx.out 0
  have m1 := blk_cell HMx.out 1
  have m2 := blk_cell HMx.out 2
  have m3 := blk_cell HMx.out 3
  have m4 := blk_cell HMx.out 4
  have m5 := blk_cell HMx.out 5
  have m0' := blk_cell HMy.out 0
  have n0 := blk_cell HNx.out 0
  have f0 := blk_frozen HNx.out 0
  go_upto_region 6 with fail
  rw [← hw4]
  clear hw4 HNx HW4 HMy m0' n0 f0
  clear m0 m1 m2 m3 m4 m5
  have HM4 := Lib.hid (blk_below HMx.out HB4.out)
  have HG4 := Lib.hid (blk_below HGx.out HB4.out)
  have HR4 := Lib.hid (blk_below HRx.out HB4.out)
  have HC4 := Lib.hid (Kd.C_below HCx.out HB4.out)
  have HBw4 : Hid (Below w.heap.size w w4) := Lib.hid (below_then HBx.out HBx.out.size HB4.out)
  have HS4 : Hid (w3.heap.size < w4.heap.size) := Lib.hid (blk_lt HN4.out)
  have c0 := blk_cell HG4.out 0
  rcases HZ.out with ⟨rfl, hf⟩ | ⟨j, q, rfl, hj, hf⟩
  · have HF0 := Lib.hid hf
    clear hf
    have r0 := blk_cell HR4.out 0
    have r1 := blk_cell HR4.out 1
    have r2 := blk_cell HR4.out 2
    have r3 := blk_cell HR4.out 3
    have r4 := blk_cell HR4.out 4
    have r5 := blk_cell HR4.out 5
    have f0 := blk_frozen HR4.out 0
    have f1 := blk_frozen HR4.out 1
    have f2 := blk_frozen HR4.out 2
    have f3 := blk_frozen HR4.out 3
    have f4 := blk_frozen HR4.out 4
    have f5 := blk_frozen HR4.out 5
    have HF := Lib.hid (put6_blk HR4.out (.int .i64 0) (.int .i64 0) (.int .i64 0) (.int .i64 0) (.int .i64 0) (.slice none 0 0))
    have HBF := Lib.hid (put6_below HBw4.out (show w.heap.size ≤ w.heap.size + 2 by omega) (.int .i64 0) (.int .i64 0) (.int .i64 0) (.int .i64 0) (.int .i64 0) (.slice none 0 0))
    obtain ⟨wf, hwf⟩ : ∃ wf, wf = put6 w4 (w.heap.size + 2) (.int .i64 0) (.int .i64 0) (.int .i64 0) (.int .i64 0) (.int .i64 0) (.slice none 0 0) := ⟨_, rfl⟩
    rw [← hwf] at HF HBF
    simp only [put6] at hwf
    go_wp2_with fail
    rw [← hwf]
    clear hwf
    clear r0 r1 r2 r3 r4 r5 f0 f1 f2 f3 f4 f5
    refine bodyPost_ret (results_ct rfl _ _ (w.heap.size + 2) 26 zM (0, 0) _ rfl HF.out Try.underlying26 rfl (by kernel_rfl)) rfl ?_
    exact ⟨4, [], .inl ⟨HF0.out, rfl⟩, HBF.out, .inl ⟨by decide, rfl⟩⟩
  have hjl := (List.getElem?_eq_some_iff.1 hj).1
  have HLP : Hid (0 < l.length) := Lib.hid (by omega)
  have HJ := Lib.hid hj
  have HF0 := Lib.hid hf
  have hj0 : decide ((j : Int) < 0) = false := decide_eq_false (by omega)
  have hj1 : (0 : Int) ≤ j := by omega
  have hj2 : (j : Int) < l.length := by omega
  have hlt : decide (j < l.length) = true := decide_eq_true hjl
  have m5 := blk_cell HM4.out 5
  obtain ⟨ad, q', hq', hA, b0, b1, b2, b3, b4, b5, b6, b7⟩ := at_O HC4.out j hjl
  subst hA
  obtain rfl : q' = q := Option.some.inj (hq'.symm.trans hj)
  clear hf hj hq'
  have HQ5 : Hid ((w4.alloc (.cells (aggO q') 40)).heap[w4.heap.size]? = some (.cells (aggO q') 40 (0, 0))) := Lib.hid (blk_new _ _)
  have HB5 := Lib.hid (below_alloc (Below.refl w4.heap.size w4) (.cells (aggO q') 40))
  obtain ⟨q, hqq⟩ : ∃ q, q = q' := ⟨_, rfl⟩
  subst hqq
  obtain ⟨w5, hw5⟩ : ∃ w5, w5 = w4.alloc (.cells (aggO q) 40) := ⟨_, rfl⟩
  rw [← hw5] at HQ5 HB5
  go_upto_region 28 with fail
  rw [← hw5]
  clear hw5 c0 m5 hj0 hk1
  have HG5 := Lib.hid (blk_below HG4.out HB5.out)
  rcases HKD.out with rfl | rfl | rfl | rfl | rfl
  · have ck := blk_cell HG5.out 0
    have gc1 := blk_cell HQ5.out 1
    have gf1 := blk_frozen HQ5.out 1
    have gc2 := blk_cell HQ5.out 2
    have gf2 := blk_frozen HQ5.out 2
    have gc3 := blk_cell HQ5.out 3
    have gf3 := blk_frozen HQ5.out 3
    have gc4 := blk_cell HQ5.out 4
    have gf4 := blk_frozen HQ5.out 4
    have gc5 := blk_cell HQ5.out 5
    have gf5 := blk_frozen HQ5.out 5
    have cc3 := blk_cell HG5.out 4
    have cc4 := blk_cell HG5.out 5
    have cc5 := blk_cell HG5.out 6
    go_upto_region 31 with fail
    clear ck gc1 gc2 gc3 gc4 gc5 gf1 gf2 gf3 gf4 gf5 cc3 cc4 cc5
    have HGq := Lib.hid (blk_below HG5.out (below_drew (Below.refl _ _)))
    have HQq := Lib.hid (blk_below HQ5.out (below_drew (Below.refl _ _)))
    have HBq := Lib.hid (below_drew HB5.out)
    refine start_ (n := 12) (S := fun w' => w'.heap[w.heap.size + 1]? = some (.cells #[.int .i64 2, .int .i64 o.f0, .bool o.f1, .bool o.f2, .int .i64 o.f3, .int .i64 o.f4, .int .i64 o.f5, .int .i64 o.f6, .int .i64 o.f7] 88 (0, 0))) (ds := [11]) #[false, false, false, false, false, false, false, false, false, false, false, false] (by kernel_rfl) rfl rfl HGq.out (fun hHeld => ?_)
    generalize w5.drew = wd at HGq HQq HBq hHeld ⊢
    refine pure_ (i := 0) (N := some 115) (v := ?_) (a' := ?_) #[true, false, false, false, false, false, false, false, false, false, false, false] rfl rfl (by kernel_rfl) (fun _ _ _ h => h) (Or.inl ⟨by rfl, ?_⟩) ?_ ?_
    rotate_left
    · intro w'
      go_simp
      with_reducible rfl
    rotate_left
    · simp only [Act.put, List.setIfInBounds_toArray, List.set_cons_zero, List.set_cons_succ, i64_w, i32_w]
      rfl
    refine pure_ (i := 1) (N := some 116) (v := ?_) (a' := ?_) #[true, true, false, false, false, false, false, false, false, false, false, false] rfl rfl (by kernel_rfl) (fun _ _ _ h => h) (Or.inl ⟨by rfl, ?_⟩) ?_ ?_
    rotate_left
    · intro w'
      go_simp
      with_reducible rfl
    rotate_left
    · simp only [Act.put, List.setIfInBounds_toArray, List.set_cons_zero, List.set_cons_succ, i64_w, i32_w]
      rfl
    refine pure_ (i := 3) (N := some 118) (v := ?_) (a' := ?_) #[true, true, false, true, false, false, false, false, false, false, false, false] rfl rfl (by kernel_rfl) (fun _ _ _ h => h) (Or.inl ⟨by rfl, ?_⟩) ?_ ?_
    rotate_left
    · intro w'
      go_simp
      with_reducible rfl
    rotate_left
    · simp only [Act.put, List.setIfInBounds_toArray, List.set_cons_zero, List.set_cons_succ, i64_w, i32_w]
      rfl
    refine pure_ (i := 4) (N := some 119) (v := ?_) (a' := ?_) #[true, true, false, true, true, false, false, false, false, false, false, false] rfl rfl (by kernel_rfl) (fun _ _ _ h => h) (Or.inl ⟨by rfl, ?_⟩) ?_ ?_
    rotate_left
    · intro w'
      go_simp
      with_reducible rfl
    rotate_left
    · simp only [Act.put, List.setIfInBounds_toArray, List.set_cons_zero, List.set_cons_succ, i64_w, i32_w]
      rfl
    refine pure_ (i := 6) (N := some 121) (v := ?_) (a' := ?_) #[true, true, false, true, true, false, true, false, false, false, false, false] rfl rfl (by kernel_rfl) (fun _ _ _ h => h) (Or.inl ⟨by rfl, ?_⟩) ?_ ?_
    rotate_left
    · intro w'
      go_simp
      with_reducible rfl
    rotate_left
    · simp only [Act.put, List.setIfInBounds_toArray, List.set_cons_zero, List.set_cons_succ, i64_w, i32_w]
      rfl
    refine take_ (i := 2) (N := some 117) (v := ?_) (a' := ?_) #[true, true, true, true, true, false, true, false, false, false, false, false] rfl rfl (by kernel_rfl) (fun _ _ _ h => h) (Or.inl ⟨by rfl, ?_⟩) hHeld ?_ ?_
    rotate_left
    · rintro w' hS
      have y4 := blk_cell hS 5
      go_simp
      with_reducible rfl
    rotate_left
    · simp only [Act.put, List.setIfInBounds_toArray, List.set_cons_zero, List.set_cons_succ, i64_w, i32_w]
      rfl
    refine take_ (i := 5) (N := some 120) (v := ?_) (a' := ?_) #[true, true, true, true, true, true, true, false, false, false, false, false] rfl rfl (by kernel_rfl) (fun _ _ _ h => h) (Or.inl ⟨by rfl, ?_⟩) hHeld ?_ ?_
    rotate_left
    · rintro w' hS
      have y5 := blk_cell hS 6
      go_simp
      with_reducible rfl
    rotate_left
    · simp only [Act.put, List.setIfInBounds_toArray, List.set_cons_zero, List.set_cons_succ, i64_w, i32_w]
      rfl
    refine one_ (i := 7) (N := none) #[true, true, true, true, true, true, true, true, false, false, false, false] rfl rfl (by kernel_rfl) (by decide) (fun K hK => ?_)
    have gc := blk_cell HQq.out 1
    have gf := blk_frozen HQq.out 1
    have HQ1_ := Lib.hid (blk_set HQq.out 1 (.bool true))
    have HG1_ := Lib.hid (blk_far HGq.out (p := ⟨w4.heap.size, 1, none⟩) (by show w.heap.size + 1 ≠ w4.heap.size; have := HSx.out; have := HS4.out; omega) (.bool true))
    have HB1_ := Lib.hid (HBq.out.setCell (p := ⟨w4.heap.size, 1, none⟩) (Nat.le_refl _) (.bool true))
    refine skip_ (w1 := wd.setCell ⟨w4.heap.size, 1, none⟩ (.bool true)) (by rfl) rfl (by first | (go_simp; done) | (go_simp; rfl)) ?_
    generalize wd.setCell ⟨w4.heap.size, 1, none⟩ (.bool true) = wd1 at HQ1_ HG1_ HB1_ ⊢
    clear gc gf
    refine hK.out _ _ HG1_.out (fun hHeld => ?_)
    clear hK K
    refine pure_ (i := 8) (N := some 122) (v := ?_) (a' := ?_) #[true, true, true, true, true, true, true, true, true, false, false, false] rfl rfl (by kernel_rfl) (fun _ _ _ h => h) (Or.inl ⟨by rfl, ?_⟩) ?_ ?_
    rotate_left
    · intro w'
      go_simp
      with_reducible rfl
    rotate_left
    · simp only [Act.put, List.setIfInBounds_toArray, List.set_cons_zero, List.set_cons_succ, i64_w, i32_w]
      rfl
    refine one_ (i := 9) (N := none) #[true, true, true, true, true, true, true, true, true, true, false, false] rfl rfl (by kernel_rfl) (by decide) (fun K hK => ?_)
    have gc := blk_cell HQ1_.out 4
    have gf := blk_frozen HQ1_.out 4
    have HQ2_ := Lib.hid (blk_set HQ1_.out 4 (.int .i64 o.f4))
    have HG2_ := Lib.hid (blk_far HG1_.out (p := ⟨w4.heap.size, 4, none⟩) (by show w.heap.size + 1 ≠ w4.heap.size; have := HSx.out; have := HS4.out; omega) (.int .i64 o.f4))
    have HB2_ := Lib.hid (HB1_.out.setCell (p := ⟨w4.heap.size, 4, none⟩) (Nat.le_refl _) (.int .i64 o.f4))
    refine skip_ (w1 := wd1.setCell ⟨w4.heap.size, 4, none⟩ (.int .i64 o.f4)) (by rfl) rfl (by first | (go_simp; done) | (go_simp; rfl)) ?_
    generalize wd1.setCell ⟨w4.heap.size, 4, none⟩ (.int .i64 o.f4) = wd2 at HQ2_ HG2_ HB2_ ⊢
    clear gc gf
    refine hK.out _ _ HG2_.out (fun hHeld => ?_)
    clear hK K
    refine pure_ (i := 10) (N := some 123) (v := ?_) (a' := ?_) #[true, true, true, true, true, true, true, true, true, true, true, false] rfl rfl (by kernel_rfl) (fun _ _ _ h => h) (Or.inl ⟨by rfl, ?_⟩) ?_ ?_
    rotate_left
    · intro w'
      go_simp
      with_reducible rfl
    rotate_left
    · simp only [Act.put, List.setIfInBounds_toArray, List.set_cons_zero, List.set_cons_succ, i64_w, i32_w]
      rfl
    refine last_ (i := 11) (N := none) #[true, true, true, true, true, true, true, true, true, true, true, true] rfl rfl (by kernel_rfl) (by decide) (fun K hK => ?_)
    have gc := blk_cell HQ2_.out 5
    have gf := blk_frozen HQ2_.out 5
    have HQ3_ := Lib.hid (blk_set HQ2_.out 5 (.int .i64 o.f5))
    have HG3_ := Lib.hid (blk_far HG2_.out (p := ⟨w4.heap.size, 5, none⟩) (by show w.heap.size + 1 ≠ w4.heap.size; have := HSx.out; have := HS4.out; omega) (.int .i64 o.f5))
    have HB3_ := Lib.hid (HB2_.out.setCell (p := ⟨w4.heap.size, 5, none⟩) (Nat.le_refl _) (.int .i64 o.f5))
    refine skip_ (w1 := wd2.setCell ⟨w4.heap.size, 5, none⟩ (.int .i64 o.f5)) (by rfl) rfl (by first | (go_simp; done) | (go_simp; rfl)) ?_
    clear gc gf
    refine hK.out _ _ ?_
    clear hK K
    refine done_ (by kernel_rfl) ?_
    obtain ⟨w6, hw6⟩ : ∃ w6, w6 = wd2.setCell ⟨w4.heap.size, 5, none⟩ (.int .i64 o.f5) := ⟨_, rfl⟩
    rw [← hw6] at HQ3_ HB3_ ⊢
    clear hw6
    have HQ6 : Hid (w6.heap[w4.heap.size]? = some (.cells #[.int .i64 q.f0, .bool true, .bool q.f2, .int .i64 q.f3, .int .i64 o.f4, .int .i64 o.f5, .int .i64 q.f6, .int .i64 q.f7] 40 (0, 0))) := Lib.hid HQ3_.out
    have HB6 := HB3_
    go_upto_region 38 with fail
    obtain ⟨qn, hqn⟩ : ∃ qn : Od, qn = { q with f1 := true, f4 := o.f4, f5 := o.f5 } := ⟨_, rfl⟩
    have HQN : Hid (chg 2 q o = qn) := Lib.hid (by rw [hqn]; rfl)
    have HQ6 : Hid (w6.heap[w4.heap.size]? = some (.cells (aggO qn) 40 (0, 0))) := Lib.hid (by rw [hqn]; exact HQ6.out)
    clear hqn
    have HM6 := Lib.hid (blk_below HM4.out HB6.out)
    have HN6 := Lib.hid (blk_below HN4.out HB6.out)
    have HR6 := Lib.hid (blk_below HR4.out HB6.out)
    have HC6 := Lib.hid (Kd.C_below HC4.out HB6.out)
    have HBw6 := Lib.hid (below_then HBw4.out HBw4.out.size HB6.out)
    have HS6 : Hid (w4.heap.size < w6.heap.size) := Lib.hid (blk_lt HQ6.out)
    clear HQ5 HB5
    obtain ⟨eb, heb⟩ : ∃ eb, eb = eqO qn q := ⟨_, rfl⟩
    have hE := eql_O qn q
    rw [← heb] at hE
    have HEB := Lib.hid heb
    clear heb
    have m0 := blk_cell HM6.out 0
    have m1 := blk_cell HM6.out 1
    have m2 := blk_cell HM6.out 2
    have m3 := blk_cell HM6.out 3
    have m4 := blk_cell HM6.out 4
    have m5 := blk_cell HM6.out 5
    obtain ⟨y0, y1, y2, y3, y4, y5, y6, y7⟩ := blkO HQ6.out
    have z0 := (HB6.out.cell (World.block_lt_of_cell? _ _ b0)).trans b0
    have z1 := (HB6.out.cell (World.block_lt_of_cell? _ _ b1)).trans b1
    have z2 := (HB6.out.cell (World.block_lt_of_cell? _ _ b2)).trans b2
    have z3 := (HB6.out.cell (World.block_lt_of_cell? _ _ b3)).trans b3
    have z4 := (HB6.out.cell (World.block_lt_of_cell? _ _ b4)).trans b4
    have z5 := (HB6.out.cell (World.block_lt_of_cell? _ _ b5)).trans b5
    have z6 := (HB6.out.cell (World.block_lt_of_cell? _ _ b6)).trans b6
    have z7 := (HB6.out.cell (World.block_lt_of_cell? _ _ b7)).trans b7
    clear b0 b1 b2 b3 b4 b5 b6 b7
    cases eb with
    | true =>
      go_quiet (fail)
      have HRq := Lib.hid (blk_below HR6.out (pw_below_drewN (Below.refl _ _) nq))
      have HBq := Lib.hid (pw_below_drewN HBw6.out nq)
      obtain ⟨wq, hwq⟩ : ∃ wq, wq = w6.drewN nq := ⟨_, rfl⟩
      rw [← hwq] at HRq HBq ⊢
      clear hwq m0 m1 m2 m3 m4 m5 y0 y1 y2 y3 y4 y5 y6 y7 z0 z1 z2 z3 z4 z5 z6 z7 hE
      have r0 := blk_cell HRq.out 0
      have r1 := blk_cell HRq.out 1
      have r2 := blk_cell HRq.out 2
      have r3 := blk_cell HRq.out 3
      have r4 := blk_cell HRq.out 4
      have r5 := blk_cell HRq.out 5
      have f0 := blk_frozen HRq.out 0
      have f1 := blk_frozen HRq.out 1
      have f2 := blk_frozen HRq.out 2
      have f3 := blk_frozen HRq.out 3
      have f4 := blk_frozen HRq.out 4
      have f5 := blk_frozen HRq.out 5
      have HF := Lib.hid (put6_blk HRq.out (.int .i64 0) (.int .i64 0) (.int .i64 0) (.int .i64 0) (.int .i64 0) (.slice none 0 0))
      have HBF := Lib.hid (put6_below HBq.out (show w.heap.size ≤ w.heap.size + 2 by omega) (.int .i64 0) (.int .i64 0) (.int .i64 0) (.int .i64 0) (.int .i64 0) (.slice none 0 0))
      obtain ⟨wf, hwf⟩ : ∃ wf, wf = put6 wq (w.heap.size + 2) (.int .i64 0) (.int .i64 0) (.int .i64 0) (.int .i64 0) (.int .i64 0) (.slice none 0 0) := ⟨_, rfl⟩
      rw [← hwf] at HF HBF
      simp only [put6] at hwf
      go_wp2_with fail
      rw [← hwf]
      clear hwf
      clear r0 r1 r2 r3 r4 r5 f0 f1 f2 f3 f4 f5
      refine bodyPost_ret (results_ct rfl _ _ (w.heap.size + 2) 26 zM (0, 0) _ rfl HF.out Try.underlying26 rfl (by kernel_rfl)) rfl ?_
      exact ⟨6, [], .inr ⟨j, q, HJ.out, HF0.out, .inl ⟨by rw [HQN.out]; exact HEB.out.symm, rfl⟩⟩, HBF.out, .inl ⟨by decide, rfl⟩⟩
    | false =>
      go_quiet (fail)
      have HMq := Lib.hid (blk_below HM6.out (pw_below_drewN (Below.refl _ _) nq))
      have HNq := Lib.hid (blk_below HN6.out (pw_below_drewN (Below.refl _ _) nq))
      have HRq := Lib.hid (blk_below HR6.out (pw_below_drewN (Below.refl _ _) nq))
      have HQq := Lib.hid (blk_below HQ6.out (pw_below_drewN (Below.refl _ _) nq))
      have HCq := Lib.hid (Kd.C_below HC6.out (pw_below_drewN (Below.refl _ _) nq))
      have HBq := Lib.hid (pw_below_drewN HBw6.out nq)
      have HSq : Hid (w4.heap.size < (w6.drewN nq).heap.size) := Lib.hid (blk_lt HQq.out)
      obtain ⟨wq, hwq⟩ : ∃ wq, wq = w6.drewN nq := ⟨_, rfl⟩
      rw [← hwq] at HMq HNq HRq HQq HCq HBq HSq ⊢
      clear hwq m0 m1 m2 m3 m4 m5 y0 y1 y2 y3 y4 y5 y6 y7 z0 z1 z2 z3 z4 z5 z6 z7 hE HM6 HN6 HR6 HQ6 HC6 HBw6 HS6
      have HBE := Lib.hid (below_alloc (Below.refl wq.heap.size wq) (.cells #[] 40))
      have HOE : Hid (kO.R 40 (wq.alloc (.cells #[] 40)) wq.heap.size (fun k => w4.heap.size < k) (.slice (some ⟨wq.heap.size, 0, none⟩) 0 0) []) := Lib.hid ⟨fun k hk => by have e : wq.heap.size = k := Option.some.inj hk; have := HSq.out; omega, OwnRow.lit wq wq.heap.size (ps := []) (inner := []) (Reps.none _ _) (Nat.le_refl _) (Nat.zero_le _)⟩
      have HCE := Lib.hid (Kd.C_alloc HCq.out (.cells #[] 40))
      have HME := Lib.hid (blk_below HMq.out HBE.out)
      have m5 := blk_cell HMq.out 5
      have m5e := blk_cell HME.out 5
      go_upto_region 41 with (first | (at_builtin; go_must (refine Kd.R_append_rows kO (w0 := wq) wq.heap.size rfl _ _ 24 40 (.agg #[.int .i64 0, .bool false, .bool false, .int .i64 0, .int .i64 0, .int .i64 0, .int .i64 0, .int .i64 0]) 56 rfl Try.underlying24 infoO rfl (by decide) (by decide) _ [] l (some ad) l.length c (fun k => w4.heap.size < k) (fun _ => False) rfl rfl HOE.out HCE.out (fun y cs hk => by rw [k40_open hk]; exact k40_mkM _ _ _ y) (fun _ hk => hk.elim) ?hf HBE.out ?hsz ?hl ?_; (case hf => intro k hk; simp only [World.alloc, Array.size_push] at hk; have := HSq.out; omega); (case hsz => simp only [World.alloc, Array.size_push]; omega); (case hl => have := HL64.out; simp only [List.length_nil]; omega); intro v7 w7 ho hb hg hg2; rw [List.nil_append] at ho; obtain ⟨g7, cap7, rfl, hbg, _, _⟩ := Kd.R_form ho (by exact HLP.out); obtain ⟨L7, hL7⟩ : ∃ L7, L7 = l.length := ⟨_, rfl⟩; rw [← hL7] at ho ⊢; have HL7 := Lib.hid hL7; have HO7 := Lib.hid ho; have HB7 := Lib.hid hb; have HBG := Lib.hid hbg; have HN7 := Lib.hid (blk_below HNq.out hb); have HQ7 := Lib.hid (blk_below HQq.out hb); have HR7 := Lib.hid (blk_below HRq.out hb); have HBw7 := Lib.hid (below_then HBq.out HBq.out.size hb); have nn5 := blk_cell HN7.out 5; have nf5 := blk_frozen HN7.out 5; clear ho hb hg hg2 hbg hL7)) | fail)
      have HN8 := Lib.hid (blk_set HN7.out 5 (.slice (some ⟨g7, 0, none⟩) L7 cap7))
      have HO8 := Lib.hid (Kd.R_grown HO7.out (grown_set w7 w3.heap.size 5 (.slice (some ⟨g7, 0, none⟩) L7 cap7)) (fun k hk e => by have e2 : k = w3.heap.size := Option.some.inj e; have := HS4.out; omega))
      have HQ8 := Lib.hid (blk_far HQ7.out (p := ⟨w3.heap.size, 5, none⟩) (by show w4.heap.size ≠ w3.heap.size; have := HS4.out; omega) (.slice (some ⟨g7, 0, none⟩) L7 cap7))
      have HR8 := Lib.hid (blk_far HR7.out (p := ⟨w3.heap.size, 5, none⟩) (by show w.heap.size + 2 ≠ w3.heap.size; have := HSx.out; omega) (.slice (some ⟨g7, 0, none⟩) L7 cap7))
      have HBw8 := Lib.hid (HBw7.out.setCell (p := ⟨w3.heap.size, 5, none⟩) (by show w.heap.size ≤ w3.heap.size; have := HSx.out; omega) (.slice (some ⟨g7, 0, none⟩) L7 cap7))
      obtain ⟨w8, hw8⟩ : ∃ w8, w8 = w7.setCell ⟨w3.heap.size, 5, none⟩ (.slice (some ⟨g7, 0, none⟩) L7 cap7) := ⟨_, rfl⟩
      rw [← hw8] at HN8 HO8 HQ8 HR8 HBw8 ⊢
      clear hw8 nn5 nf5 HN7 HO7 HQ7 HR7 HBw7 m5 m5e HOE HCE HBE HME HB7
      have HCE := Lib.hid (row_cells HO8.out HJ.out)
      have hj3 : (j : Int) < (L7 : Int) := by have := HL7.out; omega
      have hlt7 : decide (j < L7) = true := decide_eq_true (by have := HL7.out; omega)
      have n5 := blk_cell HN8.out 5
      obtain ⟨y0, y1, y2, y3, y4, y5, y6, y7⟩ := blkO HQ8.out
      go_upto_region 42 with (first | ((with_reducible refine gate_store (t := 40) (p := 150) (v := .tmp 149) rfl ?_); go_must (refine Kd.R_store kO (w0 := w8) wq.heap.size rfl rfl 40 _ _ rfl 40 (j : Int) 0 l qn (.agg (aggO qn)) (aggO qn).toList [.int .i64 q.f0, .bool q.f1, .bool q.f2, .int .i64 q.f3, .int .i64 q.f4, .int .i64 q.f5, .int .i64 q.f6, .int .i64 q.f7] (fun k => w4.heap.size < k) (fun _ => False) rfl rfl rfl rfl (by kernel_rfl) (by simp [Value.oneCell']) HO8.out hj1 hj3 rfl HCE.out (Nat.le_refl 8) (k40_mkM _ _ _ qn) (fun _ hk => hk.elim) (Below.refl _ _) ?_; intro w9 ho hb hg; have HO9 := Lib.hid (show kO.R 40 w9 wq.heap.size (fun k => w4.heap.size < k) (.slice (some ⟨g7, 0, none⟩) L7 cap7) (l.set j qn) from ho); have HN9 := Lib.hid (blk_grown HN8.out hg (by intro e; injection e with e; have := HBG.out; have := HSq.out; have := HS4.out; omega)); have HR9 := Lib.hid (blk_grown HR8.out hg (by intro e; injection e with e; have := HBG.out; have := HSq.out; have := HS4.out; have := HSx.out; omega)); have HBw9 := Lib.hid (HBw8.out.grown hg HBw8.out.size (fun k hk => by injection hk with hk; have := HBG.out; have := HSq.out; have := HS4.out; have := HSx.out; omega)); clear ho hb hg)) | fail)
      clear n5 y0 y1 y2 y3 y4 y5 y6 y7 hj3 hlt7 HO8 HN8 HQ8 HR8 HBw8 HCE
      have HLL : Hid (L7 = (l.set j qn).length) := Lib.hid (by rw [List.length_set]; exact HL7.out)
      have n0 := blk_cell HN9.out 0
      have n1 := blk_cell HN9.out 1
      have n2 := blk_cell HN9.out 2
      have n3 := blk_cell HN9.out 3
      have n4 := blk_cell HN9.out 4
      have n5 := blk_cell HN9.out 5
      have r0 := blk_cell HR9.out 0
      have f0 := blk_frozen HR9.out 0
      have r1 := blk_cell HR9.out 1
      have f1 := blk_frozen HR9.out 1
      have r2 := blk_cell HR9.out 2
      have f2 := blk_frozen HR9.out 2
      have r3 := blk_cell HR9.out 3
      have f3 := blk_frozen HR9.out 3
      have r4 := blk_cell HR9.out 4
      have f4 := blk_frozen HR9.out 4
      have r5 := blk_cell HR9.out 5
      have f5 := blk_frozen HR9.out 5
      have HF := Lib.hid (put6_blk HR9.out (.int .i64 (ep + 1)) (.int .i64 k) (.int .i64 m) (.int .i64 p) (.int .i64 d) (.slice (some ⟨g7, 0, none⟩) L7 cap7))
      have HBF := Lib.hid (put6_below HBw9.out (show w.heap.size ≤ w.heap.size + 2 by omega) (.int .i64 (ep + 1)) (.int .i64 k) (.int .i64 m) (.int .i64 p) (.int .i64 d) (.slice (some ⟨g7, 0, none⟩) L7 cap7))
      have HOF := Lib.hid (R_put6 HO9.out (fun k hk => show k ≠ w.heap.size + 2 by have := HSx.out; have := HS4.out; omega) (.int .i64 (ep + 1)) (.int .i64 k) (.int .i64 m) (.int .i64 p) (.int .i64 d) (.slice (some ⟨g7, 0, none⟩) L7 cap7))
      obtain ⟨wf, hwf⟩ : ∃ wf, wf = put6 w9 (w.heap.size + 2) (.int .i64 (ep + 1)) (.int .i64 k) (.int .i64 m) (.int .i64 p) (.int .i64 d) (.slice (some ⟨g7, 0, none⟩) L7 cap7) := ⟨_, rfl⟩
      rw [← hwf] at HF HBF HOF
      simp only [put6] at hwf
      go_wp2_with fail
      rw [← hwf]
      clear hwf r0 r1 r2 r3 r4 r5 f0 f1 f2 f3 f4 f5 n0 n1 n2 n3 n4 n5
      refine bodyPost_ret (results_ct rfl _ _ (w.heap.size + 2) 26 #[.int .i64 (ep + 1), .int .i64 k, .int .i64 m, .int .i64 p, .int .i64 d, (.slice (some ⟨g7, 0, none⟩) L7 cap7)] (0, 0) _ rfl HF.out Try.underlying26 rfl (by kernel_rfl)) rfl ?_
      refine ⟨0, l.set j qn, .inr ⟨j, q, HJ.out, HF0.out, .inr ⟨by rw [HQN.out]; exact HEB.out.symm, rfl, by rw [HQN.out]⟩⟩, HBF.out, .inr ⟨rfl, some ⟨g7, 0, none⟩, cap7, ?_, ?_⟩⟩
      · rw [← HLL.out]
        rfl
      · rw [← HLL.out]
        exact Kd.R_mono (Kd.R_lower HOF.out (by have := HSq.out; have := HS4.out; have := HSx.out; omega)) (fun _ _ => trivial)
  · have ck := blk_cell HG5.out 0
    have gc1 := blk_cell HQ5.out 1
    have gf1 := blk_frozen HQ5.out 1
    have gc2 := blk_cell HQ5.out 2
    have gf2 := blk_frozen HQ5.out 2
    have gc3 := blk_cell HQ5.out 3
    have gf3 := blk_frozen HQ5.out 3
    have gc4 := blk_cell HQ5.out 4
    have gf4 := blk_frozen HQ5.out 4
    have gc5 := blk_cell HQ5.out 5
    have gf5 := blk_frozen HQ5.out 5
    have cc3 := blk_cell HG5.out 4
    have cc4 := blk_cell HG5.out 5
    have cc5 := blk_cell HG5.out 6
    have HQ6 : Hid ((w5.setCell ⟨w4.heap.size, 1, none⟩ (.bool false)).heap[w4.heap.size]? = some (.cells #[.int .i64 q.f0, .bool false, .bool q.f2, .int .i64 q.f3, .int .i64 q.f4, .int .i64 q.f5, .int .i64 q.f6, .int .i64 q.f7] 40 (0, 0))) := Lib.hid (blk_set HQ5.out 1 (.bool false))
    have HB6 := Lib.hid (HB5.out.setCell (p := ⟨w4.heap.size, 1, none⟩) (Nat.le_refl _) (.bool false))
    obtain ⟨w6, hw6⟩ : ∃ w6, w6 = w5.setCell ⟨w4.heap.size, 1, none⟩ (.bool false) := ⟨_, rfl⟩
    rw [← hw6] at HQ6 HB6
    go_upto_region 38 with fail
    rw [← hw6]
    clear hw6 ck gc1 gc2 gc3 gc4 gc5 gf1 gf2 gf3 gf4 gf5 cc3 cc4 cc5
    obtain ⟨qn, hqn⟩ : ∃ qn : Od, qn = { q with f1 := false } := ⟨_, rfl⟩
    have HQN : Hid (chg 3 q o = qn) := Lib.hid (by rw [hqn]; rfl)
    have HQ6 : Hid (w6.heap[w4.heap.size]? = some (.cells (aggO qn) 40 (0, 0))) := Lib.hid (by rw [hqn]; exact HQ6.out)
    clear hqn
    have HM6 := Lib.hid (blk_below HM4.out HB6.out)
    have HN6 := Lib.hid (blk_below HN4.out HB6.out)
    have HR6 := Lib.hid (blk_below HR4.out HB6.out)
    have HC6 := Lib.hid (Kd.C_below HC4.out HB6.out)
    have HBw6 := Lib.hid (below_then HBw4.out HBw4.out.size HB6.out)
    have HS6 : Hid (w4.heap.size < w6.heap.size) := Lib.hid (blk_lt HQ6.out)
    clear HQ5 HB5
    obtain ⟨eb, heb⟩ : ∃ eb, eb = eqO qn q := ⟨_, rfl⟩
    have hE := eql_O qn q
    rw [← heb] at hE
    have HEB := Lib.hid heb
    clear heb
    have m0 := blk_cell HM6.out 0
    have m1 := blk_cell HM6.out 1
    have m2 := blk_cell HM6.out 2
    have m3 := blk_cell HM6.out 3
    have m4 := blk_cell HM6.out 4
    have m5 := blk_cell HM6.out 5
    obtain ⟨y0, y1, y2, y3, y4, y5, y6, y7⟩ := blkO HQ6.out
    have z0 := (HB6.out.cell (World.block_lt_of_cell? _ _ b0)).trans b0
    have z1 := (HB6.out.cell (World.block_lt_of_cell? _ _ b1)).trans b1
    have z2 := (HB6.out.cell (World.block_lt_of_cell? _ _ b2)).trans b2
    have z3 := (HB6.out.cell (World.block_lt_of_cell? _ _ b3)).trans b3
    have z4 := (HB6.out.cell (World.block_lt_of_cell? _ _ b4)).trans b4
    have z5 := (HB6.out.cell (World.block_lt_of_cell? _ _ b5)).trans b5
    have z6 := (HB6.out.cell (World.block_lt_of_cell? _ _ b6)).trans b6
    have z7 := (HB6.out.cell (World.block_lt_of_cell? _ _ b7)).trans b7
    clear b0 b1 b2 b3 b4 b5 b6 b7
    cases eb with
    | true =>
      go_quiet (fail)
      have HRq := Lib.hid (blk_below HR6.out (pw_below_drewN (Below.refl _ _) nq))
      have HBq := Lib.hid (pw_below_drewN HBw6.out nq)
      obtain ⟨wq, hwq⟩ : ∃ wq, wq = w6.drewN nq := ⟨_, rfl⟩
      rw [← hwq] at HRq HBq ⊢
      clear hwq m0 m1 m2 m3 m4 m5 y0 y1 y2 y3 y4 y5 y6 y7 z0 z1 z2 z3 z4 z5 z6 z7 hE
      have r0 := blk_cell HRq.out 0
      have r1 := blk_cell HRq.out 1
      have r2 := blk_cell HRq.out 2
      have r3 := blk_cell HRq.out 3
      have r4 := blk_cell HRq.out 4
      have r5 := blk_cell HRq.out 5
      have f0 := blk_frozen HRq.out 0
      have f1 := blk_frozen HRq.out 1
      have f2 := blk_frozen HRq.out 2
      have f3 := blk_frozen HRq.out 3
      have f4 := blk_frozen HRq.out 4
      have f5 := blk_frozen HRq.out 5
      have HF := Lib.hid (put6_blk HRq.out (.int .i64 0) (.int .i64 0) (.int .i64 0) (.int .i64 0) (.int .i64 0) (.slice none 0 0))
      have HBF := Lib.hid (put6_below HBq.out (show w.heap.size ≤ w.heap.size + 2 by omega) (.int .i64 0) (.int .i64 0) (.int .i64 0) (.int .i64 0) (.int .i64 0) (.slice none 0 0))
      obtain ⟨wf, hwf⟩ : ∃ wf, wf = put6 wq (w.heap.size + 2) (.int .i64 0) (.int .i64 0) (.int .i64 0) (.int .i64 0) (.int .i64 0) (.slice none 0 0) := ⟨_, rfl⟩
      rw [← hwf] at HF HBF
      simp only [put6] at hwf
      go_wp2_with fail
      rw [← hwf]
      clear hwf
      clear r0 r1 r2 r3 r4 r5 f0 f1 f2 f3 f4 f5
      refine bodyPost_ret (results_ct rfl _ _ (w.heap.size + 2) 26 zM (0, 0) _ rfl HF.out Try.underlying26 rfl (by kernel_rfl)) rfl ?_
      exact ⟨6, [], .inr ⟨j, q, HJ.out, HF0.out, .inl ⟨by rw [HQN.out]; exact HEB.out.symm, rfl⟩⟩, HBF.out, .inl ⟨by decide, rfl⟩⟩
    | false =>
      go_quiet (fail)
      have HMq := Lib.hid (blk_below HM6.out (pw_below_drewN (Below.refl _ _) nq))
      have HNq := Lib.hid (blk_below HN6.out (pw_below_drewN (Below.refl _ _) nq))
      have HRq := Lib.hid (blk_below HR6.out (pw_below_drewN (Below.refl _ _) nq))
      have HQq := Lib.hid (blk_below HQ6.out (pw_below_drewN (Below.refl _ _) nq))
      have HCq := Lib.hid (Kd.C_below HC6.out (pw_below_drewN (Below.refl _ _) nq))
      have HBq := Lib.hid (pw_below_drewN HBw6.out nq)
      have HSq : Hid (w4.heap.size < (w6.drewN nq).heap.size) := Lib.hid (blk_lt HQq.out)
      obtain ⟨wq, hwq⟩ : ∃ wq, wq = w6.drewN nq := ⟨_, rfl⟩
      rw [← hwq] at HMq HNq HRq HQq HCq HBq HSq ⊢
      clear hwq m0 m1 m2 m3 m4 m5 y0 y1 y2 y3 y4 y5 y6 y7 z0 z1 z2 z3 z4 z5 z6 z7 hE HM6 HN6 HR6 HQ6 HC6 HBw6 HS6
      have HBE := Lib.hid (below_alloc (Below.refl wq.heap.size wq) (.cells #[] 40))
      have HOE : Hid (kO.R 40 (wq.alloc (.cells #[] 40)) wq.heap.size (fun k => w4.heap.size < k) (.slice (some ⟨wq.heap.size, 0, none⟩) 0 0) []) := Lib.hid ⟨fun k hk => by have e : wq.heap.size = k := Option.some.inj hk; have := HSq.out; omega, OwnRow.lit wq wq.heap.size (ps := []) (inner := []) (Reps.none _ _) (Nat.le_refl _) (Nat.zero_le _)⟩
      have HCE := Lib.hid (Kd.C_alloc HCq.out (.cells #[] 40))
      have HME := Lib.hid (blk_below HMq.out HBE.out)
      have m5 := blk_cell HMq.out 5
      have m5e := blk_cell HME.out 5
      go_upto_region 41 with (first | (at_builtin; go_must (refine Kd.R_append_rows kO (w0 := wq) wq.heap.size rfl _ _ 24 40 (.agg #[.int .i64 0, .bool false, .bool false, .int .i64 0, .int .i64 0, .int .i64 0, .int .i64 0, .int .i64 0]) 56 rfl Try.underlying24 infoO rfl (by decide) (by decide) _ [] l (some ad) l.length c (fun k => w4.heap.size < k) (fun _ => False) rfl rfl HOE.out HCE.out (fun y cs hk => by rw [k40_open hk]; exact k40_mkM _ _ _ y) (fun _ hk => hk.elim) ?hf HBE.out ?hsz ?hl ?_; (case hf => intro k hk; simp only [World.alloc, Array.size_push] at hk; have := HSq.out; omega); (case hsz => simp only [World.alloc, Array.size_push]; omega); (case hl => have := HL64.out; simp only [List.length_nil]; omega); intro v7 w7 ho hb hg hg2; rw [List.nil_append] at ho; obtain ⟨g7, cap7, rfl, hbg, _, _⟩ := Kd.R_form ho (by exact HLP.out); obtain ⟨L7, hL7⟩ : ∃ L7, L7 = l.length := ⟨_, rfl⟩; rw [← hL7] at ho ⊢; have HL7 := Lib.hid hL7; have HO7 := Lib.hid ho; have HB7 := Lib.hid hb; have HBG := Lib.hid hbg; have HN7 := Lib.hid (blk_below HNq.out hb); have HQ7 := Lib.hid (blk_below HQq.out hb); have HR7 := Lib.hid (blk_below HRq.out hb); have HBw7 := Lib.hid (below_then HBq.out HBq.out.size hb); have nn5 := blk_cell HN7.out 5; have nf5 := blk_frozen HN7.out 5; clear ho hb hg hg2 hbg hL7)) | fail)
      have HN8 := Lib.hid (blk_set HN7.out 5 (.slice (some ⟨g7, 0, none⟩) L7 cap7))
      have HO8 := Lib.hid (Kd.R_grown HO7.out (grown_set w7 w3.heap.size 5 (.slice (some ⟨g7, 0, none⟩) L7 cap7)) (fun k hk e => by have e2 : k = w3.heap.size := Option.some.inj e; have := HS4.out; omega))
      have HQ8 := Lib.hid (blk_far HQ7.out (p := ⟨w3.heap.size, 5, none⟩) (by show w4.heap.size ≠ w3.heap.size; have := HS4.out; omega) (.slice (some ⟨g7, 0, none⟩) L7 cap7))
      have HR8 := Lib.hid (blk_far HR7.out (p := ⟨w3.heap.size, 5, none⟩) (by show w.heap.size + 2 ≠ w3.heap.size; have := HSx.out; omega) (.slice (some ⟨g7, 0, none⟩) L7 cap7))
      have HBw8 := Lib.hid (HBw7.out.setCell (p := ⟨w3.heap.size, 5, none⟩) (by show w.heap.size ≤ w3.heap.size; have := HSx.out; omega) (.slice (some ⟨g7, 0, none⟩) L7 cap7))
      obtain ⟨w8, hw8⟩ : ∃ w8, w8 = w7.setCell ⟨w3.heap.size, 5, none⟩ (.slice (some ⟨g7, 0, none⟩) L7 cap7) := ⟨_, rfl⟩
      rw [← hw8] at HN8 HO8 HQ8 HR8 HBw8 ⊢
      clear hw8 nn5 nf5 HN7 HO7 HQ7 HR7 HBw7 m5 m5e HOE HCE HBE HME HB7
      have HCE := Lib.hid (row_cells HO8.out HJ.out)
      have hj3 : (j : Int) < (L7 : Int) := by have := HL7.out; omega
      have hlt7 : decide (j < L7) = true := decide_eq_true (by have := HL7.out; omega)
      have n5 := blk_cell HN8.out 5
      obtain ⟨y0, y1, y2, y3, y4, y5, y6, y7⟩ := blkO HQ8.out
      go_upto_region 42 with (first | ((with_reducible refine gate_store (t := 40) (p := 150) (v := .tmp 149) rfl ?_); go_must (refine Kd.R_store kO (w0 := w8) wq.heap.size rfl rfl 40 _ _ rfl 40 (j : Int) 0 l qn (.agg (aggO qn)) (aggO qn).toList [.int .i64 q.f0, .bool q.f1, .bool q.f2, .int .i64 q.f3, .int .i64 q.f4, .int .i64 q.f5, .int .i64 q.f6, .int .i64 q.f7] (fun k => w4.heap.size < k) (fun _ => False) rfl rfl rfl rfl (by kernel_rfl) (by simp [Value.oneCell']) HO8.out hj1 hj3 rfl HCE.out (Nat.le_refl 8) (k40_mkM _ _ _ qn) (fun _ hk => hk.elim) (Below.refl _ _) ?_; intro w9 ho hb hg; have HO9 := Lib.hid (show kO.R 40 w9 wq.heap.size (fun k => w4.heap.size < k) (.slice (some ⟨g7, 0, none⟩) L7 cap7) (l.set j qn) from ho); have HN9 := Lib.hid (blk_grown HN8.out hg (by intro e; injection e with e; have := HBG.out; have := HSq.out; have := HS4.out; omega)); have HR9 := Lib.hid (blk_grown HR8.out hg (by intro e; injection e with e; have := HBG.out; have := HSq.out; have := HS4.out; have := HSx.out; omega)); have HBw9 := Lib.hid (HBw8.out.grown hg HBw8.out.size (fun k hk => by injection hk with hk; have := HBG.out; have := HSq.out; have := HS4.out; have := HSx.out; omega)); clear ho hb hg)) | fail)
      clear n5 y0 y1 y2 y3 y4 y5 y6 y7 hj3 hlt7 HO8 HN8 HQ8 HR8 HBw8 HCE
      have HLL : Hid (L7 = (l.set j qn).length) := Lib.hid (by rw [List.length_set]; exact HL7.out)
      have n0 := blk_cell HN9.out 0
      have n1 := blk_cell HN9.out 1
      have n2 := blk_cell HN9.out 2
      have n3 := blk_cell HN9.out 3
      have n4 := blk_cell HN9.out 4
      have n5 := blk_cell HN9.out 5
      have r0 := blk_cell HR9.out 0
      have f0 := blk_frozen HR9.out 0
      have r1 := blk_cell HR9.out 1
      have f1 := blk_frozen HR9.out 1
      have r2 := blk_cell HR9.out 2
      have f2 := blk_frozen HR9.out 2
      have r3 := blk_cell HR9.out 3
      have f3 := blk_frozen HR9.out 3
      have r4 := blk_cell HR9.out 4
      have f4 := blk_frozen HR9.out 4
      have r5 := blk_cell HR9.out 5
      have f5 := blk_frozen HR9.out 5
      have HF := Lib.hid (put6_blk HR9.out (.int .i64 (ep + 1)) (.int .i64 k) (.int .i64 m) (.int .i64 p) (.int .i64 d) (.slice (some ⟨g7, 0, none⟩) L7 cap7))
      have HBF := Lib.hid (put6_below HBw9.out (show w.heap.size ≤ w.heap.size + 2 by omega) (.int .i64 (ep + 1)) (.int .i64 k) (.int .i64 m) (.int .i64 p) (.int .i64 d) (.slice (some ⟨g7, 0, none⟩) L7 cap7))
      have HOF := Lib.hid (R_put6 HO9.out (fun k hk => show k ≠ w.heap.size + 2 by have := HSx.out; have := HS4.out; omega) (.int .i64 (ep + 1)) (.int .i64 k) (.int .i64 m) (.int .i64 p) (.int .i64 d) (.slice (some ⟨g7, 0, none⟩) L7 cap7))
      obtain ⟨wf, hwf⟩ : ∃ wf, wf = put6 w9 (w.heap.size + 2) (.int .i64 (ep + 1)) (.int .i64 k) (.int .i64 m) (.int .i64 p) (.int .i64 d) (.slice (some ⟨g7, 0, none⟩) L7 cap7) := ⟨_, rfl⟩
      rw [← hwf] at HF HBF HOF
      simp only [put6] at hwf
      go_wp2_with fail
      rw [← hwf]
      clear hwf r0 r1 r2 r3 r4 r5 f0 f1 f2 f3 f4 f5 n0 n1 n2 n3 n4 n5
      refine bodyPost_ret (results_ct rfl _ _ (w.heap.size + 2) 26 #[.int .i64 (ep + 1), .int .i64 k, .int .i64 m, .int .i64 p, .int .i64 d, (.slice (some ⟨g7, 0, none⟩) L7 cap7)] (0, 0) _ rfl HF.out Try.underlying26 rfl (by kernel_rfl)) rfl ?_
      refine ⟨0, l.set j qn, .inr ⟨j, q, HJ.out, HF0.out, .inr ⟨by rw [HQN.out]; exact HEB.out.symm, rfl, by rw [HQN.out]⟩⟩, HBF.out, .inr ⟨rfl, some ⟨g7, 0, none⟩, cap7, ?_, ?_⟩⟩
      · rw [← HLL.out]
        rfl
      · rw [← HLL.out]
        exact Kd.R_mono (Kd.R_lower HOF.out (by have := HSq.out; have := HS4.out; have := HSx.out; omega)) (fun _ _ => trivial)
  · have ck := blk_cell HG5.out 0
    have gc1 := blk_cell HQ5.out 1
    have gf1 := blk_frozen HQ5.out 1
    have gc2 := blk_cell HQ5.out 2
    have gf2 := blk_frozen HQ5.out 2
    have gc3 := blk_cell HQ5.out 3
    have gf3 := blk_frozen HQ5.out 3
    have gc4 := blk_cell HQ5.out 4
    have gf4 := blk_frozen HQ5.out 4
    have gc5 := blk_cell HQ5.out 5
    have gf5 := blk_frozen HQ5.out 5
    have cc3 := blk_cell HG5.out 4
    have cc4 := blk_cell HG5.out 5
    have cc5 := blk_cell HG5.out 6
    have HQ6 : Hid ((w5.setCell ⟨w4.heap.size, 2, none⟩ (.bool true)).heap[w4.heap.size]? = some (.cells #[.int .i64 q.f0, .bool q.f1, .bool true, .int .i64 q.f3, .int .i64 q.f4, .int .i64 q.f5, .int .i64 q.f6, .int .i64 q.f7] 40 (0, 0))) := Lib.hid (blk_set HQ5.out 2 (.bool true))
    have HB6 := Lib.hid (HB5.out.setCell (p := ⟨w4.heap.size, 2, none⟩) (Nat.le_refl _) (.bool true))
    obtain ⟨w6, hw6⟩ : ∃ w6, w6 = w5.setCell ⟨w4.heap.size, 2, none⟩ (.bool true) := ⟨_, rfl⟩
    rw [← hw6] at HQ6 HB6
    go_upto_region 38 with fail
    rw [← hw6]
    clear hw6 ck gc1 gc2 gc3 gc4 gc5 gf1 gf2 gf3 gf4 gf5 cc3 cc4 cc5
    obtain ⟨qn, hqn⟩ : ∃ qn : Od, qn = { q with f2 := true } := ⟨_, rfl⟩
    have HQN : Hid (chg 4 q o = qn) := Lib.hid (by rw [hqn]; rfl)
    have HQ6 : Hid (w6.heap[w4.heap.size]? = some (.cells (aggO qn) 40 (0, 0))) := Lib.hid (by rw [hqn]; exact HQ6.out)
    clear hqn
    have HM6 := Lib.hid (blk_below HM4.out HB6.out)
    have HN6 := Lib.hid (blk_below HN4.out HB6.out)
    have HR6 := Lib.hid (blk_below HR4.out HB6.out)
    have HC6 := Lib.hid (Kd.C_below HC4.out HB6.out)
    have HBw6 := Lib.hid (below_then HBw4.out HBw4.out.size HB6.out)
    have HS6 : Hid (w4.heap.size < w6.heap.size) := Lib.hid (blk_lt HQ6.out)
    clear HQ5 HB5
    obtain ⟨eb, heb⟩ : ∃ eb, eb = eqO qn q := ⟨_, rfl⟩
    have hE := eql_O qn q
    rw [← heb] at hE
    have HEB := Lib.hid heb
    clear heb
    have m0 := blk_cell HM6.out 0
    have m1 := blk_cell HM6.out 1
    have m2 := blk_cell HM6.out 2
    have m3 := blk_cell HM6.out 3
    have m4 := blk_cell HM6.out 4
    have m5 := blk_cell HM6.out 5
    obtain ⟨y0, y1, y2, y3, y4, y5, y6, y7⟩ := blkO HQ6.out
    have z0 := (HB6.out.cell (World.block_lt_of_cell? _ _ b0)).trans b0
    have z1 := (HB6.out.cell (World.block_lt_of_cell? _ _ b1)).trans b1
    have z2 := (HB6.out.cell (World.block_lt_of_cell? _ _ b2)).trans b2
    have z3 := (HB6.out.cell (World.block_lt_of_cell? _ _ b3)).trans b3
    have z4 := (HB6.out.cell (World.block_lt_of_cell? _ _ b4)).trans b4
    have z5 := (HB6.out.cell (World.block_lt_of_cell? _ _ b5)).trans b5
    have z6 := (HB6.out.cell (World.block_lt_of_cell? _ _ b6)).trans b6
    have z7 := (HB6.out.cell (World.block_lt_of_cell? _ _ b7)).trans b7
    clear b0 b1 b2 b3 b4 b5 b6 b7
    cases eb with
    | true =>
      go_quiet (fail)
      have HRq := Lib.hid (blk_below HR6.out (pw_below_drewN (Below.refl _ _) nq))
      have HBq := Lib.hid (pw_below_drewN HBw6.out nq)
      obtain ⟨wq, hwq⟩ : ∃ wq, wq = w6.drewN nq := ⟨_, rfl⟩
      rw [← hwq] at HRq HBq ⊢
      clear hwq m0 m1 m2 m3 m4 m5 y0 y1 y2 y3 y4 y5 y6 y7 z0 z1 z2 z3 z4 z5 z6 z7 hE
      have r0 := blk_cell HRq.out 0
      have r1 := blk_cell HRq.out 1
      have r2 := blk_cell HRq.out 2
      have r3 := blk_cell HRq.out 3
      have r4 := blk_cell HRq.out 4
      have r5 := blk_cell HRq.out 5
      have f0 := blk_frozen HRq.out 0
      have f1 := blk_frozen HRq.out 1
      have f2 := blk_frozen HRq.out 2
      have f3 := blk_frozen HRq.out 3
      have f4 := blk_frozen HRq.out 4
      have f5 := blk_frozen HRq.out 5
      have HF := Lib.hid (put6_blk HRq.out (.int .i64 0) (.int .i64 0) (.int .i64 0) (.int .i64 0) (.int .i64 0) (.slice none 0 0))
      have HBF := Lib.hid (put6_below HBq.out (show w.heap.size ≤ w.heap.size + 2 by omega) (.int .i64 0) (.int .i64 0) (.int .i64 0) (.int .i64 0) (.int .i64 0) (.slice none 0 0))
      obtain ⟨wf, hwf⟩ : ∃ wf, wf = put6 wq (w.heap.size + 2) (.int .i64 0) (.int .i64 0) (.int .i64 0) (.int .i64 0) (.int .i64 0) (.slice none 0 0) := ⟨_, rfl⟩
      rw [← hwf] at HF HBF
      simp only [put6] at hwf
      go_wp2_with fail
      rw [← hwf]
      clear hwf
      clear r0 r1 r2 r3 r4 r5 f0 f1 f2 f3 f4 f5
      refine bodyPost_ret (results_ct rfl _ _ (w.heap.size + 2) 26 zM (0, 0) _ rfl HF.out Try.underlying26 rfl (by kernel_rfl)) rfl ?_
      exact ⟨6, [], .inr ⟨j, q, HJ.out, HF0.out, .inl ⟨by rw [HQN.out]; exact HEB.out.symm, rfl⟩⟩, HBF.out, .inl ⟨by decide, rfl⟩⟩
    | false =>
      go_quiet (fail)
      have HMq := Lib.hid (blk_below HM6.out (pw_below_drewN (Below.refl _ _) nq))
      have HNq := Lib.hid (blk_below HN6.out (pw_below_drewN (Below.refl _ _) nq))
      have HRq := Lib.hid (blk_below HR6.out (pw_below_drewN (Below.refl _ _) nq))
      have HQq := Lib.hid (blk_below HQ6.out (pw_below_drewN (Below.refl _ _) nq))
      have HCq := Lib.hid (Kd.C_below HC6.out (pw_below_drewN (Below.refl _ _) nq))
      have HBq := Lib.hid (pw_below_drewN HBw6.out nq)
      have HSq : Hid (w4.heap.size < (w6.drewN nq).heap.size) := Lib.hid (blk_lt HQq.out)
      obtain ⟨wq, hwq⟩ : ∃ wq, wq = w6.drewN nq := ⟨_, rfl⟩
      rw [← hwq] at HMq HNq HRq HQq HCq HBq HSq ⊢
      clear hwq m0 m1 m2 m3 m4 m5 y0 y1 y2 y3 y4 y5 y6 y7 z0 z1 z2 z3 z4 z5 z6 z7 hE HM6 HN6 HR6 HQ6 HC6 HBw6 HS6
      have HBE := Lib.hid (below_alloc (Below.refl wq.heap.size wq) (.cells #[] 40))
      have HOE : Hid (kO.R 40 (wq.alloc (.cells #[] 40)) wq.heap.size (fun k => w4.heap.size < k) (.slice (some ⟨wq.heap.size, 0, none⟩) 0 0) []) := Lib.hid ⟨fun k hk => by have e : wq.heap.size = k := Option.some.inj hk; have := HSq.out; omega, OwnRow.lit wq wq.heap.size (ps := []) (inner := []) (Reps.none _ _) (Nat.le_refl _) (Nat.zero_le _)⟩
      have HCE := Lib.hid (Kd.C_alloc HCq.out (.cells #[] 40))
      have HME := Lib.hid (blk_below HMq.out HBE.out)
      have m5 := blk_cell HMq.out 5
      have m5e := blk_cell HME.out 5
      go_upto_region 41 with (first | (at_builtin; go_must (refine Kd.R_append_rows kO (w0 := wq) wq.heap.size rfl _ _ 24 40 (.agg #[.int .i64 0, .bool false, .bool false, .int .i64 0, .int .i64 0, .int .i64 0, .int .i64 0, .int .i64 0]) 56 rfl Try.underlying24 infoO rfl (by decide) (by decide) _ [] l (some ad) l.length c (fun k => w4.heap.size < k) (fun _ => False) rfl rfl HOE.out HCE.out (fun y cs hk => by rw [k40_open hk]; exact k40_mkM _ _ _ y) (fun _ hk => hk.elim) ?hf HBE.out ?hsz ?hl ?_; (case hf => intro k hk; simp only [World.alloc, Array.size_push] at hk; have := HSq.out; omega); (case hsz => simp only [World.alloc, Array.size_push]; omega); (case hl => have := HL64.out; simp only [List.length_nil]; omega); intro v7 w7 ho hb hg hg2; rw [List.nil_append] at ho; obtain ⟨g7, cap7, rfl, hbg, _, _⟩ := Kd.R_form ho (by exact HLP.out); obtain ⟨L7, hL7⟩ : ∃ L7, L7 = l.length := ⟨_, rfl⟩; rw [← hL7] at ho ⊢; have HL7 := Lib.hid hL7; have HO7 := Lib.hid ho; have HB7 := Lib.hid hb; have HBG := Lib.hid hbg; have HN7 := Lib.hid (blk_below HNq.out hb); have HQ7 := Lib.hid (blk_below HQq.out hb); have HR7 := Lib.hid (blk_below HRq.out hb); have HBw7 := Lib.hid (below_then HBq.out HBq.out.size hb); have nn5 := blk_cell HN7.out 5; have nf5 := blk_frozen HN7.out 5; clear ho hb hg hg2 hbg hL7)) | fail)
      have HN8 := Lib.hid (blk_set HN7.out 5 (.slice (some ⟨g7, 0, none⟩) L7 cap7))
      have HO8 := Lib.hid (Kd.R_grown HO7.out (grown_set w7 w3.heap.size 5 (.slice (some ⟨g7, 0, none⟩) L7 cap7)) (fun k hk e => by have e2 : k = w3.heap.size := Option.some.inj e; have := HS4.out; omega))
      have HQ8 := Lib.hid (blk_far HQ7.out (p := ⟨w3.heap.size, 5, none⟩) (by show w4.heap.size ≠ w3.heap.size; have := HS4.out; omega) (.slice (some ⟨g7, 0, none⟩) L7 cap7))
      have HR8 := Lib.hid (blk_far HR7.out (p := ⟨w3.heap.size, 5, none⟩) (by show w.heap.size + 2 ≠ w3.heap.size; have := HSx.out; omega) (.slice (some ⟨g7, 0, none⟩) L7 cap7))
      have HBw8 := Lib.hid (HBw7.out.setCell (p := ⟨w3.heap.size, 5, none⟩) (by show w.heap.size ≤ w3.heap.size; have := HSx.out; omega) (.slice (some ⟨g7, 0, none⟩) L7 cap7))
      obtain ⟨w8, hw8⟩ : ∃ w8, w8 = w7.setCell ⟨w3.heap.size, 5, none⟩ (.slice (some ⟨g7, 0, none⟩) L7 cap7) := ⟨_, rfl⟩
      rw [← hw8] at HN8 HO8 HQ8 HR8 HBw8 ⊢
      clear hw8 nn5 nf5 HN7 HO7 HQ7 HR7 HBw7 m5 m5e HOE HCE HBE HME HB7
      have HCE := Lib.hid (row_cells HO8.out HJ.out)
      have hj3 : (j : Int) < (L7 : Int) := by have := HL7.out; omega
      have hlt7 : decide (j < L7) = true := decide_eq_true (by have := HL7.out; omega)
      have n5 := blk_cell HN8.out 5
      obtain ⟨y0, y1, y2, y3, y4, y5, y6, y7⟩ := blkO HQ8.out
      go_upto_region 42 with (first | ((with_reducible refine gate_store (t := 40) (p := 150) (v := .tmp 149) rfl ?_); go_must (refine Kd.R_store kO (w0 := w8) wq.heap.size rfl rfl 40 _ _ rfl 40 (j : Int) 0 l qn (.agg (aggO qn)) (aggO qn).toList [.int .i64 q.f0, .bool q.f1, .bool q.f2, .int .i64 q.f3, .int .i64 q.f4, .int .i64 q.f5, .int .i64 q.f6, .int .i64 q.f7] (fun k => w4.heap.size < k) (fun _ => False) rfl rfl rfl rfl (by kernel_rfl) (by simp [Value.oneCell']) HO8.out hj1 hj3 rfl HCE.out (Nat.le_refl 8) (k40_mkM _ _ _ qn) (fun _ hk => hk.elim) (Below.refl _ _) ?_; intro w9 ho hb hg; have HO9 := Lib.hid (show kO.R 40 w9 wq.heap.size (fun k => w4.heap.size < k) (.slice (some ⟨g7, 0, none⟩) L7 cap7) (l.set j qn) from ho); have HN9 := Lib.hid (blk_grown HN8.out hg (by intro e; injection e with e; have := HBG.out; have := HSq.out; have := HS4.out; omega)); have HR9 := Lib.hid (blk_grown HR8.out hg (by intro e; injection e with e; have := HBG.out; have := HSq.out; have := HS4.out; have := HSx.out; omega)); have HBw9 := Lib.hid (HBw8.out.grown hg HBw8.out.size (fun k hk => by injection hk with hk; have := HBG.out; have := HSq.out; have := HS4.out; have := HSx.out; omega)); clear ho hb hg)) | fail)
      clear n5 y0 y1 y2 y3 y4 y5 y6 y7 hj3 hlt7 HO8 HN8 HQ8 HR8 HBw8 HCE
      have HLL : Hid (L7 = (l.set j qn).length) := Lib.hid (by rw [List.length_set]; exact HL7.out)
      have n0 := blk_cell HN9.out 0
      have n1 := blk_cell HN9.out 1
      have n2 := blk_cell HN9.out 2
      have n3 := blk_cell HN9.out 3
      have n4 := blk_cell HN9.out 4
      have n5 := blk_cell HN9.out 5
      have r0 := blk_cell HR9.out 0
      have f0 := blk_frozen HR9.out 0
      have r1 := blk_cell HR9.out 1
      have f1 := blk_frozen HR9.out 1
      have r2 := blk_cell HR9.out 2
      have f2 := blk_frozen HR9.out 2
      have r3 := blk_cell HR9.out 3
      have f3 := blk_frozen HR9.out 3
      have r4 := blk_cell HR9.out 4
      have f4 := blk_frozen HR9.out 4
      have r5 := blk_cell HR9.out 5
      have f5 := blk_frozen HR9.out 5
      have HF := Lib.hid (put6_blk HR9.out (.int .i64 (ep + 1)) (.int .i64 k) (.int .i64 m) (.int .i64 p) (.int .i64 d) (.slice (some ⟨g7, 0, none⟩) L7 cap7))
      have HBF := Lib.hid (put6_below HBw9.out (show w.heap.size ≤ w.heap.size + 2 by omega) (.int .i64 (ep + 1)) (.int .i64 k) (.int .i64 m) (.int .i64 p) (.int .i64 d) (.slice (some ⟨g7, 0, none⟩) L7 cap7))
      have HOF := Lib.hid (R_put6 HO9.out (fun k hk => show k ≠ w.heap.size + 2 by have := HSx.out; have := HS4.out; omega) (.int .i64 (ep + 1)) (.int .i64 k) (.int .i64 m) (.int .i64 p) (.int .i64 d) (.slice (some ⟨g7, 0, none⟩) L7 cap7))
      obtain ⟨wf, hwf⟩ : ∃ wf, wf = put6 w9 (w.heap.size + 2) (.int .i64 (ep + 1)) (.int .i64 k) (.int .i64 m) (.int .i64 p) (.int .i64 d) (.slice (some ⟨g7, 0, none⟩) L7 cap7) := ⟨_, rfl⟩
      rw [← hwf] at HF HBF HOF
      simp only [put6] at hwf
      go_wp2_with fail
      rw [← hwf]
      clear hwf r0 r1 r2 r3 r4 r5 f0 f1 f2 f3 f4 f5 n0 n1 n2 n3 n4 n5
      refine bodyPost_ret (results_ct rfl _ _ (w.heap.size + 2) 26 #[.int .i64 (ep + 1), .int .i64 k, .int .i64 m, .int .i64 p, .int .i64 d, (.slice (some ⟨g7, 0, none⟩) L7 cap7)] (0, 0) _ rfl HF.out Try.underlying26 rfl (by kernel_rfl)) rfl ?_
      refine ⟨0, l.set j qn, .inr ⟨j, q, HJ.out, HF0.out, .inr ⟨by rw [HQN.out]; exact HEB.out.symm, rfl, by rw [HQN.out]⟩⟩, HBF.out, .inr ⟨rfl, some ⟨g7, 0, none⟩, cap7, ?_, ?_⟩⟩
      · rw [← HLL.out]
        rfl
      · rw [← HLL.out]
        exact Kd.R_mono (Kd.R_lower HOF.out (by have := HSq.out; have := HS4.out; have := HSx.out; omega)) (fun _ _ => trivial)
  · have ck := blk_cell HG5.out 0
    have gc1 := blk_cell HQ5.out 1
    have gf1 := blk_frozen HQ5.out 1
    have gc2 := blk_cell HQ5.out 2
    have gf2 := blk_frozen HQ5.out 2
    have gc3 := blk_cell HQ5.out 3
    have gf3 := blk_frozen HQ5.out 3
    have gc4 := blk_cell HQ5.out 4
    have gf4 := blk_frozen HQ5.out 4
    have gc5 := blk_cell HQ5.out 5
    have gf5 := blk_frozen HQ5.out 5
    have cc3 := blk_cell HG5.out 4
    have cc4 := blk_cell HG5.out 5
    have cc5 := blk_cell HG5.out 6
    have HQ6 : Hid ((w5.setCell ⟨w4.heap.size, 2, none⟩ (.bool false)).heap[w4.heap.size]? = some (.cells #[.int .i64 q.f0, .bool q.f1, .bool false, .int .i64 q.f3, .int .i64 q.f4, .int .i64 q.f5, .int .i64 q.f6, .int .i64 q.f7] 40 (0, 0))) := Lib.hid (blk_set HQ5.out 2 (.bool false))
    have HB6 := Lib.hid (HB5.out.setCell (p := ⟨w4.heap.size, 2, none⟩) (Nat.le_refl _) (.bool false))
    obtain ⟨w6, hw6⟩ : ∃ w6, w6 = w5.setCell ⟨w4.heap.size, 2, none⟩ (.bool false) := ⟨_, rfl⟩
    rw [← hw6] at HQ6 HB6
    go_upto_region 38 with fail
    rw [← hw6]
    clear hw6 ck gc1 gc2 gc3 gc4 gc5 gf1 gf2 gf3 gf4 gf5 cc3 cc4 cc5
    obtain ⟨qn, hqn⟩ : ∃ qn : Od, qn = { q with f2 := false } := ⟨_, rfl⟩
    have HQN : Hid (chg 5 q o = qn) := Lib.hid (by rw [hqn]; rfl)
    have HQ6 : Hid (w6.heap[w4.heap.size]? = some (.cells (aggO qn) 40 (0, 0))) := Lib.hid (by rw [hqn]; exact HQ6.out)
    clear hqn
    have HM6 := Lib.hid (blk_below HM4.out HB6.out)
    have HN6 := Lib.hid (blk_below HN4.out HB6.out)
    have HR6 := Lib.hid (blk_below HR4.out HB6.out)
    have HC6 := Lib.hid (Kd.C_below HC4.out HB6.out)
    have HBw6 := Lib.hid (below_then HBw4.out HBw4.out.size HB6.out)
    have HS6 : Hid (w4.heap.size < w6.heap.size) := Lib.hid (blk_lt HQ6.out)
    clear HQ5 HB5
    obtain ⟨eb, heb⟩ : ∃ eb, eb = eqO qn q := ⟨_, rfl⟩
    have hE := eql_O qn q
    rw [← heb] at hE
    have HEB := Lib.hid heb
    clear heb
    have m0 := blk_cell HM6.out 0
    have m1 := blk_cell HM6.out 1
    have m2 := blk_cell HM6.out 2
    have m3 := blk_cell HM6.out 3
    have m4 := blk_cell HM6.out 4
    have m5 := blk_cell HM6.out 5
    obtain ⟨y0, y1, y2, y3, y4, y5, y6, y7⟩ := blkO HQ6.out
    have z0 := (HB6.out.cell (World.block_lt_of_cell? _ _ b0)).trans b0
    have z1 := (HB6.out.cell (World.block_lt_of_cell? _ _ b1)).trans b1
    have z2 := (HB6.out.cell (World.block_lt_of_cell? _ _ b2)).trans b2
    have z3 := (HB6.out.cell (World.block_lt_of_cell? _ _ b3)).trans b3
    have z4 := (HB6.out.cell (World.block_lt_of_cell? _ _ b4)).trans b4
    have z5 := (HB6.out.cell (World.block_lt_of_cell? _ _ b5)).trans b5
    have z6 := (HB6.out.cell (World.block_lt_of_cell? _ _ b6)).trans b6
    have z7 := (HB6.out.cell (World.block_lt_of_cell? _ _ b7)).trans b7
    clear b0 b1 b2 b3 b4 b5 b6 b7
    cases eb with
    | true =>
      go_quiet (fail)
      have HRq := Lib.hid (blk_below HR6.out (pw_below_drewN (Below.refl _ _) nq))
      have HBq := Lib.hid (pw_below_drewN HBw6.out nq)
      obtain ⟨wq, hwq⟩ : ∃ wq, wq = w6.drewN nq := ⟨_, rfl⟩
      rw [← hwq] at HRq HBq ⊢
      clear hwq m0 m1 m2 m3 m4 m5 y0 y1 y2 y3 y4 y5 y6 y7 z0 z1 z2 z3 z4 z5 z6 z7 hE
      have r0 := blk_cell HRq.out 0
      have r1 := blk_cell HRq.out 1
      have r2 := blk_cell HRq.out 2
      have r3 := blk_cell HRq.out 3
      have r4 := blk_cell HRq.out 4
      have r5 := blk_cell HRq.out 5
      have f0 := blk_frozen HRq.out 0
      have f1 := blk_frozen HRq.out 1
      have f2 := blk_frozen HRq.out 2
      have f3 := blk_frozen HRq.out 3
      have f4 := blk_frozen HRq.out 4
      have f5 := blk_frozen HRq.out 5
      have HF := Lib.hid (put6_blk HRq.out (.int .i64 0) (.int .i64 0) (.int .i64 0) (.int .i64 0) (.int .i64 0) (.slice none 0 0))
      have HBF := Lib.hid (put6_below HBq.out (show w.heap.size ≤ w.heap.size + 2 by omega) (.int .i64 0) (.int .i64 0) (.int .i64 0) (.int .i64 0) (.int .i64 0) (.slice none 0 0))
      obtain ⟨wf, hwf⟩ : ∃ wf, wf = put6 wq (w.heap.size + 2) (.int .i64 0) (.int .i64 0) (.int .i64 0) (.int .i64 0) (.int .i64 0) (.slice none 0 0) := ⟨_, rfl⟩
      rw [← hwf] at HF HBF
      simp only [put6] at hwf
      go_wp2_with fail
      rw [← hwf]
      clear hwf
      clear r0 r1 r2 r3 r4 r5 f0 f1 f2 f3 f4 f5
      refine bodyPost_ret (results_ct rfl _ _ (w.heap.size + 2) 26 zM (0, 0) _ rfl HF.out Try.underlying26 rfl (by kernel_rfl)) rfl ?_
      exact ⟨6, [], .inr ⟨j, q, HJ.out, HF0.out, .inl ⟨by rw [HQN.out]; exact HEB.out.symm, rfl⟩⟩, HBF.out, .inl ⟨by decide, rfl⟩⟩
    | false =>
      go_quiet (fail)
      have HMq := Lib.hid (blk_below HM6.out (pw_below_drewN (Below.refl _ _) nq))
      have HNq := Lib.hid (blk_below HN6.out (pw_below_drewN (Below.refl _ _) nq))
      have HRq := Lib.hid (blk_below HR6.out (pw_below_drewN (Below.refl _ _) nq))
      have HQq := Lib.hid (blk_below HQ6.out (pw_below_drewN (Below.refl _ _) nq))
      have HCq := Lib.hid (Kd.C_below HC6.out (pw_below_drewN (Below.refl _ _) nq))
      have HBq := Lib.hid (pw_below_drewN HBw6.out nq)
      have HSq : Hid (w4.heap.size < (w6.drewN nq).heap.size) := Lib.hid (blk_lt HQq.out)
      obtain ⟨wq, hwq⟩ : ∃ wq, wq = w6.drewN nq := ⟨_, rfl⟩
      rw [← hwq] at HMq HNq HRq HQq HCq HBq HSq ⊢
      clear hwq m0 m1 m2 m3 m4 m5 y0 y1 y2 y3 y4 y5 y6 y7 z0 z1 z2 z3 z4 z5 z6 z7 hE HM6 HN6 HR6 HQ6 HC6 HBw6 HS6
      have HBE := Lib.hid (below_alloc (Below.refl wq.heap.size wq) (.cells #[] 40))
      have HOE : Hid (kO.R 40 (wq.alloc (.cells #[] 40)) wq.heap.size (fun k => w4.heap.size < k) (.slice (some ⟨wq.heap.size, 0, none⟩) 0 0) []) := Lib.hid ⟨fun k hk => by have e : wq.heap.size = k := Option.some.inj hk; have := HSq.out; omega, OwnRow.lit wq wq.heap.size (ps := []) (inner := []) (Reps.none _ _) (Nat.le_refl _) (Nat.zero_le _)⟩
      have HCE := Lib.hid (Kd.C_alloc HCq.out (.cells #[] 40))
      have HME := Lib.hid (blk_below HMq.out HBE.out)
      have m5 := blk_cell HMq.out 5
      have m5e := blk_cell HME.out 5
      go_upto_region 41 with (first | (at_builtin; go_must (refine Kd.R_append_rows kO (w0 := wq) wq.heap.size rfl _ _ 24 40 (.agg #[.int .i64 0, .bool false, .bool false, .int .i64 0, .int .i64 0, .int .i64 0, .int .i64 0, .int .i64 0]) 56 rfl Try.underlying24 infoO rfl (by decide) (by decide) _ [] l (some ad) l.length c (fun k => w4.heap.size < k) (fun _ => False) rfl rfl HOE.out HCE.out (fun y cs hk => by rw [k40_open hk]; exact k40_mkM _ _ _ y) (fun _ hk => hk.elim) ?hf HBE.out ?hsz ?hl ?_; (case hf => intro k hk; simp only [World.alloc, Array.size_push] at hk; have := HSq.out; omega); (case hsz => simp only [World.alloc, Array.size_push]; omega); (case hl => have := HL64.out; simp only [List.length_nil]; omega); intro v7 w7 ho hb hg hg2; rw [List.nil_append] at ho; obtain ⟨g7, cap7, rfl, hbg, _, _⟩ := Kd.R_form ho (by exact HLP.out); obtain ⟨L7, hL7⟩ : ∃ L7, L7 = l.length := ⟨_, rfl⟩; rw [← hL7] at ho ⊢; have HL7 := Lib.hid hL7; have HO7 := Lib.hid ho; have HB7 := Lib.hid hb; have HBG := Lib.hid hbg; have HN7 := Lib.hid (blk_below HNq.out hb); have HQ7 := Lib.hid (blk_below HQq.out hb); have HR7 := Lib.hid (blk_below HRq.out hb); have HBw7 := Lib.hid (below_then HBq.out HBq.out.size hb); have nn5 := blk_cell HN7.out 5; have nf5 := blk_frozen HN7.out 5; clear ho hb hg hg2 hbg hL7)) | fail)
      have HN8 := Lib.hid (blk_set HN7.out 5 (.slice (some ⟨g7, 0, none⟩) L7 cap7))
      have HO8 := Lib.hid (Kd.R_grown HO7.out (grown_set w7 w3.heap.size 5 (.slice (some ⟨g7, 0, none⟩) L7 cap7)) (fun k hk e => by have e2 : k = w3.heap.size := Option.some.inj e; have := HS4.out; omega))
      have HQ8 := Lib.hid (blk_far HQ7.out (p := ⟨w3.heap.size, 5, none⟩) (by show w4.heap.size ≠ w3.heap.size; have := HS4.out; omega) (.slice (some ⟨g7, 0, none⟩) L7 cap7))
      have HR8 := Lib.hid (blk_far HR7.out (p := ⟨w3.heap.size, 5, none⟩) (by show w.heap.size + 2 ≠ w3.heap.size; have := HSx.out; omega) (.slice (some ⟨g7, 0, none⟩) L7 cap7))
      have HBw8 := Lib.hid (HBw7.out.setCell (p := ⟨w3.heap.size, 5, none⟩) (by show w.heap.size ≤ w3.heap.size; have := HSx.out; omega) (.slice (some ⟨g7, 0, none⟩) L7 cap7))
      obtain ⟨w8, hw8⟩ : ∃ w8, w8 = w7.setCell ⟨w3.heap.size, 5, none⟩ (.slice (some ⟨g7, 0, none⟩) L7 cap7) := ⟨_, rfl⟩
      rw [← hw8] at HN8 HO8 HQ8 HR8 HBw8 ⊢
      clear hw8 nn5 nf5 HN7 HO7 HQ7 HR7 HBw7 m5 m5e HOE HCE HBE HME HB7
      have HCE := Lib.hid (row_cells HO8.out HJ.out)
      have hj3 : (j : Int) < (L7 : Int) := by have := HL7.out; omega
      have hlt7 : decide (j < L7) = true := decide_eq_true (by have := HL7.out; omega)
      have n5 := blk_cell HN8.out 5
      obtain ⟨y0, y1, y2, y3, y4, y5, y6, y7⟩ := blkO HQ8.out
      go_upto_region 42 with (first | ((with_reducible refine gate_store (t := 40) (p := 150) (v := .tmp 149) rfl ?_); go_must (refine Kd.R_store kO (w0 := w8) wq.heap.size rfl rfl 40 _ _ rfl 40 (j : Int) 0 l qn (.agg (aggO qn)) (aggO qn).toList [.int .i64 q.f0, .bool q.f1, .bool q.f2, .int .i64 q.f3, .int .i64 q.f4, .int .i64 q.f5, .int .i64 q.f6, .int .i64 q.f7] (fun k => w4.heap.size < k) (fun _ => False) rfl rfl rfl rfl (by kernel_rfl) (by simp [Value.oneCell']) HO8.out hj1 hj3 rfl HCE.out (Nat.le_refl 8) (k40_mkM _ _ _ qn) (fun _ hk => hk.elim) (Below.refl _ _) ?_; intro w9 ho hb hg; have HO9 := Lib.hid (show kO.R 40 w9 wq.heap.size (fun k => w4.heap.size < k) (.slice (some ⟨g7, 0, none⟩) L7 cap7) (l.set j qn) from ho); have HN9 := Lib.hid (blk_grown HN8.out hg (by intro e; injection e with e; have := HBG.out; have := HSq.out; have := HS4.out; omega)); have HR9 := Lib.hid (blk_grown HR8.out hg (by intro e; injection e with e; have := HBG.out; have := HSq.out; have := HS4.out; have := HSx.out; omega)); have HBw9 := Lib.hid (HBw8.out.grown hg HBw8.out.size (fun k hk => by injection hk with hk; have := HBG.out; have := HSq.out; have := HS4.out; have := HSx.out; omega)); clear ho hb hg)) | fail)
      clear n5 y0 y1 y2 y3 y4 y5 y6 y7 hj3 hlt7 HO8 HN8 HQ8 HR8 HBw8 HCE
      have HLL : Hid (L7 = (l.set j qn).length) := Lib.hid (by rw [List.length_set]; exact HL7.out)
      have n0 := blk_cell HN9.out 0
      have n1 := blk_cell HN9.out 1
      have n2 := blk_cell HN9.out 2
      have n3 := blk_cell HN9.out 3
      have n4 := blk_cell HN9.out 4
      have n5 := blk_cell HN9.out 5
      have r0 := blk_cell HR9.out 0
      have f0 := blk_frozen HR9.out 0
      have r1 := blk_cell HR9.out 1
      have f1 := blk_frozen HR9.out 1
      have r2 := blk_cell HR9.out 2
      have f2 := blk_frozen HR9.out 2
      have r3 := blk_cell HR9.out 3
      have f3 := blk_frozen HR9.out 3
      have r4 := blk_cell HR9.out 4
      have f4 := blk_frozen HR9.out 4
      have r5 := blk_cell HR9.out 5
      have f5 := blk_frozen HR9.out 5
      have HF := Lib.hid (put6_blk HR9.out (.int .i64 (ep + 1)) (.int .i64 k) (.int .i64 m) (.int .i64 p) (.int .i64 d) (.slice (some ⟨g7, 0, none⟩) L7 cap7))
      have HBF := Lib.hid (put6_below HBw9.out (show w.heap.size ≤ w.heap.size + 2 by omega) (.int .i64 (ep + 1)) (.int .i64 k) (.int .i64 m) (.int .i64 p) (.int .i64 d) (.slice (some ⟨g7, 0, none⟩) L7 cap7))
      have HOF := Lib.hid (R_put6 HO9.out (fun k hk => show k ≠ w.heap.size + 2 by have := HSx.out; have := HS4.out; omega) (.int .i64 (ep + 1)) (.int .i64 k) (.int .i64 m) (.int .i64 p) (.int .i64 d) (.slice (some ⟨g7, 0, none⟩) L7 cap7))
      obtain ⟨wf, hwf⟩ : ∃ wf, wf = put6 w9 (w.heap.size + 2) (.int .i64 (ep + 1)) (.int .i64 k) (.int .i64 m) (.int .i64 p) (.int .i64 d) (.slice (some ⟨g7, 0, none⟩) L7 cap7) := ⟨_, rfl⟩
      rw [← hwf] at HF HBF HOF
      simp only [put6] at hwf
      go_wp2_with fail
      rw [← hwf]
      clear hwf r0 r1 r2 r3 r4 r5 f0 f1 f2 f3 f4 f5 n0 n1 n2 n3 n4 n5
      refine bodyPost_ret (results_ct rfl _ _ (w.heap.size + 2) 26 #[.int .i64 (ep + 1), .int .i64 k, .int .i64 m, .int .i64 p, .int .i64 d, (.slice (some ⟨g7, 0, none⟩) L7 cap7)] (0, 0) _ rfl HF.out Try.underlying26 rfl (by kernel_rfl)) rfl ?_
      refine ⟨0, l.set j qn, .inr ⟨j, q, HJ.out, HF0.out, .inr ⟨by rw [HQN.out]; exact HEB.out.symm, rfl, by rw [HQN.out]⟩⟩, HBF.out, .inr ⟨rfl, some ⟨g7, 0, none⟩, cap7, ?_, ?_⟩⟩
      · rw [← HLL.out]
        rfl
      · rw [← HLL.out]
        exact Kd.R_mono (Kd.R_lower HOF.out (by have := HSq.out; have := HS4.out; have := HSx.out; omega)) (fun _ _ => trivial)
  · have ck := blk_cell HG5.out 0
    have gc1 := blk_cell HQ5.out 1
    have gf1 := blk_frozen HQ5.out 1
    have gc2 := blk_cell HQ5.out 2
    have gf2 := blk_frozen HQ5.out 2
    have gc3 := blk_cell HQ5.out 3
    have gf3 := blk_frozen HQ5.out 3
    have gc4 := blk_cell HQ5.out 4
    have gf4 := blk_frozen HQ5.out 4
    have gc5 := blk_cell HQ5.out 5
    have gf5 := blk_frozen HQ5.out 5
    have cc3 := blk_cell HG5.out 4
    have cc4 := blk_cell HG5.out 5
    have cc5 := blk_cell HG5.out 6
    have HQ6 : Hid ((w5.setCell ⟨w4.heap.size, 3, none⟩ (.int .i64 o.f3)).heap[w4.heap.size]? = some (.cells #[.int .i64 q.f0, .bool q.f1, .bool q.f2, .int .i64 o.f3, .int .i64 q.f4, .int .i64 q.f5, .int .i64 q.f6, .int .i64 q.f7] 40 (0, 0))) := Lib.hid (blk_set HQ5.out 3 (.int .i64 o.f3))
    have HB6 := Lib.hid (HB5.out.setCell (p := ⟨w4.heap.size, 3, none⟩) (Nat.le_refl _) (.int .i64 o.f3))
    obtain ⟨w6, hw6⟩ : ∃ w6, w6 = w5.setCell ⟨w4.heap.size, 3, none⟩ (.int .i64 o.f3) := ⟨_, rfl⟩
    rw [← hw6] at HQ6 HB6
    go_upto_region 38 with fail
    rw [← hw6]
    clear hw6 ck gc1 gc2 gc3 gc4 gc5 gf1 gf2 gf3 gf4 gf5 cc3 cc4 cc5
    obtain ⟨qn, hqn⟩ : ∃ qn : Od, qn = { q with f3 := o.f3 } := ⟨_, rfl⟩
    have HQN : Hid (chg 6 q o = qn) := Lib.hid (by rw [hqn]; rfl)
    have HQ6 : Hid (w6.heap[w4.heap.size]? = some (.cells (aggO qn) 40 (0, 0))) := Lib.hid (by rw [hqn]; exact HQ6.out)
    clear hqn
    have HM6 := Lib.hid (blk_below HM4.out HB6.out)
    have HN6 := Lib.hid (blk_below HN4.out HB6.out)
    have HR6 := Lib.hid (blk_below HR4.out HB6.out)
    have HC6 := Lib.hid (Kd.C_below HC4.out HB6.out)
    have HBw6 := Lib.hid (below_then HBw4.out HBw4.out.size HB6.out)
    have HS6 : Hid (w4.heap.size < w6.heap.size) := Lib.hid (blk_lt HQ6.out)
    clear HQ5 HB5
    obtain ⟨eb, heb⟩ : ∃ eb, eb = eqO qn q := ⟨_, rfl⟩
    have hE := eql_O qn q
    rw [← heb] at hE
    have HEB := Lib.hid heb
    clear heb
    have m0 := blk_cell HM6.out 0
    have m1 := blk_cell HM6.out 1
    have m2 := blk_cell HM6.out 2
    have m3 := blk_cell HM6.out 3
    have m4 := blk_cell HM6.out 4
    have m5 := blk_cell HM6.out 5
    obtain ⟨y0, y1, y2, y3, y4, y5, y6, y7⟩ := blkO HQ6.out
    have z0 := (HB6.out.cell (World.block_lt_of_cell? _ _ b0)).trans b0
    have z1 := (HB6.out.cell (World.block_lt_of_cell? _ _ b1)).trans b1
    have z2 := (HB6.out.cell (World.block_lt_of_cell? _ _ b2)).trans b2
    have z3 := (HB6.out.cell (World.block_lt_of_cell? _ _ b3)).trans b3
    have z4 := (HB6.out.cell (World.block_lt_of_cell? _ _ b4)).trans b4
    have z5 := (HB6.out.cell (World.block_lt_of_cell? _ _ b5)).trans b5
    have z6 := (HB6.out.cell (World.block_lt_of_cell? _ _ b6)).trans b6
    have z7 := (HB6.out.cell (World.block_lt_of_cell? _ _ b7)).trans b7
    clear b0 b1 b2 b3 b4 b5 b6 b7
    cases eb with
    | true =>
      go_quiet (fail)
      have HRq := Lib.hid (blk_below HR6.out (pw_below_drewN (Below.refl _ _) nq))
      have HBq := Lib.hid (pw_below_drewN HBw6.out nq)
      obtain ⟨wq, hwq⟩ : ∃ wq, wq = w6.drewN nq := ⟨_, rfl⟩
      rw [← hwq] at HRq HBq ⊢
      clear hwq m0 m1 m2 m3 m4 m5 y0 y1 y2 y3 y4 y5 y6 y7 z0 z1 z2 z3 z4 z5 z6 z7 hE
      have r0 := blk_cell HRq.out 0
      have r1 := blk_cell HRq.out 1
      have r2 := blk_cell HRq.out 2
      have r3 := blk_cell HRq.out 3
      have r4 := blk_cell HRq.out 4
      have r5 := blk_cell HRq.out 5
      have f0 := blk_frozen HRq.out 0
      have f1 := blk_frozen HRq.out 1
      have f2 := blk_frozen HRq.out 2
      have f3 := blk_frozen HRq.out 3
      have f4 := blk_frozen HRq.out 4
      have f5 := blk_frozen HRq.out 5
      have HF := Lib.hid (put6_blk HRq.out (.int .i64 0) (.int .i64 0) (.int .i64 0) (.int .i64 0) (.int .i64 0) (.slice none 0 0))
      have HBF := Lib.hid (put6_below HBq.out (show w.heap.size ≤ w.heap.size + 2 by omega) (.int .i64 0) (.int .i64 0) (.int .i64 0) (.int .i64 0) (.int .i64 0) (.slice none 0 0))
      obtain ⟨wf, hwf⟩ : ∃ wf, wf = put6 wq (w.heap.size + 2) (.int .i64 0) (.int .i64 0) (.int .i64 0) (.int .i64 0) (.int .i64 0) (.slice none 0 0) := ⟨_, rfl⟩
      rw [← hwf] at HF HBF
      simp only [put6] at hwf
      go_wp2_with fail
      rw [← hwf]
      clear hwf
      clear r0 r1 r2 r3 r4 r5 f0 f1 f2 f3 f4 f5
      refine bodyPost_ret (results_ct rfl _ _ (w.heap.size + 2) 26 zM (0, 0) _ rfl HF.out Try.underlying26 rfl (by kernel_rfl)) rfl ?_
      exact ⟨6, [], .inr ⟨j, q, HJ.out, HF0.out, .inl ⟨by rw [HQN.out]; exact HEB.out.symm, rfl⟩⟩, HBF.out, .inl ⟨by decide, rfl⟩⟩
    | false =>
      go_quiet (fail)
      have HMq := Lib.hid (blk_below HM6.out (pw_below_drewN (Below.refl _ _) nq))
      have HNq := Lib.hid (blk_below HN6.out (pw_below_drewN (Below.refl _ _) nq))
      have HRq := Lib.hid (blk_below HR6.out (pw_below_drewN (Below.refl _ _) nq))
      have HQq := Lib.hid (blk_below HQ6.out (pw_below_drewN (Below.refl _ _) nq))
      have HCq := Lib.hid (Kd.C_below HC6.out (pw_below_drewN (Below.refl _ _) nq))
      have HBq := Lib.hid (pw_below_drewN HBw6.out nq)
      have HSq : Hid (w4.heap.size < (w6.drewN nq).heap.size) := Lib.hid (blk_lt HQq.out)
      obtain ⟨wq, hwq⟩ : ∃ wq, wq = w6.drewN nq := ⟨_, rfl⟩
      rw [← hwq] at HMq HNq HRq HQq HCq HBq HSq ⊢
      clear hwq m0 m1 m2 m3 m4 m5 y0 y1 y2 y3 y4 y5 y6 y7 z0 z1 z2 z3 z4 z5 z6 z7 hE HM6 HN6 HR6 HQ6 HC6 HBw6 HS6
      have HBE := Lib.hid (below_alloc (Below.refl wq.heap.size wq) (.cells #[] 40))
      have HOE : Hid (kO.R 40 (wq.alloc (.cells #[] 40)) wq.heap.size (fun k => w4.heap.size < k) (.slice (some ⟨wq.heap.size, 0, none⟩) 0 0) []) := Lib.hid ⟨fun k hk => by have e : wq.heap.size = k := Option.some.inj hk; have := HSq.out; omega, OwnRow.lit wq wq.heap.size (ps := []) (inner := []) (Reps.none _ _) (Nat.le_refl _) (Nat.zero_le _)⟩
      have HCE := Lib.hid (Kd.C_alloc HCq.out (.cells #[] 40))
      have HME := Lib.hid (blk_below HMq.out HBE.out)
      have m5 := blk_cell HMq.out 5
      have m5e := blk_cell HME.out 5
      go_upto_region 41 with (first | (at_builtin; go_must (refine Kd.R_append_rows kO (w0 := wq) wq.heap.size rfl _ _ 24 40 (.agg #[.int .i64 0, .bool false, .bool false, .int .i64 0, .int .i64 0, .int .i64 0, .int .i64 0, .int .i64 0]) 56 rfl Try.underlying24 infoO rfl (by decide) (by decide) _ [] l (some ad) l.length c (fun k => w4.heap.size < k) (fun _ => False) rfl rfl HOE.out HCE.out (fun y cs hk => by rw [k40_open hk]; exact k40_mkM _ _ _ y) (fun _ hk => hk.elim) ?hf HBE.out ?hsz ?hl ?_; (case hf => intro k hk; simp only [World.alloc, Array.size_push] at hk; have := HSq.out; omega); (case hsz => simp only [World.alloc, Array.size_push]; omega); (case hl => have := HL64.out; simp only [List.length_nil]; omega); intro v7 w7 ho hb hg hg2; rw [List.nil_append] at ho; obtain ⟨g7, cap7, rfl, hbg, _, _⟩ := Kd.R_form ho (by exact HLP.out); obtain ⟨L7, hL7⟩ : ∃ L7, L7 = l.length := ⟨_, rfl⟩; rw [← hL7] at ho ⊢; have HL7 := Lib.hid hL7; have HO7 := Lib.hid ho; have HB7 := Lib.hid hb; have HBG := Lib.hid hbg; have HN7 := Lib.hid (blk_below HNq.out hb); have HQ7 := Lib.hid (blk_below HQq.out hb); have HR7 := Lib.hid (blk_below HRq.out hb); have HBw7 := Lib.hid (below_then HBq.out HBq.out.size hb); have nn5 := blk_cell HN7.out 5; have nf5 := blk_frozen HN7.out 5; clear ho hb hg hg2 hbg hL7)) | fail)
      have HN8 := Lib.hid (blk_set HN7.out 5 (.slice (some ⟨g7, 0, none⟩) L7 cap7))
      have HO8 := Lib.hid (Kd.R_grown HO7.out (grown_set w7 w3.heap.size 5 (.slice (some ⟨g7, 0, none⟩) L7 cap7)) (fun k hk e => by have e2 : k = w3.heap.size := Option.some.inj e; have := HS4.out; omega))
      have HQ8 := Lib.hid (blk_far HQ7.out (p := ⟨w3.heap.size, 5, none⟩) (by show w4.heap.size ≠ w3.heap.size; have := HS4.out; omega) (.slice (some ⟨g7, 0, none⟩) L7 cap7))
      have HR8 := Lib.hid (blk_far HR7.out (p := ⟨w3.heap.size, 5, none⟩) (by show w.heap.size + 2 ≠ w3.heap.size; have := HSx.out; omega) (.slice (some ⟨g7, 0, none⟩) L7 cap7))
      have HBw8 := Lib.hid (HBw7.out.setCell (p := ⟨w3.heap.size, 5, none⟩) (by show w.heap.size ≤ w3.heap.size; have := HSx.out; omega) (.slice (some ⟨g7, 0, none⟩) L7 cap7))
      obtain ⟨w8, hw8⟩ : ∃ w8, w8 = w7.setCell ⟨w3.heap.size, 5, none⟩ (.slice (some ⟨g7, 0, none⟩) L7 cap7) := ⟨_, rfl⟩
      rw [← hw8] at HN8 HO8 HQ8 HR8 HBw8 ⊢
      clear hw8 nn5 nf5 HN7 HO7 HQ7 HR7 HBw7 m5 m5e HOE HCE HBE HME HB7
      have HCE := Lib.hid (row_cells HO8.out HJ.out)
      have hj3 : (j : Int) < (L7 : Int) := by have := HL7.out; omega
      have hlt7 : decide (j < L7) = true := decide_eq_true (by have := HL7.out; omega)
      have n5 := blk_cell HN8.out 5
      obtain ⟨y0, y1, y2, y3, y4, y5, y6, y7⟩ := blkO HQ8.out
      go_upto_region 42 with (first | ((with_reducible refine gate_store (t := 40) (p := 150) (v := .tmp 149) rfl ?_); go_must (refine Kd.R_store kO (w0 := w8) wq.heap.size rfl rfl 40 _ _ rfl 40 (j : Int) 0 l qn (.agg (aggO qn)) (aggO qn).toList [.int .i64 q.f0, .bool q.f1, .bool q.f2, .int .i64 q.f3, .int .i64 q.f4, .int .i64 q.f5, .int .i64 q.f6, .int .i64 q.f7] (fun k => w4.heap.size < k) (fun _ => False) rfl rfl rfl rfl (by kernel_rfl) (by simp [Value.oneCell']) HO8.out hj1 hj3 rfl HCE.out (Nat.le_refl 8) (k40_mkM _ _ _ qn) (fun _ hk => hk.elim) (Below.refl _ _) ?_; intro w9 ho hb hg; have HO9 := Lib.hid (show kO.R 40 w9 wq.heap.size (fun k => w4.heap.size < k) (.slice (some ⟨g7, 0, none⟩) L7 cap7) (l.set j qn) from ho); have HN9 := Lib.hid (blk_grown HN8.out hg (by intro e; injection e with e; have := HBG.out; have := HSq.out; have := HS4.out; omega)); have HR9 := Lib.hid (blk_grown HR8.out hg (by intro e; injection e with e; have := HBG.out; have := HSq.out; have := HS4.out; have := HSx.out; omega)); have HBw9 := Lib.hid (HBw8.out.grown hg HBw8.out.size (fun k hk => by injection hk with hk; have := HBG.out; have := HSq.out; have := HS4.out; have := HSx.out; omega)); clear ho hb hg)) | fail)
      clear n5 y0 y1 y2 y3 y4 y5 y6 y7 hj3 hlt7 HO8 HN8 HQ8 HR8 HBw8 HCE
      have HLL : Hid (L7 = (l.set j qn).length) := Lib.hid (by rw [List.length_set]; exact HL7.out)
      have n0 := blk_cell HN9.out 0
      have n1 := blk_cell HN9.out 1
      have n2 := blk_cell HN9.out 2
      have n3 := blk_cell HN9.out 3
      have n4 := blk_cell HN9.out 4
      have n5 := blk_cell HN9.out 5
      have r0 := blk_cell HR9.out 0
      have f0 := blk_frozen HR9.out 0
      have r1 := blk_cell HR9.out 1
      have f1 := blk_frozen HR9.out 1
      have r2 := blk_cell HR9.out 2
      have f2 := blk_frozen HR9.out 2
      have r3 := blk_cell HR9.out 3
      have f3 := blk_frozen HR9.out 3
      have r4 := blk_cell HR9.out 4
      have f4 := blk_frozen HR9.out 4
      have r5 := blk_cell HR9.out 5
      have f5 := blk_frozen HR9.out 5
      have HF := Lib.hid (put6_blk HR9.out (.int .i64 (ep + 1)) (.int .i64 k) (.int .i64 m) (.int .i64 p) (.int .i64 d) (.slice (some ⟨g7, 0, none⟩) L7 cap7))
      have HBF := Lib.hid (put6_below HBw9.out (show w.heap.size ≤ w.heap.size + 2 by omega) (.int .i64 (ep + 1)) (.int .i64 k) (.int .i64 m) (.int .i64 p) (.int .i64 d) (.slice (some ⟨g7, 0, none⟩) L7 cap7))
      have HOF := Lib.hid (R_put6 HO9.out (fun k hk => show k ≠ w.heap.size + 2 by have := HSx.out; have := HS4.out; omega) (.int .i64 (ep + 1)) (.int .i64 k) (.int .i64 m) (.int .i64 p) (.int .i64 d) (.slice (some ⟨g7, 0, none⟩) L7 cap7))
      obtain ⟨wf, hwf⟩ : ∃ wf, wf = put6 w9 (w.heap.size + 2) (.int .i64 (ep + 1)) (.int .i64 k) (.int .i64 m) (.int .i64 p) (.int .i64 d) (.slice (some ⟨g7, 0, none⟩) L7 cap7) := ⟨_, rfl⟩
      rw [← hwf] at HF HBF HOF
      simp only [put6] at hwf
      go_wp2_with fail
      rw [← hwf]
      clear hwf r0 r1 r2 r3 r4 r5 f0 f1 f2 f3 f4 f5 n0 n1 n2 n3 n4 n5
      refine bodyPost_ret (results_ct rfl _ _ (w.heap.size + 2) 26 #[.int .i64 (ep + 1), .int .i64 k, .int .i64 m, .int .i64 p, .int .i64 d, (.slice (some ⟨g7, 0, none⟩) L7 cap7)] (0, 0) _ rfl HF.out Try.underlying26 rfl (by kernel_rfl)) rfl ?_
      refine ⟨0, l.set j qn, .inr ⟨j, q, HJ.out, HF0.out, .inr ⟨by rw [HQN.out]; exact HEB.out.symm, rfl, by rw [HQN.out]⟩⟩, HBF.out, .inr ⟨rfl, some ⟨g7, 0, none⟩, cap7, ?_, ?_⟩⟩
      · rw [← HLL.out]
        rfl
      · rw [← HLL.out]
        exact Kd.R_mono (Kd.R_lower HOF.out (by have := HSq.out; have := HS4.out; have := HSx.out; omega)) (fun _ _ => trivial)
end Go.Proofs.Ytnpphmgibgfjoaa.ApZ
/- The document's Apply in one, and what it keeps. -/
namespace Go.Proofs.Ytnpphmgibgfjoaa.ApW
open Go Go.RowKit Go.Proofs.YtnpphmgibgfjoaaW.PrintWords Mem PAll KW MixP MixW StrP AtA Srt Grp Sl Dsc AtB Roo Cho MayP Awk ApP Fnd McW ApY ApZ
open CrP hiding Od
theorem chg_f (kd : Int) (q o : Od) : (chg kd q o).f0 = q.f0 ∧ (chg kd q o).f6 = q.f6 ∧ (chg kd q o).f7 = q.f7 := by
  unfold chg
  split
  · exact ⟨rfl, rfl, rfl⟩
  · split
    · exact ⟨rfl, rfl, rfl⟩
    · split
      · exact ⟨rfl, rfl, rfl⟩
      · split
        · exact ⟨rfl, rfl, rfl⟩
        · exact ⟨rfl, rfl, rfl⟩
theorem within1_iff {a b : Int} : McW.within1 a b = true ↔ 1 ≤ a ∧ a ≤ b := by unfold McW.within1; exact decide_eq_true_iff
theorem kinds {kd : Int} {o : Od} (h : mayC kd o = true) : kd = 1 ∨ kd = 2 ∨ kd = 3 ∨ kd = 4 ∨ kd = 5 ∨ kd = 6 := by
  unfold mayC at h
  by_cases h1 : kd = 1
  · exact .inl h1
  by_cases h2 : kd = 2
  · exact .inr (.inl h2)
  by_cases h6 : kd = 6
  · exact .inr (.inr (.inr (.inr (.inr h6))))
  by_cases h3 : kd = 3 ∨ kd = 4 ∨ kd = 5
  · rcases h3 with h3 | h3 | h3
    · exact .inr (.inr (.inl h3))
    · exact .inr (.inr (.inr (.inl h3)))
    · exact .inr (.inr (.inr (.inr (.inl h3))))
  · rw [if_neg h1, if_neg h2, if_neg h6, if_neg h3] at h
    cases h
theorem osdB_chg {kd : Int} {q o : Od} (hq : osdB q = true) (hc : mayC kd o = true) (h1 : kd ≠ 1) : osdB (chg kd q o) = true := by
  rcases kinds hc with rfl | rfl | rfl | rfl | rfl | rfl
  · exact absurd rfl h1
  · have hc2 : (eqO o ⟨o.f0, false, false, 0, o.f4, o.f5, 0, 0⟩ && (winB o.f0 999 && (McW.within1 o.f4 2147483647 && McW.within1 o.f5 2147483647))) = true := hc
    simp only [Bool.and_eq_true, within1_iff] at hc2
    show osdB { q with f1 := true, f4 := o.f4, f5 := o.f5 } = true
    unfold osdB winB at *
    simp only [Bool.and_eq_true, decide_eq_true_eq, Bool.or_eq_true, Bool.not_eq_true'] at hq ⊢
    refine ⟨hq.1, hq.2.1, hq.2.2.1, hq.2.2.2.1, ⟨by omega, by omega⟩, ⟨by omega, by omega⟩, .inr ⟨by omega, by omega⟩⟩
  · show osdB { q with f1 := false } = true
    unfold osdB at *
    simp only [Bool.and_eq_true, Bool.not_false, Bool.true_or, and_true] at hq ⊢
    exact ⟨hq.1, hq.2.1, hq.2.2.1, hq.2.2.2.1, hq.2.2.2.2.1, hq.2.2.2.2.2.1⟩
  · exact hq
  · exact hq
  · have hc2 : (eqO o ⟨o.f0, false, false, o.f3, 0, 0, 0, 0⟩ && (winB o.f0 999 && winB o.f3 16777216)) = true := hc
    simp only [Bool.and_eq_true] at hc2
    show osdB { q with f3 := o.f3 } = true
    unfold osdB at *
    simp only [Bool.and_eq_true] at hq ⊢
    exact ⟨hq.1, hq.2.1, hq.2.2.1, hc2.2.2, hq.2.2.2.2⟩
theorem good_set {l : List Od} {j : Nat} {q q' : Od} (h : AtA.Good l l.length) (hj : l[j]? = some q) (ho : osdB q' = true) (e0 : q'.f0 = q.f0) (e6 : q'.f6 = q.f6) (e7 : q'.f7 = q.f7) : AtA.Good (l.set j q') (l.set j q').length := by
  have hjl := (List.getElem?_eq_some_iff.1 hj).1
  have key : ∀ (k : Nat) (o : Od), (l.set j q')[k]? = some o → ∃ o', l[k]? = some o' ∧ o.f0 = o'.f0 ∧ o.f6 = o'.f6 ∧ o.f7 = o'.f7 ∧ (osdB o' = true → osdB o = true) := by
    intro k o hk
    by_cases e : j = k
    · subst e
      rw [List.getElem?_set_self hjl] at hk
      obtain rfl := Option.some.inj hk
      exact ⟨q, hj, e0, e6, e7, fun _ => ho⟩
    · rw [List.getElem?_set_ne e] at hk
      exact ⟨o, hk, rfl, rfl, rfl, id⟩
  intro k o hk hko
  rw [List.length_set] at hk
  obtain ⟨o', h1, a0, a6, a7, ab⟩ := key k o hko
  obtain ⟨g1, g2⟩ := h k o' hk h1
  refine ⟨ab g1, fun i p hi hp => ?_⟩
  obtain ⟨p', p1, c0, c6, c7, _⟩ := key i p hp
  have := g2 i p' hi p1
  rw [a0, a6, a7, c0, c6, c7]
  exact this
theorem may_ep {ep k m p d : Int} {l : List Od} (h : mayB ep k m p d l = true) : 0 ≤ ep ∧ ep ≤ 1048576 := by
  unfold mayB winB at h
  simp only [Bool.and_eq_true, decide_eq_true_eq] at h
  omega
theorem may_next {ep k m p d : Int} {l : List Od} (h : mayB ep k m p d l = true) (hep : (ep == 1048576) = false) {l' : List Od} (hl : l'.length ≤ 64) (hg : goodB l' = true) : mayB (ep + 1) k m p d l' = true := by
  have h1 := may_ep h
  have h2 : ep ≠ 1048576 := fun e => by rw [e] at hep; cases hep
  unfold mayB winB at h ⊢
  simp only [Bool.and_eq_true, decide_eq_true_eq] at h ⊢
  exact ⟨by omega, h.2.1, hl, hg⟩
theorem may_set {ep k m p d : Int} {l : List Od} {kd : Int} {o q : Od} {j : Nat} (h : mayB ep k m p d l = true) (hep : (ep == 1048576) = false) (hc : mayC kd o = true) (h1 : kd ≠ 1) (hj : l[j]? = some q) : mayB (ep + 1) k m p d (l.set j (chg kd q o)) = true := by
  obtain ⟨g1, g2⟩ := may_good h
  obtain ⟨e0, e6, e7⟩ := chg_f kd q o
  refine may_next h hep (by rw [List.length_set]; exact g1) (goodB_yes (good_set (goodB_iff.1 g2) hj (osdB_chg (may_osd h q (List.mem_of_getElem? hj)) hc h1) e0 e6 e7))
/-- Apply: why there is no map; or one of the next epoch that may be, of the same pool, with a row of its own. -/
theorem apply_any (ep k m p d : Int) (A : Option Addr) (c : Nat) (l : List Od) (kd : Int) (o : Od) (w : World) (hx : kO.C w A l.length l) (hcap : l.length ≤ c) :
    Calls Try.prog 49 #[.agg (boxM ep k m p d A c l), .agg (chA kd o)] w fun e w' => ∃ er : Int, Below w.heap.size w w' ∧ ((er ≠ 0 ∧ e = .returned (.tuple #[.agg zM, .int .i64 er])) ∨ ∃ (l' : List Od) (A' : Option Addr) (c' : Nat), er = 0 ∧ e = .returned (.tuple #[.agg (boxM (ep + 1) k m p d A' c' l'), .int .i64 0]) ∧ kO.R 40 w' w.heap.size (fun _ => True) (.slice A' l'.length c') l' ∧ mayB (ep + 1) k m p d l' = true) := by
  by_cases hb : (mayB ep k m p d l && (mayC kd o && !(ep == 1048576))) = false
  · refine (apply_bad ep k m p d A c l kd o w hx hcap hb).mono ?_
    rintro e w1 ⟨rfl, h⟩
    exact ⟨1, h, .inl ⟨by decide, rfl⟩⟩
  have hb2 : (mayB ep k m p d l && (mayC kd o && !(ep == 1048576))) = true := by
    cases hq : (mayB ep k m p d l && (mayC kd o && !(ep == 1048576)))
    · exact absurd hq hb
    · rfl
  simp only [Bool.and_eq_true, Bool.not_eq_true'] at hb2
  obtain ⟨hm, hc, hep⟩ := hb2
  obtain ⟨he0, he1⟩ := may_ep hm
  by_cases h1 : kd = 1
  · subst h1
    refine (apply_add ep k m p d A c l o w hx hcap hm hc hep he0 he1).mono ?_
    rintro e w1 ⟨er, l', h, hbl, h2⟩
    refine ⟨er, hbl, h2.imp id ?_⟩
    rintro ⟨h0, A', c', h3, h4⟩
    refine ⟨l', A', c', h0, h3, h4, ?_⟩
    rw [h0] at h
    unfold applyR at h
    rw [if_neg (by rw [hm, hc, hep]; decide), if_pos rfl] at h
    split at h
    · injection h with h _; cases h
    · split at h
      · injection h with h _; cases h
      · split at h
        · rename_i hmm
          injection h with _ h
          rw [← h]
          exact hmm
        · injection h with h _; cases h
  · refine (apply_set ep k m p d A c l kd o w hx hcap (by rcases kinds hc with h | h; exact absurd h h1; exact h) hm hc hep he0 he1 (may_good hm).1).mono ?_
    rintro e w1 ⟨er, l', h, hbl, h2⟩
    refine ⟨er, hbl, h2.imp id ?_⟩
    rintro ⟨h0, A', c', h3, h4⟩
    refine ⟨l', A', c', h0, h3, h4, ?_⟩
    rcases h with ⟨_, h⟩ | ⟨j, q, hj, _, h | h⟩
    · omega
    · omega
    · rw [h.2.2]
      exact may_set hm hep hc h1 hj
end Go.Proofs.Ytnpphmgibgfjoaa.ApW
