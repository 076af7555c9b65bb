import Derived.Test.YtnpphmgibgfjoaaKDm1
import Derived.Maps.Views
import Derived.Shelf.Abstract
import Derived.Lib.BufferWrite
import Derived.Test.YtnpphmgibgfjoaaPAllx2
import Derived.Test.YtnpphmgibgfjoaaPAllx3
import Derived.Test.YtnpphmgibgfjoaaPAllx4
import Derived.Test.YtnpphmgibgfjoaaPAllx10
/- Merged texts, one behind the other: Cho, MayP, Awk, UpsP, ApP, Fnd, PlF, PlU, Rds, WghP, Wgh, Chr, IntG, Ups, UpsO, LDe, DeO. -/
/- crush.Choose. -/
namespace Go.Proofs.Ytnpphmgibgfjoaa.Cho
open Go Go.RowKit Go.Proofs.YtnpphmgibgfjoaaW.PrintWords Go.Proofs.YtnpphmgibgfjoaaW.PrintMore Mem PAll KW MixP MixW StrP StrW AtA Srt Grp Sl Dsc AtB Roo Rep
open CrP hiding Od
open Go.Maps (Keyed int_keyed keyOf_int_mk)
theorem zeroBo (w : World) : (zeroValue 4).run Try.prog w = .ok (.bool false) w := by kernel_rfl
theorem plainElem_bool_inv {H : Type} {P : Program} {e : TypeId} (he : P.underlying e = some .bool) {v : Value} {z : DataW H × List MemPlace} (h : plainElem P e v = some z) : ∃ b, v = .bool b ∧ z = (.lit (.bool b), []) := by
  unfold plainElem at h
  rw [he] at h
  cases v <;> simp at h
  exact ⟨_, rfl, h.symm⟩
abbrev OB (w : World) (b n : Nat) (D : DW) : Prop := w.ownsMap Try.prog 3 (plainElem Try.prog 4) b n D
theorem look_met {w : World} {b n : Nat} {D : DW} (h : OB w b n D) (v : Int) (hv : (Lit.int .i64 v).wf = true) : ∃ c, (Instr.lookup 75 (.map (some b)) (.int .i64 v) false).run Try.prog w = .ok (.bool c) w ∧ D.atKey (.int .i64 v) (.lit (.bool false)) = .lit (.bool c) := by
  obtain ⟨y, ps, hrun, hy⟩ := h.lookup keyI Try.underlying75 (zeroBo w) (plainElem_bool Try.underlying4 false) (keyOf_int_mk Try.underlying3 hv)
  obtain ⟨c, rfl, hc⟩ := plainElem_bool_inv Try.underlying4 hy
  exact ⟨c, hrun, congrArg Prod.fst hc⟩
def Taken (met : List Int) (D : DW) : Prop := ∀ v : Int, D.atKey (.int .i64 v) (.lit (.bool false)) = .lit (.bool (decide (v ∈ met)))
theorem taken_put {met : List Int} {D : DW} {u : Int} (h : Taken met D) (hm : Go.Maps.IsMap D) : Taken (u :: met) (D.put (.int .i64 u) (.lit (.bool true))) := by
  intro v
  by_cases e : v = u
  · subst e
    rw [Go.Maps.atKey_put_same hm (by trivial)]
    simp
  · rw [Go.Maps.atKey_put_other (by intro hh; injection hh with _ hh; exact e hh), h v]
    simp [e]
theorem taken_nil : Taken [] (.map []) := fun _ => rfl
theorem look_taken {w : World} {b n : Nat} {D : DW} {met : List Int} (h : OB w b n D) (ht : Taken met D) (v : Int) (hv : (Lit.int .i64 v).wf = true) : (Instr.lookup 75 (.map (some b)) (.int .i64 v) false).run Try.prog w = .ok (.bool (decide (v ∈ met))) w := by
  obtain ⟨c, hrun, hc⟩ := look_met h v hv
  rw [ht v] at hc
  have : c = decide (v ∈ met) := by simpa using hc.symm
  rw [← this]; exact hrun
theorem ob_below {w w1 : World} {b n : Nat} {D : DW} (h : OB w b n D) (hb : Below w.heap.size w w1) : OB w1 b n D := h.kept (grown_of_below hb none) (by simp)
theorem key_any (lv : Nat) (h : lv = 1 ∨ lv = 2 ∨ lv = 3) (o : Od) (w : World) : Calls Try.prog (fnL lv) #[.agg (aggO o)] w fun e w' => e = .returned (.int .i64 (keyN lv o)) ∧ Below w.heap.size w w' := by
  rcases h with rfl | rfl | rfl
  · exact rack_calls o w
  · exact host_calls o w
  · exact self_calls o w
theorem enters_any (lv : Nat) (h : lv = 1 ∨ lv = 2 ∨ lv = 3) : ∀ args w, (callFunc (fnL lv) args).run Try.prog w = .ok (.enter (fnL lv) args) w := by
  rcases h with rfl | rfl | rfl
  · exact enters_of Try.func69 (by kernel_rfl) rfl
  · exact enters_of Try.func68 (by kernel_rfl) rfl
  · exact enters_of Try.func67 (by kernel_rfl) rfl
theorem lvl_sub {x r : Int} {lv : Nat} {l l' : List Od} (h : lvl x r lv l = some l') : ∀ o ∈ l', o ∈ l := by
  obtain ⟨v, _, _, rfl⟩ := lvl_some h
  exact fun o ho => (List.mem_filter.1 ho).1
theorem desc_mem {x r : Int} {l : List Od} {o : Od} (h : desc x r l = some o) : o ∈ l := by
  unfold desc at h
  cases h1 : lvl x r 1 l with
  | none => rw [h1] at h; cases h
  | some l1 =>
    rw [h1] at h
    change ((lvl x r 2 l1).bind (lvl x r 3)).bind List.head? = some o at h
    cases h2 : lvl x r 2 l1 with
    | none => rw [h2] at h; cases h
    | some l2 =>
      rw [h2] at h
      change (lvl x r 3 l2).bind List.head? = some o at h
      cases h3 : lvl x r 3 l2 with
      | none => rw [h3] at h; cases h
      | some l3 =>
        rw [h3] at h
        change l3.head? = some o at h
        exact lvl_sub h1 o (lvl_sub h2 o (lvl_sub h3 o (List.mem_of_head? h)))
/-! ### what has been chosen so far -/
structure Cho (l : List Od) (x want : Int) (lv n p : Nat) (outs taken : List Int) : Prop where
  hp : p ≤ n
  len : outs.length = p
  all : outs ++ places l x want lv (n - p) p taken = places l x want lv n 0 []
theorem Cho.start (l : List Od) (x want : Int) (lv n : Nat) : Cho l x want lv n 0 [] [] := ⟨Nat.zero_le _, rfl, rfl⟩
theorem Cho.some {l : List Od} {x want : Int} {lv n p : Nat} {outs taken : List Int} {o : Od} (h : Cho l x want lv n p outs taken) (hp : p < n) (ht : tries l x want p lv taken 50 0 = some o) : Cho l x want lv n (p + 1) (outs ++ [o.f0]) (keyN lv o :: taken) := by
  refine ⟨hp, by rw [List.length_append, h.len]; rfl, ?_⟩
  rw [← h.all, show n - p = (n - (p + 1)) + 1 by omega]
  simp only [places, ht, List.append_assoc, List.singleton_append]
theorem Cho.none {l : List Od} {x want : Int} {lv n p : Nat} {outs taken : List Int} (h : Cho l x want lv n p outs taken) (hp : p < n) (ht : tries l x want p lv taken 50 0 = none) : Cho l x want lv n (p + 1) (outs ++ [-1]) taken := by
  refine ⟨hp, by rw [List.length_append, h.len]; rfl, ?_⟩
  rw [← h.all, show n - p = (n - (p + 1)) + 1 by omega]
  simp only [places, ht, List.append_assoc, List.singleton_append]
abbrev outA (n : Nat) (outs : List Int) : Array Value := (outs.map (Value.int .i64) ++ List.replicate (n - outs.length) (Value.int .i64 (-1))).toArray
theorem outA_none {n : Nat} {outs : List Int} (h : outs.length < n) : outA n (outs ++ [-1]) = outA n outs := by
  refine congrArg List.toArray ?_
  rw [List.map_append, List.append_assoc, List.length_append, show n - outs.length = (n - (outs.length + [(-1 : Int)].length)) + 1 by simp only [List.length_singleton]; omega, List.replicate_succ]
  rfl
theorem outA_set {n : Nat} {outs : List Int} (h : outs.length < n) (v : Int) : (outA n outs).setIfInBounds outs.length (.int .i64 v) = outA n (outs ++ [v]) := by
  rw [List.setIfInBounds_toArray]
  refine congrArg List.toArray ?_
  rw [List.set_append_right _ _ (by simp), List.length_map, Nat.sub_self, show n - outs.length = (n - (outs.length + 1)) + 1 by omega, List.replicate_succ, List.set_cons_zero, List.map_append, List.append_assoc, List.length_append]
  rfl
theorem outA_size {n : Nat} {outs : List Int} (h : outs.length ≤ n) : (outA n outs).size = n := by simp; omega
theorem outA_get {n : Nat} {outs : List Int} (h : outs.length < n) : (outA n outs)[outs.length]? = some (.int .i64 (-1)) := by
  rw [List.getElem?_toArray, List.getElem?_append_right (by simp), List.length_map, Nat.sub_self, List.getElem?_replicate, if_pos (by omega)]
set_option maxHeartbeats 8000000 in
set_option maxRecDepth 100000 in
theorem Choose_ok (ep k m p d : Int) (A : Option Addr) (c : Nat) (l : List Od) (dm x : Int) (n : Nat) (w : World) (hx : kO.C w A l.length l) (hwf : WfL l) (hm : mayB ep k m p d l = true) (hd : domB dm = true) (h1 : 1 ≤ n) (h2 : n ≤ 32) :
    Calls Try.prog 15 #[.agg (boxM ep k m p d A c l), .agg #[.int .i64 dm, .int .i64 n], .int .u32 x] w fun e w' => ∃ g, e = .returned (.tuple #[.slice (some ⟨g, 0, none⟩) n n, .int .i64 0]) ∧ w.heap.size ≤ g ∧ w'.heap[g]? = some (.cells (outA n (places l x n (domL dm) n 0 [])) 3 (0, 0)) ∧ Below w.heap.size w w' := by
  have HX := Lib.hid hx
  have HN1 := Lib.hid h1
  have HN2 := Lib.hid h2
  have HGL := Lib.hid (may_goodL hm)
  have HBA := Lib.hid (below_alloc (below_alloc (Below.refl w.heap.size w) (.cells (boxM ep k m p d A c l) 26)) (.cells #[.int .i64 dm, .int .i64 n] 28))
  have HC1 := Lib.hid (Kd.C_alloc (Kd.C_alloc hx (.cells (boxM ep k m p d A c l) 26)) (.cells #[.int .i64 dm, .int .i64 n] 28))
  have HM1 : Hid (((w.alloc (.cells (boxM ep k m p d A c l) 26)).alloc (.cells #[.int .i64 dm, .int .i64 n] 28)).heap[w.heap.size]? = some (.cells (boxM ep k m p d A c l) 26 (0, 0))) := Lib.hid (blk_below (blk_new _ _) (below_alloc (Below.refl _ _) _))
  have HU1 : Hid (((w.alloc (.cells (boxM ep k m p d A c l) 26)).alloc (.cells #[.int .i64 dm, .int .i64 n] 28)).heap[w.heap.size + 1]? = some (.cells #[.int .i64 dm, .int .i64 n] 28 (0, 0))) := Lib.hid (by have h := blk_new (w.alloc (.cells (boxM ep k m p d A c l) 26)) (.cells #[.int .i64 dm, .int .i64 n] 28); simp only [World.alloc, Array.size_push] at h ⊢; exact h)
  have T := Lib.hid (fun c0 w0 h0 => check_calls ep k m p d A c0 l w0 h0 hwf)
  have TO := Lib.hid (of_calls dm)
  obtain ⟨lv, hlv⟩ : ∃ lv, lv = domL dm := ⟨_, rfl⟩
  have HLV : Hid (lv = 1 ∨ lv = 2 ∨ lv = 3) := Lib.hid (by rw [hlv]; exact domL_any dm)
  obtain ⟨kf, hkf⟩ : ∃ kf, kf = fnL lv := ⟨_, rfl⟩
  have HOF : Hid (ofV dm = .func (.func kf) #[] #[]) := Lib.hid (by unfold ofV; rw [hd, if_pos rfl, ← hlv, hkf])
  have HMB := Lib.hid hm
  rw [← hlv]
  have HKF := Lib.hid hkf
  have hef : ∀ args w, (callFunc kf args).run Try.prog w = .ok (.enter kf args) w := by rw [hkf]; exact enters_any lv HLV.out
  have hq1 := eql_func_nil
  have b1 : decide ((n : Int) < 1) = false := decide_eq_false (by omega)
  have b2 : decide ((32 : Int) < (n : Int)) = false := decide_eq_false (by omega)
  have hmm := @run_makeMap Try.prog
  clear hx hwf hm hd h1 h2 hlv hkf
  unfold boxM at *
  go_enter Try.func15, Try.ntmps15
  go_wp2_with fail
  refine (TO.out _).mono ?_
  rintro e w0 ⟨rfl, rfl⟩
  rw [HOF.out]
  go_wp2_with fail
  refine (T.out c _ HC1.out).mono ?_
  rintro e w1 ⟨rfl, hb⟩
  rw [HMB.out]
  have HB2 := Lib.hid (below_then HBA.out HBA.out.size hb)
  have HC2 := Lib.hid (Kd.C_below HC1.out hb)
  have HM2 := Lib.hid (blk_below HM1.out hb)
  have HU2 := Lib.hid (blk_below HU1.out hb)
  have HW2 : Hid (w.heap.size + 2 ≤ w1.heap.size) := Lib.hid (by have := hb.size; simp only [World.alloc, Array.size_push] at this; omega)
  clear hb T TO HOF HBA HC1 HM1 HU1
  have u1 := blk_cell HU2.out 1
  have HBB := Lib.hid (below_alloc (below_alloc (Below.refl w1.heap.size w1) (.map #[] 0)) (.cells #[.int .i64 (-1)] 3))
  have u2 := (blk_cell (blk_below HU2.out HBB.out) 1)
  have HO1 : Hid (OB ((w1.alloc (.map #[] 0)).alloc (.cells #[.int .i64 (-1)] 3)) w1.heap.size 0 (.map [])) := Lib.hid (ob_below (World.ownsMap_made w1 Try.prog _ _) (below_alloc (Below.refl _ _) _))
  have HG1 : Hid (((w1.alloc (.map #[] 0)).alloc (.cells #[.int .i64 (-1)] 3)).heap[w1.heap.size + 1]? = some (.cells #[.int .i64 (-1)] 3 (0, 0))) := Lib.hid (by have h := blk_new (w1.alloc (.map #[] 0)) (.cells #[.int .i64 (-1)] 3); simp only [World.alloc, Array.size_push] at h ⊢; exact h)
  have HB3 := Lib.hid (below_then HB2.out HB2.out.size HBB.out)
  have HC3 := Lib.hid (Kd.C_below HC2.out HBB.out)
  have HM3 := Lib.hid (blk_below HM2.out HBB.out)
  have HU3 := Lib.hid (blk_below HU2.out HBB.out)
  have HLT : Hid (w1.heap.size < ((w1.alloc (.map #[] 0)).alloc (.cells #[.int .i64 (-1)] 3)).heap.size) := Lib.hid (by simp only [World.alloc, Array.size_push]; omega)
  have T := Lib.hid (repeat_calls (w1.heap.size + 1) n ((w1.alloc (.map #[] 0)).alloc (.cells #[.int .i64 (-1)] 3)) HG1.out HN1.out HN2.out)
  have HMG : Hid (w.heap.size + 2 ≤ w1.heap.size) := HW2
  go_wp2_with fail
  obtain ⟨w2, hw2⟩ : ∃ w2, w2 = (w1.alloc (.map #[] 0)).alloc (.cells #[.int .i64 (-1)] 3) := ⟨_, rfl⟩
  rw [← hw2] at HO1 HB3 HC3 HM3 HU3 T HLT ⊢
  obtain ⟨b, hb⟩ : ∃ b, b = w1.heap.size := ⟨_, rfl⟩
  rw [← hb] at HO1 HLT HMG T ⊢
  clear hw2 hb HW2 HBB HG1 HB2 HC2 HM2 HU2 u1 u2 hmm hq1 b1 b2
  refine T.out.mono ?_
  rintro e w3 ⟨g, rfl, hg, hgh, hb⟩
  have HO4 := Lib.hid (ob_below HO1.out hb)
  have HB4 := Lib.hid (below_then HB3.out HB3.out.size hb)
  have HC4 := Lib.hid (Kd.C_below HC3.out hb)
  have HM4 := Lib.hid (blk_below HM3.out hb)
  have HU4 := Lib.hid (blk_below HU3.out hb)
  have HG4 : Hid (w3.heap[g]? = some (.cells (outA n []) 3 (0, 0))) := Lib.hid (by rw [hgh, show Array.replicate n (Value.int .i64 (-1)) = outA n [] by simp [outA]])
  have HGB : Hid (b < g ∧ w.heap.size ≤ g) := Lib.hid (by have := HLT.out; have := HMG.out; omega)
  clear hgh hb hg T HO1 HB3 HC3 HM3 HU3 HLT HC4
  go_wp2_with fail
  go_loopw [42] (fun i' wr => ∃ (pl cnt : Nat) (outs taken : List Int) (D : DW), i' = .int .i64 pl ∧ Hid (Cho l x n lv n pl outs taken) ∧ Hid (cnt ≤ pl) ∧ Hid (OB wr b cnt D) ∧ Hid (Taken taken D) ∧ Hid (wr.heap[g]? = some (.cells (outA n outs) 3 (0, 0))) ∧ Hid (wr.heap[w.heap.size]? = some (.cells #[.int .i64 ep, .int .i64 k, .int .i64 m, .int .i64 p, .int .i64 d, .slice A l.length c] 26 (0, 0))) ∧ Hid (wr.heap[w.heap.size + 1]? = some (.cells #[.int .i64 dm, .int .i64 n] 28 (0, 0))) ∧ Hid (Below w.heap.size w wr)) (fun i' _ => (n - intOf i').toNat)
  case atStart => exact ⟨0, 0, [], [], .map [], rfl, Lib.hid (Cho.start _ _ _ _ _), Lib.hid (Nat.le_refl _), HO4, Lib.hid taken_nil, HG4, HM4, HU4, HB4⟩
  case round =>
    obtain ⟨pl, cnt, outs, taken, D, rfl, HCH, HCN, HO, HTK, HG, HM, HU, HB⟩ := hrel
    clear HO4 HG4 HM4 HU4 HB4
    have hpn := HCH.out.hp
    have HLE := Lib.hid HCH.out.len
    by_cases h : pl < n
    · have hlt : decide ((pl : Int) < (n : Int)) = true := decide_eq_true (by omega)
      have hlt2 : decide (pl < n) = true := decide_eq_true h
      have HPN := Lib.hid h
      have hpl32 : pl ≤ 31 := by have := HN2.out; omega
      obtain ⟨wo, hwo⟩ : ∃ wo, wo = wr := ⟨_, rfl⟩
      rw [← hwo] at HO HG HM HU HB ⊢
      have HB0 := Lib.hid (Below.refl wo.heap.size wo)
      clear h hwo
      go_wp2_with fail
      go_loopw [45] (fun t' wq => ∃ t : Nat, t' = .int .i64 t ∧ Hid (t ≤ 50 ∧ tries l x n pl lv taken (50 - t) t = tries l x n pl lv taken 50 0) ∧ Hid (Below wo.heap.size wo wq)) (fun t' _ => (50 - intOf t').toNat)
      case atStart => exact ⟨0, rfl, Lib.hid ⟨by omega, rfl⟩, HB0⟩
      case round =>
        obtain ⟨t, rfl, HT, HBQ⟩ := hrel
        clear HB0
        have ht50 := HT.out.1
        have HBW := Lib.hid (below_then HB.out HB.out.size HBQ.out)
        by_cases h : t < 50
        · have hl3 : decide ((t : Int) < 50) = true := decide_eq_true (by omega)
          have m5 := blk_cell (blk_below HM.out HBQ.out) 5
          have u1 := blk_cell (blk_below HU.out HBQ.out) 1
          obtain ⟨tn, htn⟩ : ∃ tn : Nat, tn = t * n := ⟨_, rfl⟩
          have htn2 : tn ≤ 1600 := by rw [htn]; exact Nat.le_trans (Nat.mul_le_mul (show t ≤ 50 by omega) HN2.out) (by decide)
          have k1 : IntKind.i64.wrap ((t : Int) * (n : Int)) = (tn : Int) := by
            rw [show ((t : Int) * (n : Int)) = (tn : Int) by rw [htn]; exact (Int.natCast_mul t n).symm]
            exact IntWalk.i64_in _ (by omega)
          have k2 : IntKind.i64.wrap ((pl : Int) + (tn : Int)) = (pl : Int) + tn := IntWalk.i64_in _ (by omega)
          have k3 : IntKind.u32.wrap ((pl : Int) + (tn : Int)) = (pl : Int) + tn := by rw [IntKind.wrap_u32]; omega
          have T := Lib.hid (descend_calls A c l x ((pl : Int) + tn) wr (Kd.C_below HX.out HBW.out) HGL.out)
          have HTR : Hid (tries l x n pl lv taken (50 - t) t = match desc x ((pl : Int) + tn) l with | some o => (if keyN lv o ∈ taken then tries l x n pl lv taken (50 - (t + 1)) (t + 1) else some o) | none => tries l x n pl lv taken (50 - (t + 1)) (t + 1)) := Lib.hid (by
            rw [show 50 - t = (50 - (t + 1)) + 1 by omega]
            rw [show ((pl : Int) + tn) = (pl : Int) + (t : Nat) * (n : Int) by rw [htn, Int.natCast_mul]]
            rfl)
          have HT50 := Lib.hid h
          clear htn htn2 h
          go_wp2_with fail
          refine T.out.mono ?_
          rintro e w5 ⟨rfl, hb⟩
          have HBQ5 := Lib.hid (below_then HBQ.out HBQ.out.size hb)
          clear hb T m5 u1 k1 k2 k3 HBQ HBW
          cases hd : desc x ((pl : Int) + tn) l with
          | none =>
            rw [hd] at HTR
            unfold descV zeroA
            clear hd
            have HB6 := Lib.hid (below_alloc HBQ5.out (.cells #[.int .i64 0, .bool false, .bool false, .int .i64 0, .int .i64 0, .int .i64 0, .int .i64 0, .int .i64 0] 40))
            go_wp2_with fail
            go_roundw
            case rel => exact ⟨t + 1, by go_num, Lib.hid ⟨HT50.out, HTR.out.symm.trans HT.out.2⟩, HB6⟩
            case measure => have := HT50.out; simp only [intOf]; omega
          | some o =>
            rw [hd] at HTR
            have HTR2 : Hid (tries l x n pl lv taken (50 - t) t = if keyN lv o ∈ taken then tries l x n pl lv taken (50 - (t + 1)) (t + 1) else some o) := Lib.hid HTR.out
            clear HTR
            unfold descV
            have HWF := Lib.hid (HGL.out.wf o (desc_mem hd) lv)
            clear hd
            obtain ⟨ko, hko⟩ : ∃ ko, ko = keyN lv o := ⟨_, rfl⟩
            have TK : Hid (∀ w, Calls Try.prog kf #[.agg (aggO o)] w fun e w' => e = .returned (.int .i64 ko) ∧ Below w.heap.size w w') := Lib.hid (fun w => by rw [HKF.out, hko]; exact key_any lv HLV.out o w)
            have HKO := Lib.hid hko
            rw [← hko] at HTR2 HWF
            clear hko
            have HB6 := Lib.hid (below_alloc HBQ5.out (.cells (aggO o) 40))
            have HQ6 : Hid ((w5.alloc (.cells (aggO o) 40)).heap[w5.heap.size]? = some (.cells (aggO o) 40 (0, 0))) := Lib.hid (blk_new _ _)
            go_wp2_with fail
            obtain ⟨w6, hw6⟩ : ∃ w6, w6 = w5.alloc (.cells (aggO o) 40) := ⟨_, rfl⟩
            rw [← hw6] at HB6 HQ6 ⊢
            obtain ⟨q, hq⟩ : ∃ q, q = w5.heap.size := ⟨_, rfl⟩
            have HQG : Hid (wo.heap.size ≤ q) := Lib.hid (by rw [hq]; exact HBQ5.out.size)
            rw [← hq] at HQ6 ⊢
            clear hw6 hq HBQ5
            refine (TK.out _).mono ?_
            rintro e w7 ⟨rfl, hb⟩
            have HB7 := Lib.hid (below_then HB6.out HB6.out.size hb)
            have HQ7 := Lib.hid (blk_below HQ6.out hb)
            have HO7 := Lib.hid (ob_below HO.out HB7.out)
            clear hb HB6 HQ6
            obtain ⟨tk, htk⟩ : ∃ tk, tk = decide (ko ∈ taken) := ⟨_, rfl⟩
            have hrun := look_taken HO7.out HTK.out ko HWF.out
            rw [← htk] at hrun
            cases tk with
            | true =>
              have HIN : Hid (ko ∈ taken) := Lib.hid (of_decide_eq_true htk.symm)
              clear htk
              go_wp2_with fail
              go_roundw
              case rel =>
                have e := HTR2.out
                simp only [if_pos HIN.out] at e
                exact ⟨t + 1, by go_num, Lib.hid ⟨HT50.out, e.symm.trans HT.out.2⟩, HB7⟩
              case measure => have := HT50.out; simp only [intOf]; omega
            | false =>
              have HIN : Hid (ko ∉ taken) := Lib.hid (of_decide_eq_false htk.symm)
              clear htk
              obtain ⟨y0, y1, y2, y3, y4, y5, y6, y7⟩ := blkO HQ7.out
              go_wp2_with fail
              refine (TK.out _).mono ?_
              rintro e w8 ⟨rfl, hb⟩
              have HB8 := Lib.hid (below_then HB7.out HB7.out.size hb)
              have HQ8 := Lib.hid (blk_below HQ7.out hb)
              have HO8 := Lib.hid (ob_below HO7.out hb)
              clear hb HB7 HQ7 HO7 y0 y1 y2 y3 y4 y5 y6 y7 hrun
              have HIM := Lib.hid HO8.out.isMap
              have HBW8 := Lib.hid (below_then HB.out HB.out.size HB8.out)
              have HG8 := Lib.hid (blk_below HG.out HB8.out)
              have HM8 := Lib.hid (blk_below HM.out HB8.out)
              have HU8 := Lib.hid (blk_below HU.out HB8.out)
              have HBO : Hid (b < wo.heap.size) := Lib.hid HO.out.lt
              have HPL : Hid (pl < 32) := Lib.hid (by have := HN2.out; have := HPN.out; omega)
              have p0 : (0 : Int) ≤ pl := by omega
              have p1 : (pl : Int) < n := by have := HPN.out; omega
              go_wp2_with (first | (at_mapUpdate; go_must (refine wpList_mapUpdate_own _ rfl _ _ _ 75 rfl 3 4 keyI Try.underlying75 _ b cnt D rfl (by exact HO8.out) ?hn _ _ (.int .i64 ko) rfl rfl (keyOf_int_mk Try.underlying3 HWF.out) (.lit (.bool true)) [] (plainElem_bool Try.underlying4 true) ?_; (case hn => have := HCN.out; have := HPL.out; simp only [maxLen]; omega)); intro w9 ho hg; have HO9 := Lib.hid ho; have HB9 := Lib.hid (HBW8.out.grown hg HBW8.out.size (fun k hk => by injection hk with hk; have := HMG.out; omega)); have HG9 := Lib.hid (blk_grown HG8.out hg (by intro e; injection e with e; have := HGB.out; omega)); have HM9 := Lib.hid (blk_grown HM8.out hg (by intro e; injection e with e; have := HMG.out; omega)); have HU9 := Lib.hid (blk_grown HU8.out hg (by intro e; injection e with e; have := HMG.out; omega)); have HQ9 := Lib.hid (blk_grown HQ8.out hg (by intro e; injection e with e; have := HBO.out; have := HQG.out; omega)); have q0 := blk_cell HQ9.out 0; have gf := blk_frozen HG9.out pl; have gc : w9.cell? ⟨g, pl, none⟩ = some (.int .i64 (-1)) := (by rw [blk_cell HG9.out pl, ← HLE.out]; exact outA_get (by have := HLE.out; have := HPN.out; omega)); clear ho hg HO8 HB8 HQ8 HG8 HM8 HU8 HBW8))
              go_roundw
              case rel =>
                refine ⟨pl + 1, cnt + 1, outs ++ [o.f0], ko :: taken, _, by go_num, Lib.hid (by have e := HTR2.out; rw [if_neg HIN.out] at e; rw [HKO.out]; exact HCH.out.some HPN.out (HT.out.2.symm.trans e)), Lib.hid (by have := HCN.out; omega), Lib.hid (HO9.out.kept (Lib.grownBy_setCell _ g pl _) (by intro e; injection e with e; have := HGB.out; omega)), Lib.hid (taken_put HTK.out HIM.out), Lib.hid ?_, Lib.hid (blk_far HM9.out (by have := HGB.out; have := HMG.out; show w.heap.size ≠ g; omega) _), Lib.hid (blk_far HU9.out (by have := HGB.out; have := HMG.out; show w.heap.size + 1 ≠ g; omega) _), Lib.hid (HB9.out.setCell HGB.out.2 _)⟩
                exact blk_put HG9.out pl _ (by have e := outA_set (n := n) (outs := outs) (by have := HLE.out; have := HPN.out; omega) o.f0; rw [HLE.out] at e; exact e)
              case measure => have := HPN.out; simp only [intOf]; omega
        · obtain rfl : t = 50 := by omega
          have hl3 : decide ((50 : Int) < 50) = false := decide_eq_false (by omega)
          have HNO : Hid (tries l x n pl lv taken 50 0 = none) := Lib.hid HT.out.2.symm
          go_wp2_with fail
          go_roundw
          case rel =>
            exact ⟨pl + 1, cnt, outs ++ [-1], taken, D, by go_num, Lib.hid (HCH.out.none HPN.out HNO.out), Lib.hid (by have := HCN.out; omega), Lib.hid (ob_below HO.out HBQ.out), HTK, Lib.hid (by rw [outA_none (by have := HLE.out; have := HPN.out; omega)]; exact blk_below HG.out HBQ.out), Lib.hid (blk_below HM.out HBQ.out), Lib.hid (blk_below HU.out HBQ.out), HBW⟩
          case measure => have := HPN.out; simp only [intOf]; omega
    · obtain rfl : pl = n := by omega
      have hlt : decide ((pl : Int) < (pl : Int)) = false := decide_eq_false (by omega)
      have hlt2 : decide (pl < pl) = false := decide_eq_false (by omega)
      go_wp2_with fail
      go_ret2
      have e := HCH.out.all
      rw [Nat.sub_self] at e
      simp only [places, List.append_nil] at e
      refine ⟨g, rfl, HGB.out.2, ?_, HB.out⟩
      rw [← e]
      exact HG.out
end Go.Proofs.Ytnpphmgibgfjoaa.Cho
/- mooringref13.May says what atlas.Check says. -/
namespace Go.Proofs.Ytnpphmgibgfjoaa.MayP
open Go Go.RowKit Go.Proofs.YtnpphmgibgfjoaaW.PrintWords Go.Proofs.YtnpphmgibgfjoaaW.PrintMore Mem PAll KW MixP MixW StrP StrW AtA Srt Grp Sl Dsc AtB Roo Rep Cho
open CrP hiding Od
theorem w64 {x : Int} (h : -9223372036854775808 ≤ x) (h2 : x ≤ 9223372036854775807) : wrap64 x = x := IntWalk.wrap64_in _ ⟨h, h2⟩
theorem within_eq (a b : Int) : mooringref13_within.f a 0 b = some (winB a b) := by
  unfold mooringref13_within.f winB
  by_cases h : a ≥ 0
  · rw [if_pos h]
    congr 1
    by_cases h2 : a ≤ b
    · rw [decide_eq_true h2, decide_eq_true ⟨h, h2⟩]
    · rw [decide_eq_false h2, decide_eq_false (fun h3 => h2 h3.2)]
  · rw [if_neg h, decide_eq_false (fun h3 => h h3.1)]
theorem within1 (a b : Int) : mooringref13_within.f a 1 b = some (decide (1 ≤ a ∧ a ≤ b)) := by
  unfold mooringref13_within.f
  by_cases h : a ≥ 1
  · rw [if_pos h]
    congr 1
    by_cases h2 : a ≤ b
    · rw [decide_eq_true h2, decide_eq_true ⟨h, h2⟩]
    · rw [decide_eq_false h2, decide_eq_false (fun h3 => h2 h3.2)]
  · rw [if_neg h, decide_eq_false (fun h3 => h h3.1)]
theorem pool_eq (k m p d : Int) : mooringref13_Pool.f k m p d = some (poolB k m p d) := by
  unfold mooringref13_Pool.f poolB
  rw [within1, within1, within1, within_eq]
  simp only [Option.bind_some]
  by_cases h1 : 1 ≤ k ∧ k ≤ 32
  · rw [if_pos (decide_eq_true h1), decide_eq_true h1.1, decide_eq_true h1.2]
    by_cases h2 : 1 ≤ m ∧ m ≤ 32
    · have hw : wrap64 (k + m) = k + m := w64 (by omega) (by omega)
      rw [if_pos (decide_eq_true h2), hw, decide_eq_true h2.1]
      by_cases h3 : k + m ≤ 32
      · rw [if_pos h3, decide_eq_true (show m ≤ 32 - k by omega)]
        by_cases h4 : 1 ≤ p ∧ p ≤ 32
        · rw [if_pos (decide_eq_true h4), decide_eq_true h4.1, decide_eq_true h4.2]; rfl
        · rw [if_neg (by rw [decide_eq_false h4]; decide)]
          by_cases h5 : 1 ≤ p
          · rw [decide_eq_true h5, decide_eq_false (show ¬ p ≤ 32 from fun h => h4 ⟨h5, h⟩)]; rfl
          · rw [decide_eq_false h5]; rfl
      · rw [if_neg h3, decide_eq_false (show ¬ m ≤ 32 - k by omega)]; rfl
    · rw [if_neg (by rw [decide_eq_false h2]; decide)]
      by_cases h5 : 1 ≤ m
      · rw [decide_eq_true h5, decide_eq_false (show ¬ m ≤ 32 - k by omega)]; rfl
      · rw [decide_eq_false h5]; rfl
  · rw [if_neg (by rw [decide_eq_false h1]; decide)]
    by_cases h5 : 1 ≤ k
    · rw [decide_eq_true h5, decide_eq_false (show ¬ k ≤ 32 by omega)]
      cases decide (1 ≤ m) <;> rfl
    · rw [decide_eq_false h5]; rfl
theorem osd_eq (o : Od) : mooringref13_Osd.f o.f0 o.f1 o.f2 o.f3 o.f4 o.f5 o.f6 o.f7 = some (osdB o) := by
  unfold mooringref13_Osd.f osdB
  simp only [within_eq, Option.bind_some]
  generalize winB o.f0 999 = bf0
  cases bf0
  · rfl
  generalize winB o.f6 999 = bf6
  cases bf6
  · rfl
  generalize winB o.f7 999 = bf7
  cases bf7
  · rfl
  generalize winB o.f3 16777216 = bf3
  cases bf3
  · rfl
  generalize winB o.f4 2147483647 = bf4
  cases bf4
  · rfl
  generalize winB o.f5 2147483647 = bf5
  cases bf5
  · rfl
  simp only [if_true, Bool.true_and]
  cases o.f1
  · rfl
  · simp only [if_true, Bool.not_true, Bool.false_or]
    by_cases h : o.f4 > 0
    · rw [if_pos h, decide_eq_true (show 1 ≤ o.f4 by omega)]
      by_cases h2 : o.f5 > 0
      · rw [decide_eq_true h2, decide_eq_true (show 1 ≤ o.f5 by omega)]; rfl
      · rw [decide_eq_false h2, decide_eq_false (show ¬ 1 ≤ o.f5 by omega)]; rfl
    · rw [if_neg h, decide_eq_false (show ¬ 1 ≤ o.f4 by omega)]; rfl
theorem rd_at {l : List Od} {i : Nat} {o : Od} (h : l[i]? = some o) : rd_T40 l (i : Int) = o := by
  unfold rd_T40
  rw [show ((i : Nat) : Int).toNat = i from rfl, List.getD_eq_getElem?_getD, h]
  rfl
section
variable (ep k m p d : Int) {l : List Od}
theorem l1_all (hl : l.length ≤ 64) {i : Nat} {o : Od} (ho : l[i]? = some o) (h1 : osdB o = true) (hg : AtA.Good l i)
    (next : AtA.Good l (i + 1) → ∃ K, mooringref13_May.l0 K ((i : Int) + 1) ep k m p d l = some (goodB l)) :
    ∀ r j : Nat, j + r = i → (∀ j' q, j' < j → l[j']? = some q → q.f0 < o.f0 ∧ (q.f6 = o.f6 → q.f7 = o.f7)) → ∃ K, mooringref13_May.l1 K (i : Int) (j : Int) ep k m p d l = some (goodB l)
  | 0, j, hj, hp => by
    obtain rfl : j = i := by omega
    have hi := (List.getElem?_eq_some_iff.1 ho).1
    obtain ⟨K, hK⟩ := next (fun i' o' hi' ho' => by
      rcases Nat.lt_or_ge i' j with h | h
      · exact hg i' o' h ho'
      · obtain rfl : i' = j := by omega
        obtain rfl : o = o' := Option.some.inj (ho.symm.trans ho')
        exact ⟨h1, hp⟩)
    refine ⟨K + 1, ?_⟩
    unfold mooringref13_May.l1
    rw [if_neg (by omega), w64 (by omega) (by omega)]
    exact hK
  | r + 1, j, hj, hp => by
    have hi := (List.getElem?_eq_some_iff.1 ho).1
    have hq : l[j]? = some (l[j]'(by omega)) := List.getElem?_eq_getElem _
    have bad : (o.f0 ≤ (l[j]'(by omega)).f0 ∨ ((l[j]'(by omega)).f6 = o.f6 ∧ (l[j]'(by omega)).f7 ≠ o.f7)) → goodB l = false := fun hb => goodB_no (not_good hi ho (.inr ⟨j, _, by omega, hq, hb⟩))
    obtain ⟨q, hqe⟩ : ∃ q, q = l[j]'(by omega) := ⟨_, rfl⟩
    rw [← hqe] at hq bad
    clear hqe
    have recu := fun (hok : q.f0 < o.f0 ∧ (q.f6 = o.f6 → q.f7 = o.f7)) => l1_all hl ho h1 hg next r (j + 1) (by omega) (fun j' q' hj' hq' => by
      rcases Nat.lt_or_ge j' j with h | h
      · exact hp j' q' h hq'
      · obtain rfl : j' = j := by omega
        obtain rfl : q = q' := Option.some.inj (hq.symm.trans hq')
        exact hok)
    have go : ∀ K, mooringref13_May.l1 (K + 1) (i : Int) (j : Int) ep k m p d l = if q.f0 ≥ o.f0 then some false else if q.f6 = o.f6 then (if q.f7 = o.f7 then mooringref13_May.l1 K (i : Int) ((j + 1 : Nat) : Int) ep k m p d l else some false) else mooringref13_May.l1 K (i : Int) ((j + 1 : Nat) : Int) ep k m p d l := by
      intro K
      rw [mooringref13_May.l1]
      rw [if_pos (by omega), if_pos (by omega), if_pos (by omega), if_pos (by omega), if_pos (by omega), w64 (by omega) (by omega), rd_at hq, rd_at ho, show ((j : Int) + 1) = ((j + 1 : Nat) : Int) by omega]
    by_cases c1 : q.f0 ≥ o.f0
    · exact ⟨1, by rw [go 0, if_pos c1, bad (.inl c1)]⟩
    · by_cases c2 : q.f6 = o.f6
      · by_cases c3 : q.f7 = o.f7
        · obtain ⟨K, hK⟩ := recu ⟨by omega, fun _ => c3⟩
          exact ⟨K + 1, by rw [go K, if_neg c1, if_pos c2, if_pos c3, hK]⟩
        · exact ⟨1, by rw [go 0, if_neg c1, if_pos c2, if_neg c3, bad (.inr ⟨c2, c3⟩)]⟩
      · obtain ⟨K, hK⟩ := recu ⟨by omega, fun h => absurd h c2⟩
        exact ⟨K + 1, by rw [go K, if_neg c1, if_neg c2, hK]⟩
theorem l0_all (hl : l.length ≤ 64) : ∀ r i : Nat, i + r = l.length → AtA.Good l i → ∃ K, mooringref13_May.l0 K (i : Int) ep k m p d l = some (goodB l)
  | 0, i, hi, hg => by
    obtain rfl : i = l.length := by omega
    refine ⟨1, ?_⟩
    rw [mooringref13_May.l0, if_neg (by omega), goodB_yes hg]
  | r + 1, i, hi, hg => by
    have hlt : i < l.length := by omega
    have ho : l[i]? = some l[i] := List.getElem?_eq_getElem hlt
    obtain ⟨o, hoe⟩ : ∃ o, o = l[i] := ⟨_, rfl⟩
    rw [← hoe] at ho
    clear hoe
    have go : ∀ K, mooringref13_May.l0 (K + 1) (i : Int) ep k m p d l = if osdB o = true then mooringref13_May.l1 K (i : Int) 0 ep k m p d l else some false := by
      intro K
      rw [mooringref13_May.l0, if_pos (by omega), if_pos (by omega), rd_at ho, osd_eq]
      rfl
    cases h1 : osdB o with
    | false => exact ⟨1, by rw [go 0, h1, goodB_no (not_good hlt ho (.inl h1))]; rfl⟩
    | true =>
      obtain ⟨K, hK⟩ := l1_all ep k m p d hl ho h1 hg (fun hg1 => l0_all hl r (i + 1) (by omega) hg1) i 0 (by omega) (fun j' _ h => absurd h (Nat.not_lt_zero _))
      exact ⟨K + 1, by rw [go K, h1, if_pos rfl]; exact hK⟩
theorem may_eq : ∃ K, mooringref13_May.f K ep k m p d l = some (mayB ep k m p d l) := by
  unfold mooringref13_May.f mayB
  rw [within_eq, pool_eq]
  simp only [Option.bind_some]
  cases winB ep 1048576 with
  | false => exact ⟨1, rfl⟩
  | true =>
    cases poolB k m p d with
    | false => exact ⟨1, rfl⟩
    | true =>
      by_cases h : l.length ≤ 64
      · obtain ⟨K, hK⟩ := l0_all ep k m p d h l.length 0 (by omega) (fun i _ h => absurd h (Nat.not_lt_zero _))
        refine ⟨K + 1, ?_⟩
        rw [if_pos rfl, if_pos rfl, mooringref13_May.j0, decide_eq_false (show ¬ ((l.length : Int) > 64) by omega), decide_eq_true h, if_neg Bool.false_ne_true]
        exact hK
      · refine ⟨1, ?_⟩
        rw [if_pos rfl, if_pos rfl, mooringref13_May.j0, decide_eq_true (show ((l.length : Int) > 64) by omega), decide_eq_false h]
        rfl
end
theorem may_calls (ep k m p d : Int) (A : Option Addr) (c : Nat) (l : List Od) (w : World) (hx : kO.C w A l.length l) (hc : l.length ≤ c) :
    Calls Try.prog 12 #[.agg (boxM ep k m p d A c l)] w fun e w' => e = .returned (.bool (mayB ep k m p d l)) ∧ Below w.heap.size w w' := by
  obtain ⟨K, hK⟩ := may_eq ep k m p d (l := l)
  refine (mooringref13_May.calls K ep k m p d A c l _ w hx hc hK).mono ?_
  rintro e w1 ⟨rfl, hb⟩
  exact ⟨rfl, hb⟩
end Go.Proofs.Ytnpphmgibgfjoaa.MayP
/- crush.Choose of every rule; the only OSD is found. -/
namespace Go.Proofs.Ytnpphmgibgfjoaa.Awk
open Go Go.RowKit Go.Proofs.YtnpphmgibgfjoaaW.PrintWords Go.Proofs.YtnpphmgibgfjoaaW.PrintMore Mem PAll KW MixP MixW StrP StrW AtA Srt Grp Sl Dsc AtB Roo Rep Cho MayP
open CrP hiding Od
def choB (ok : Bool) (dm want : Int) : Bool := ok && (domB dm && (decide (1 ≤ want) && decide (want ≤ 32)))
set_option maxHeartbeats 8000000 in
set_option maxRecDepth 100000 in
theorem Choose_bad (ep k m p d : Int) (A : Option Addr) (c : Nat) (l : List Od) (dm want x : Int) (w : World) (hx : kO.C w A l.length l) (hwf : WfL l) (hn : choB (mayB ep k m p d l) dm want = false) :
    Calls Try.prog 15 #[.agg (boxM ep k m p d A c l), .agg #[.int .i64 dm, .int .i64 want], .int .u32 x] w fun e w' => e = .returned (.tuple #[.slice none 0 0, .int .i64 1]) ∧ Below w.heap.size w w' := by
  have HBA := Lib.hid (below_alloc (below_alloc (Below.refl w.heap.size w) (.cells (boxM ep k m p d A c l) 26)) (.cells #[.int .i64 dm, .int .i64 want] 28))
  have HC1 := Lib.hid (Kd.C_alloc (Kd.C_alloc hx (.cells (boxM ep k m p d A c l) 26)) (.cells #[.int .i64 dm, .int .i64 want] 28))
  have HU1 : Hid (((w.alloc (.cells (boxM ep k m p d A c l) 26)).alloc (.cells #[.int .i64 dm, .int .i64 want] 28)).heap[w.heap.size + 1]? = some (.cells #[.int .i64 dm, .int .i64 want] 28 (0, 0))) := Lib.hid (by have h := blk_new (w.alloc (.cells (boxM ep k m p d A c l) 26)) (.cells #[.int .i64 dm, .int .i64 want] 28); simp only [World.alloc, Array.size_push] at h ⊢; exact h)
  have T := Lib.hid (fun c0 w0 h0 => check_calls ep k m p d A c0 l w0 h0 hwf)
  have TO := Lib.hid (of_calls dm)
  unfold choB at hn
  obtain ⟨mb, hmb⟩ : ∃ mb, mb = mayB ep k m p d l := ⟨_, rfl⟩
  obtain ⟨db, hdb⟩ : ∃ db, db = domB dm := ⟨_, rfl⟩
  obtain ⟨kf, hkf⟩ : ∃ kf, kf = fnL (domL dm) := ⟨_, rfl⟩
  rw [← hmb, ← hdb] at hn
  have HMB := Lib.hid hmb.symm
  have HN := Lib.hid hn
  have HOF : Hid (ofV dm = if db = true then .func (.func kf) #[] #[] else .nilFunc) := Lib.hid (by unfold ofV; rw [← hdb, hkf])
  have hq1 := eql_func_nil
  have hq2 := eql_nil_nil
  clear hx hwf hn hmb hdb hkf
  unfold boxM at *
  cases mb with
  | false =>
    cases db with
    | false =>
      go_enter Try.func15, Try.ntmps15
      go_wp2_with fail
      refine (TO.out _).mono ?_
      rintro e w0 ⟨rfl, rfl⟩
      rw [HOF.out, if_neg Bool.false_ne_true]
      go_wp2_with fail
      refine (T.out c _ HC1.out).mono ?_
      rintro e w1 ⟨rfl, hb⟩
      rw [HMB.out]
      have HB2 := Lib.hid (below_then HBA.out HBA.out.size hb)
      clear hb
      go_wp2_with fail
      go_ret2
      exact ⟨rfl, HB2.out⟩
    | true =>
      go_enter Try.func15, Try.ntmps15
      go_wp2_with fail
      refine (TO.out _).mono ?_
      rintro e w0 ⟨rfl, rfl⟩
      rw [HOF.out, if_pos trivial]
      go_wp2_with fail
      refine (T.out c _ HC1.out).mono ?_
      rintro e w1 ⟨rfl, hb⟩
      rw [HMB.out]
      have HB2 := Lib.hid (below_then HBA.out HBA.out.size hb)
      clear hb
      go_wp2_with fail
      go_ret2
      exact ⟨rfl, HB2.out⟩
  | true =>
    cases db with
    | false =>
      go_enter Try.func15, Try.ntmps15
      go_wp2_with fail
      refine (TO.out _).mono ?_
      rintro e w0 ⟨rfl, rfl⟩
      rw [HOF.out, if_neg Bool.false_ne_true]
      go_wp2_with fail
      refine (T.out c _ HC1.out).mono ?_
      rintro e w1 ⟨rfl, hb⟩
      rw [HMB.out]
      have HB2 := Lib.hid (below_then HBA.out HBA.out.size hb)
      clear hb
      go_wp2_with fail
      go_ret2
      exact ⟨rfl, HB2.out⟩
    | true =>
      by_cases h1 : want < 1
      · have b1 : decide (want < 1) = true := decide_eq_true h1
        clear h1
        go_enter Try.func15, Try.ntmps15
        go_wp2_with fail
        refine (TO.out _).mono ?_
        rintro e w0 ⟨rfl, rfl⟩
        rw [HOF.out, if_pos trivial]
        go_wp2_with fail
        refine (T.out c _ HC1.out).mono ?_
        rintro e w1 ⟨rfl, hb⟩
        rw [HMB.out]
        have HB2 := Lib.hid (below_then HBA.out HBA.out.size hb)
        have u1 := blk_cell (blk_below HU1.out hb) 1
        clear hb
        go_wp2_with fail
        go_ret2
        exact ⟨rfl, HB2.out⟩
      · have b1 : decide (want < 1) = false := decide_eq_false h1
        have h2 : 32 < want := by
          have e := HN.out
          rw [decide_eq_true (show 1 ≤ want by omega)] at e
          have : ¬ want ≤ 32 := by
            intro h
            rw [decide_eq_true h] at e
            cases e
          omega
        have b2 : decide (32 < want) = true := decide_eq_true h2
        clear h1 h2
        go_enter Try.func15, Try.ntmps15
        go_wp2_with fail
        refine (TO.out _).mono ?_
        rintro e w0 ⟨rfl, rfl⟩
        rw [HOF.out, if_pos trivial]
        go_wp2_with fail
        refine (T.out c _ HC1.out).mono ?_
        rintro e w1 ⟨rfl, hb⟩
        rw [HMB.out]
        have HB2 := Lib.hid (below_then HBA.out HBA.out.size hb)
        have u1 := blk_cell (blk_below HU1.out hb) 1
        clear hb
        go_wp2_with fail
        go_ret2
        exact ⟨rfl, HB2.out⟩
/-! ### the only OSD is found -/
def seven : Od := ⟨7, false, true, 5, 0, 0, 0, 0⟩
theorem seven_places : places [seven] 3 2 3 2 0 [] = [7, -1] := by decide +kernel
theorem seven_room : room 1 [seven] = 1 := by decide +kernel
theorem seven_may : mayB 0 1 1 1 0 [seven] = true := by
  have hg : AtA.Good [seven] [seven].length := fun i o hi ho => by
    obtain rfl : i = 0 := by simp at hi; omega
    obtain rfl : seven = o := by simpa using ho
    exact ⟨by decide, fun j _ hj => absurd hj (Nat.not_lt_zero _)⟩
  unfold mayB
  rw [goodB_yes hg]
  decide
theorem seven_C {w : World} {g : Nat} (h : w.heap[g]? = some (.cells (aggO seven) 40 (0, 0))) : kO.C w (some ⟨g, 0, none⟩) [seven].length [seven] := by
  refine ⟨rfl, by decide, fun _ => ⟨_, rfl, fun j p hj => ?_⟩⟩
  match j, hj with
  | 0, hj =>
    obtain rfl := Option.some.inj hj
    refine ⟨_, rfl, k40_mkM w 0 (fun _ => True) _, fun i u hu => ?_⟩
    rw [add_plain, blk_cell h]
    match i, hu with
    | 0, hu => exact hu
    | 1, hu => exact hu
    | 2, hu => exact hu
    | 3, hu => exact hu
    | 4, hu => exact hu
    | 5, hu => exact hu
    | 6, hu => exact hu
    | 7, hu => exact hu
    | i + 8, hu => cases hu
  | j + 1, hj => cases hj
theorem seven_wf : WfL [seven] := fun o ho => by
  obtain rfl := List.mem_singleton.1 ho
  decide
set_option maxHeartbeats 4000000 in
set_option maxRecDepth 100000 in
theorem awake_calls (w : World) : Calls Try.prog 14 #[] w fun e w' => e = .returned (.bool true) ∧ Below w.heap.size w w' := by
  have HBA := Lib.hid (below_alloc (below_alloc (Below.refl w.heap.size w) (.cells (aggO seven) 40)) (.cells #[.int .i64 0, .int .i64 1, .int .i64 1, .int .i64 1, .int .i64 0, .slice (some ⟨w.heap.size, 0, none⟩) 1 1] 26))
  have HS1 : Hid (((w.alloc (.cells (aggO seven) 40)).alloc (.cells #[.int .i64 0, .int .i64 1, .int .i64 1, .int .i64 1, .int .i64 0, .slice (some ⟨w.heap.size, 0, none⟩) 1 1] 26)).heap[w.heap.size]? = some (.cells (aggO seven) 40 (0, 0))) := Lib.hid (blk_below (blk_new _ _) (below_alloc (Below.refl _ _) _))
  have HM1 : Hid (((w.alloc (.cells (aggO seven) 40)).alloc (.cells #[.int .i64 0, .int .i64 1, .int .i64 1, .int .i64 1, .int .i64 0, .slice (some ⟨w.heap.size, 0, none⟩) 1 1] 26)).heap[w.heap.size + 1]? = some (.cells #[.int .i64 0, .int .i64 1, .int .i64 1, .int .i64 1, .int .i64 0, .slice (some ⟨w.heap.size, 0, none⟩) 1 1] 26 (0, 0))) := Lib.hid (by have h := blk_new (w.alloc (.cells (aggO seven) 40)) (.cells #[.int .i64 0, .int .i64 1, .int .i64 1, .int .i64 1, .int .i64 0, .slice (some ⟨w.heap.size, 0, none⟩) 1 1] 26); simp only [World.alloc, Array.size_push] at h ⊢; exact h)
  have T := Lib.hid (Choose_ok 0 1 1 1 0 (some ⟨w.heap.size, 0, none⟩) 1 [seven] 0 3 2 _ (seven_C HS1.out) seven_wf seven_may (by decide) (by decide) (by decide))
  have T2 := Lib.hid (fun w1 h => Room_calls 0 1 1 1 0 (some ⟨w.heap.size, 0, none⟩) 1 [seven] 2 w1 (seven_C h) seven_wf)
  have HR : Hid (roomI (mayB 0 1 1 1 0 [seven]) 2 [seven] = 1) := Lib.hid (by rw [seven_may]; decide +kernel)
  have HP : Hid (places [seven] 3 (2 : Nat) (domL 0) 2 0 [] = [7, -1]) := Lib.hid seven_places
  unfold boxM at *
  go_enter Try.func14, Try.ntmps14
  go_wp2_with fail
  refine T.out.mono ?_
  rintro e w1 ⟨g, rfl, _, hg, hb⟩
  rw [HP.out] at hg
  have HB2 := Lib.hid (below_then HBA.out HBA.out.size hb)
  have HM2 := Lib.hid (blk_below HM1.out hb)
  have HS2 := Lib.hid (blk_below HS1.out hb)
  have g0 : w1.cell? ⟨g, 0, none⟩ = some (.int .i64 7) := blk_cell hg 0
  have g1 : w1.cell? ⟨g, 1, none⟩ = some (.int .i64 (-1)) := blk_cell hg 1
  have m0 := blk_cell HM2.out 0
  have m1 := blk_cell HM2.out 1
  have m2 := blk_cell HM2.out 2
  have m3 := blk_cell HM2.out 3
  have m4 := blk_cell HM2.out 4
  have m5 := blk_cell HM2.out 5
  clear hg hb
  go_wp2_with fail
  refine (T2.out _ HS2.out).mono ?_
  rintro e w2 ⟨rfl, hb⟩
  rw [HR.out]
  have HB3 := Lib.hid (below_then HB2.out HB2.out.size hb)
  clear hb
  go_wp2_with fail
  go_ret
  exact ⟨rfl, HB3.out⟩
theorem Choose_calls (ep k m p d : Int) (A : Option Addr) (c : Nat) (l : List Od) (dm want x : Int) (w : World) (hx : kO.C w A l.length l) (hwf : WfL l) :
    Calls Try.prog 15 #[.agg (boxM ep k m p d A c l), .agg #[.int .i64 dm, .int .i64 want], .int .u32 x] w fun e w' => ((choB (mayB ep k m p d l) dm want = true ∧ ∃ n g : Nat, want = n ∧ 1 ≤ n ∧ n ≤ 32 ∧ w.heap.size ≤ g ∧ e = .returned (.tuple #[.slice (some ⟨g, 0, none⟩) n n, .int .i64 0]) ∧ w'.heap[g]? = some (.cells (outA n (places l x n (domL dm) n 0 [])) 3 (0, 0))) ∨ (choB (mayB ep k m p d l) dm want = false ∧ e = .returned (.tuple #[.slice none 0 0, .int .i64 1]))) ∧ Below w.heap.size w w' := by
  cases h : choB (mayB ep k m p d l) dm want with
  | false =>
    refine (Choose_bad ep k m p d A c l dm want x w hx hwf h).mono ?_
    rintro e w1 ⟨rfl, hb⟩
    exact ⟨.inr ⟨rfl, rfl⟩, hb⟩
  | true =>
    unfold choB at h
    simp only [Bool.and_eq_true, decide_eq_true_eq] at h
    obtain ⟨n, hn⟩ := Int.eq_ofNat_of_zero_le (show 0 ≤ want by omega)
    subst hn
    refine (Choose_ok ep k m p d A c l dm x n w hx hwf h.1 h.2.1 (by omega) (by omega)).mono ?_
    rintro e w1 ⟨g, rfl, hg, hh, hb⟩
    exact ⟨.inl ⟨rfl, n, g, rfl, by omega, by omega, hg, rfl, hh⟩, hb⟩
theorem light_calls (ep k m p d : Int) (A : Option Addr) (c : Nat) (l : List Od) (dm want : Int) (w : World) (hx : kO.C w A l.length l) :
    Calls Try.prog 13 #[.agg (boxM ep k m p d A c l), .agg #[.int .i64 dm, .int .i64 want]] w fun e w' => e = .returned (.bool (decide (l.length ≤ 24) && decide (want ≤ 12))) ∧ Below w.heap.size w w' := by
  have HBA := Lib.hid (below_alloc (below_alloc (Below.refl w.heap.size w) (.cells (boxM ep k m p d A c l) 26)) (.cells #[.int .i64 dm, .int .i64 want] 28))
  have hm : l.length ≤ 9223372036854775807 := hx.2.1
  unfold boxM at *
  by_cases h : l.length ≤ 24
  · have hd : decide (l.length ≤ 24) = true := decide_eq_true h
    have hd2 : decide ((l.length : Int) ≤ 24) = true := decide_eq_true (by omega)
    rw [hd]
    clear h hx
    go_enter Try.func13, Try.ntmps13
    go_wp2_with fail
    go_ret
    exact ⟨rfl, HBA.out⟩
  · have hd : decide (l.length ≤ 24) = false := decide_eq_false h
    have hd2 : decide ((l.length : Int) ≤ 24) = false := decide_eq_false (by omega)
    rw [hd]
    clear h hx
    go_enter Try.func13, Try.ntmps13
    go_wp2_with fail
    go_ret
    exact ⟨rfl, HBA.out⟩
end Go.Proofs.Ytnpphmgibgfjoaa.Awk
/- Who is up turns nothing: the plain law. -/
namespace Go.Proofs.Ytnpphmgibgfjoaa.UpsP
open Go Go.RowKit Go.Proofs.YtnpphmgibgfjoaaW.PrintWords Go.Proofs.YtnpphmgibgfjoaaW.PrintMore Mem PAll KW MixP MixW StrP StrW AtA Srt Grp Sl Dsc AtB Roo Rep Cho MayP Awk
open CrP hiding Od
def nrm (o : Od) : Od := { o with f1 := false, f4 := 0 }
theorem groupF_nrm (lv : Nat) : ∀ (l : List Od) (g : List Wd), groupF lv g (l.map nrm) = groupF lv g l
  | [], _ => rfl
  | o :: r, g => groupF_nrm lv r (ins (keyN lv o) (wOf o) g)
theorem group_nrm (lv : Nat) (l : List Od) : group lv (l.map nrm) = group lv l := groupF_nrm lv l []
theorem lvl_nrm (x r : Int) (lv : Nat) (l : List Od) : lvl x r lv (l.map nrm) = (lvl x r lv l).map (List.map nrm) := by
  unfold lvl
  rw [group_nrm]
  split
  · rfl
  · rw [List.filter_map]
    rfl
theorem desc_nrm (x r : Int) (l : List Od) : desc x r (l.map nrm) = (desc x r l).map nrm := by
  unfold desc
  rw [lvl_nrm]
  cases lvl x r 1 l with
  | none => rfl
  | some l1 =>
    show ((lvl x r 2 (l1.map nrm)).bind (lvl x r 3)).bind List.head? = (((lvl x r 2 l1).bind (lvl x r 3)).bind List.head?).map nrm
    rw [lvl_nrm]
    cases lvl x r 2 l1 with
    | none => rfl
    | some l2 =>
      show (lvl x r 3 (l2.map nrm)).bind List.head? = ((lvl x r 3 l2).bind List.head?).map nrm
      rw [lvl_nrm]
      cases lvl x r 3 l2 with
      | none => rfl
      | some l3 => cases l3 <;> rfl
theorem tries_nrm (l : List Od) (x want place : Int) (lv : Nat) (taken : List Int) : ∀ m t, tries (l.map nrm) x want place lv taken m t = (tries l x want place lv taken m t).map nrm
  | 0, _ => rfl
  | m + 1, t => by
    simp only [tries]
    rw [desc_nrm]
    cases desc x (place + t * want) l with
    | none => exact tries_nrm l x want place lv taken m (t + 1)
    | some o =>
      show (if keyN lv (nrm o) ∈ taken then _ else _) = _
      rw [show keyN lv (nrm o) = keyN lv o from rfl]
      by_cases h : keyN lv o ∈ taken
      · simp only [if_pos h]; exact tries_nrm l x want place lv taken m (t + 1)
      · simp only [if_neg h]; rfl
theorem places_nrm (l : List Od) (x want : Int) (lv : Nat) : ∀ m p taken, places (l.map nrm) x want lv m p taken = places l x want lv m p taken
  | 0, _, _ => rfl
  | m + 1, p, taken => by
    simp only [places]
    rw [tries_nrm]
    cases tries l x want p lv taken 50 0 with
    | none => exact congrArg _ (places_nrm l x want lv m (p + 1) taken)
    | some o => exact congrArg _ (places_nrm l x want lv m (p + 1) (keyN lv o :: taken))
def off (j : Nat) (o : Od) : Od := { o with f1 := false, f4 := (j : Int) }
/-- The first i are down. -/
structure Downs (l xs : List Od) (i : Nat) : Prop where
  len : xs.length = l.length
  at_ : ∀ j o, l[j]? = some o → xs[j]? = some (if j < i then off j o else o)
theorem Downs.start (l : List Od) : Downs l l 0 := ⟨rfl, fun j o h => by rw [if_neg (Nat.not_lt_zero _)]; exact h⟩
theorem Downs.more {l xs : List Od} {i : Nat} {o : Od} (h : Downs l xs i) (ho : l[i]? = some o) : Downs l (xs.set i (off i o)) (i + 1) := by
  refine ⟨by rw [List.length_set]; exact h.len, fun j q hq => ?_⟩
  have hi := (List.getElem?_eq_some_iff.1 ho).1
  have hl := h.len
  rw [List.getElem?_set]
  by_cases e : i = j
  · subst e
    obtain rfl : o = q := Option.some.inj (ho.symm.trans hq)
    rw [if_pos rfl, if_pos (by omega), if_pos (Nat.lt_succ_self _)]
  · rw [if_neg e, h.at_ j q hq]
    by_cases h2 : j < i
    · rw [if_pos h2, if_pos (by omega)]
    · rw [if_neg h2, if_neg (by omega)]
theorem Downs.nrm_eq {l xs : List Od} {i : Nat} (h : Downs l xs i) : xs.map nrm = l.map nrm := by
  apply List.ext_getElem?
  intro j
  rw [List.getElem?_map, List.getElem?_map]
  rcases Nat.lt_or_ge j l.length with hj | hj
  · rw [h.at_ j _ (List.getElem?_eq_getElem hj), List.getElem?_eq_getElem hj]
    split <;> rfl
  · rw [List.getElem?_eq_none hj, List.getElem?_eq_none (by rw [h.len]; exact hj)]
theorem Downs.places {l xs : List Od} {i : Nat} (h : Downs l xs i) (x want : Int) (lv m p : Nat) (taken : List Int) : places xs x want lv m p taken = places l x want lv m p taken := by
  rw [← places_nrm xs, h.nrm_eq, places_nrm]
theorem osdB_off {o : Od} {j : Nat} (h : osdB o = true) (hj : j < 64) : osdB (off j o) = true := by
  unfold osdB at *
  simp only [Bool.and_eq_true] at h
  obtain ⟨h0, h6, h7, h3, _, h5, _⟩ := h
  have h4 : winB (j : Int) 2147483647 = true := decide_eq_true (by omega)
  show (winB o.f0 999 && (winB o.f6 999 && (winB o.f7 999 && (winB o.f3 16777216 && (winB (j : Int) 2147483647 && (winB o.f5 2147483647 && (!false || (decide (1 ≤ (j : Int)) && decide (1 ≤ o.f5))))))))) = true
  rw [h0, h6, h7, h3, h4, h5]
  rfl
theorem Downs.may {l xs : List Od} {ep k m p d : Int} (h : Downs l xs l.length) (hm : mayB ep k m p d l = true) : mayB 7 k m p d xs = true := by
  have hg := may_good hm
  have hG := goodB_iff.1 hg.2
  have hlen := h.len
  have at' : ∀ j o, xs[j]? = some o → ∃ q, l[j]? = some q ∧ o = off j q ∧ j < l.length := fun j o ho => by
    have hj := (List.getElem?_eq_some_iff.1 ho).1
    have e := h.at_ j _ (List.getElem?_eq_getElem (show j < l.length by omega))
    rw [if_pos (by omega)] at e
    exact ⟨_, List.getElem?_eq_getElem (by omega), Option.some.inj (ho.symm.trans e), by omega⟩
  have hgood : AtA.Good xs xs.length := fun i o _ ho => by
    obtain ⟨q, hq, rfl, hi⟩ := at' i o ho
    have hq2 := hG i q hi hq
    refine ⟨osdB_off hq2.1 (by omega), fun j p hj hp => ?_⟩
    obtain ⟨q', hq', rfl, hj'⟩ := at' j p hp
    exact hq2.2 j q' hj hq'
  unfold mayB at *
  rw [goodB_yes hgood, hlen]
  simp only [Bool.and_eq_true, decide_eq_true_eq] at *
  first | exact ⟨by decide, hm.2.1, hm.2.2.1⟩ | exact ⟨by decide, hm.2.1, hm.2.2.1, trivial⟩
theorem Downs.wf {l xs : List Od} {i : Nat} (h : Downs l xs i) (hw : WfL l) : WfL xs := fun o ho => by
  obtain ⟨j, hj, e⟩ := List.mem_iff_getElem.1 ho
  have hj' : j < l.length := by rw [← h.len]; exact hj
  have e2 := h.at_ j _ (List.getElem?_eq_getElem hj')
  rw [List.getElem?_eq_getElem hj, e] at e2
  have hw2 := hw l[j] (List.getElem_mem hj')
  rw [Option.some.inj e2]
  split
  · exact hw2
  · exact hw2
/-! ### lists of numbers alike -/
theorem ints_l0 (l : List Int) (hl : l.length ≤ 64) : ∀ r i : Nat, i + r = l.length → ∃ K, mooringref17_Ints.l0 K l l (i : Int) = some true
  | 0, i, hi => ⟨1, by rw [mooringref17_Ints.l0, if_neg (by omega)]⟩
  | r + 1, i, hi => by
    obtain ⟨K, hK⟩ := ints_l0 l hl r (i + 1) (by omega)
    refine ⟨K + 1, ?_⟩
    rw [mooringref17_Ints.l0, if_pos (by omega), if_pos (by omega), if_pos (by omega), if_pos rfl, w64 (by omega) (by omega)]
    exact hK
theorem ints_self (l : List Int) (hl : l.length ≤ 64) : ∃ K, mooringref17_Ints.f K l l = some true := by
  obtain ⟨K, hK⟩ := ints_l0 l hl l.length 0 (by omega)
  exact ⟨K, by unfold mooringref17_Ints.f; rw [if_pos rfl]; exact hK⟩
theorem ints_C {w : World} {g n : Nat} {ps : List Int} (h : w.heap[g]? = some (.cells (outA n ps) 3 (0, 0))) (hn : ps.length = n) (hs : n ≤ 64) : Kd.C (Kd.int .i64) w (some ⟨g, 0, none⟩) ps.length ps := by
  refine ⟨rfl, by omega, fun _ => ⟨_, rfl, fun j p hj => ?_⟩⟩
  refine ⟨[.int .i64 p], rfl, rfl, fun i u hu => ?_⟩
  match i, hu with
  | 0, hu =>
    obtain rfl := Option.some.inj hu
    rw [add_plain, show j * (Kd.int .i64).sz + 0 = j from Nat.mul_one j, blk_cell h, List.getElem?_toArray, List.getElem?_append_left (by rw [List.length_map]; exact (List.getElem?_eq_some_iff.1 hj).1), List.getElem?_map, hj]
    rfl
  | i + 1, hu => cases hu
theorem places_len (l : List Od) (x want : Int) (lv : Nat) : ∀ m p taken, (places l x want lv m p taken).length = m
  | 0, _, _ => rfl
  | m + 1, p, taken => by
    simp only [places]
    split
    · rw [List.length_cons, places_len l x want lv m]
    · rw [List.length_cons, places_len l x want lv m]
end Go.Proofs.Ytnpphmgibgfjoaa.UpsP
/- Who is chosen is apart from the others, and in: plain lists. -/
namespace Go.Proofs.Ytnpphmgibgfjoaa.ApP
open Go Go.RowKit Go.Proofs.YtnpphmgibgfjoaaW.PrintWords KW MixP MixW StrP PAll AtA AtB Grp Dsc Roo Cho UpsP
open CrP hiding Od
def Asc (l : List Od) : Prop := l.Pairwise (fun a b => a.f0 < b.f0)
theorem asc_of_good {l : List Od} (h : AtA.Good l l.length) : Asc l := by
  refine List.pairwise_iff_getElem.2 (fun i j hi hj hij => ?_)
  exact ((h j l[j] hj (List.getElem?_eq_getElem hj)).2 i l[i] hij (List.getElem?_eq_getElem hi)).1
theorem may_asc {ep k m p d : Int} {l : List Od} (h : mayB ep k m p d l = true) : Asc l := asc_of_good (goodB_iff.1 (may_good h).2)
theorem sumK_none {lv : Nat} {k : Int} : ∀ {l : List Od}, (∀ a ∈ l, keyN lv a ≠ k) → sumK lv k l = 0
  | [], _ => rfl
  | a :: r, h => by
    simp only [sumK]
    rw [if_neg (h a List.mem_cons_self), sumK_none (fun b hb => h b (List.mem_cons_of_mem _ hb))]
    rfl
theorem sumK_one : ∀ {l : List Od} {o : Od}, Asc l → o ∈ l → sumK 3 o.f0 l = wOf o
  | a :: r, o, h, ho => by
    have h1 := List.pairwise_cons.1 h
    simp only [sumK]
    rcases List.mem_cons.1 ho with rfl | ho
    · rw [show keyN 3 o = o.f0 from rfl, if_pos rfl, sumK_none (fun b hb => by have := h1.1 b hb; show b.f0 ≠ o.f0; omega), Int.add_zero]
    · have h2 := h1.1 o ho
      rw [show keyN 3 a = a.f0 from rfl, if_neg (by omega), sumK_one h1.2 ho, Int.zero_add]
theorem asc_filter {l : List Od} (h : Asc l) (p : Od → Bool) : Asc (l.filter p) := List.Pairwise.filter p h
theorem lvl_asc {x r : Int} {lv : Nat} {l l' : List Od} (hl : Asc l) (h : lvl x r lv l = some l') : Asc l' := by
  obtain ⟨v, _, _, rfl⟩ := lvl_some h
  exact asc_filter hl _
theorem desc_weight {x r : Int} {l : List Od} {o : Od} (hl : Asc l) (h : desc x r l = some o) : 0 < wOf o := by
  unfold desc at h
  obtain ⟨l3, h3, ho⟩ := Option.bind_eq_some_iff.1 h
  obtain ⟨l2, h2, h3⟩ := Option.bind_eq_some_iff.1 h3
  obtain ⟨l1, h1, h2⟩ := Option.bind_eq_some_iff.1 h2
  have a2 := lvl_asc (lvl_asc hl h1) h2
  obtain ⟨v, hv, hd, rfl⟩ := lvl_some h3
  have hm := (List.mem_filter.1 (List.mem_of_mem_head? ho))
  have hk : o.f0 = v.id := of_decide_eq_true hm.2
  have hw := ((group_mem 3 l2 v).1 hv).2
  rw [← hk, sumK_one a2 hm.1] at hw
  have := ((drB_iff v).1 hd).1
  omega
theorem tries_some {l : List Od} {x want p : Int} {lv : Nat} {taken : List Int} {o : Od} : ∀ {m t : Nat}, tries l x want p lv taken m t = some o → ∃ r, desc x r l = some o ∧ keyN lv o ∉ taken
  | 0, _, h => by cases h
  | m + 1, t, h => by
    simp only [tries] at h
    cases hd : desc x (p + t * want) l with
    | none => rw [hd] at h; exact tries_some h
    | some q =>
      rw [hd] at h
      by_cases hk : keyN lv q ∈ taken
      · simp only [if_pos hk] at h; exact tries_some h
      · simp only [if_neg hk] at h
        obtain rfl := Option.some.inj h
        exact ⟨_, hd, hk⟩
/-- Who has each place. -/
def slots (l : List Od) (x want : Int) (lv : Nat) : Nat → Nat → List Int → List (Option Od)
  | 0, _, _ => []
  | m + 1, p, taken => match tries l x want p lv taken 50 0 with
    | some o => some o :: slots l x want lv m (p + 1) (keyN lv o :: taken)
    | none => none :: slots l x want lv m (p + 1) taken
def vO : Option Od → Int
  | some o => o.f0
  | none => -1
theorem places_slots (l : List Od) (x want : Int) (lv : Nat) : ∀ m p taken, places l x want lv m p taken = (slots l x want lv m p taken).map vO
  | 0, _, _ => rfl
  | m + 1, p, taken => by
    simp only [places, slots]
    cases tries l x want p lv taken 50 0 with
    | some o => simp only [List.map_cons, places_slots l x want lv m]; rfl
    | none => simp only [List.map_cons, places_slots l x want lv m]; rfl
theorem slots_len (l : List Od) (x want : Int) (lv : Nat) (m p : Nat) (taken : List Int) : (slots l x want lv m p taken).length = m := by
  have := places_len l x want lv m p taken
  rw [places_slots, List.length_map] at this
  exact this
theorem slots_mem {l : List Od} {x want : Int} {lv : Nat} (hl : Asc l) : ∀ {m p : Nat} {taken : List Int} {o : Od}, some o ∈ slots l x want lv m p taken → o ∈ l ∧ 0 < wOf o ∧ keyN lv o ∉ taken
  | 0, _, _, _, h => absurd h List.not_mem_nil
  | m + 1, p, taken, o, h => by
    simp only [slots] at h
    cases ht : tries l x want p lv taken 50 0 with
    | none =>
      rw [ht] at h
      rcases List.mem_cons.1 h with h | h
      · cases h
      · exact slots_mem hl h
    | some q =>
      rw [ht] at h
      rcases List.mem_cons.1 h with h | h
      · obtain rfl := Option.some.inj h
        obtain ⟨r, hd, hk⟩ := tries_some ht
        exact ⟨desc_mem hd, desc_weight hl hd, hk⟩
      · have := slots_mem hl h
        exact ⟨this.1, this.2.1, fun hm => this.2.2 (List.mem_cons_of_mem _ hm)⟩
def Apart (lv : Nat) (a b : Option Od) : Prop := ∀ o q, a = some o → b = some q → keyN lv o ≠ keyN lv q
theorem slots_apart {l : List Od} {x want : Int} {lv : Nat} (hl : Asc l) : ∀ (m p : Nat) (taken : List Int), (slots l x want lv m p taken).Pairwise (Apart lv)
  | 0, _, _ => List.Pairwise.nil
  | m + 1, p, taken => by
    simp only [slots]
    cases ht : tries l x want p lv taken 50 0 with
    | none => exact List.pairwise_cons.2 ⟨fun b _ o q h => by (cases h), slots_apart hl m (p + 1) taken⟩
    | some q =>
      refine List.pairwise_cons.2 ⟨fun b hb o q' h1 h2 e => ?_, slots_apart hl m (p + 1) _⟩
      obtain rfl := Option.some.inj h1
      subst h2
      exact (slots_mem hl hb).2.2 (by rw [← e]; exact List.mem_cons_self)
theorem apart_get {l : List Od} {x want : Int} {lv n : Nat} (hl : Asc l) {i j : Nat} {o q : Od} (hij : j < i) (hi : (slots l x want lv n 0 [])[i]? = some (some o)) (hj : (slots l x want lv n 0 [])[j]? = some (some q)) : keyN lv q ≠ keyN lv o := by
  have h := List.pairwise_iff_getElem.1 (slots_apart (x := x) (want := want) (lv := lv) hl n 0 [])
  obtain ⟨h1, e1⟩ := List.getElem?_eq_some_iff.1 hi
  obtain ⟨h2, e2⟩ := List.getElem?_eq_some_iff.1 hj
  exact h j i h2 h1 hij q o e2 e1
/-! ### who is found by a number -/
def findO (l : List Od) (id : Int) : Option Od := l.find? fun o => o.f0 == id
theorem findO_mem : ∀ {l : List Od} {o : Od}, Asc l → o ∈ l → findO l o.f0 = some o
  | a :: r, o, h, ho => by
    have h1 := List.pairwise_cons.1 h
    unfold findO
    rw [List.find?_cons]
    rcases List.mem_cons.1 ho with rfl | ho
    · simp
    · have h2 := h1.1 o ho
      have : (a.f0 == o.f0) = false := beq_eq_false_iff_ne.2 (by omega)
      rw [this]
      exact findO_mem h1.2 ho
theorem findO_none {l : List Od} {id : Int} (h : ∀ o ∈ l, o.f0 ≠ id) : findO l id = none := List.find?_eq_none.2 (fun o ho => by have := h o ho; simpa using this)
theorem findO_some {l : List Od} {id : Int} {o : Od} (h : findO l id = some o) : o ∈ l ∧ o.f0 = id := ⟨List.mem_of_find?_eq_some h, by have := List.find?_some h; simpa using this⟩
theorem same_host {ep k m p d : Int} {l : List Od} (h : mayB ep k m p d l = true) {a b : Od} (ha : a ∈ l) (hb : b ∈ l) (e : a.f0 = b.f0) : a = b := by
  have hl := may_asc h
  have h1 := findO_mem hl ha
  rw [e, findO_mem hl hb] at h1
  exact (Option.some.inj h1).symm
/-! ### how many have room -/
theorem nodup_le : ∀ {xs ys : List Int}, xs.Nodup → (∀ x ∈ xs, x ∈ ys) → xs.length ≤ ys.length
  | [], _, _, _ => Nat.zero_le _
  | x :: r, ys, hn, h => by
    have h1 := List.nodup_cons.1 hn
    have hx := h x List.mem_cons_self
    have h2 : r.length ≤ (ys.erase x).length := nodup_le h1.2 (fun z hz => by
      have hne : z ≠ x := fun e => h1.1 (by rw [← e]; exact hz)
      exact (List.mem_erase_of_ne hne).2 (h z (List.mem_cons_of_mem _ hz)))
    rw [List.length_erase_of_mem hx] at h2
    have := List.length_pos_of_mem hx
    simp only [List.length_cons]
    omega
theorem sumK_ge {lv : Nat} : ∀ {l : List Od} {o : Od}, (∀ a ∈ l, 0 ≤ wOf a) → o ∈ l → wOf o ≤ sumK lv (keyN lv o) l
  | a :: r, o, h, ho => by
    have h0 : ∀ b ∈ r, 0 ≤ wOf b := fun b hb => h b (List.mem_cons_of_mem _ hb)
    simp only [sumK]
    rcases List.mem_cons.1 ho with rfl | ho
    · rw [if_pos rfl]
      have : 0 ≤ sumK lv (keyN lv o) r := sumK_pos lv _ h0
      omega
    · have := sumK_ge (lv := lv) h0 ho
      have := h a List.mem_cons_self
      split <;> omega
where
  sumK_pos (lv : Nat) (k : Int) : ∀ {l : List Od}, (∀ a ∈ l, 0 ≤ wOf a) → 0 ≤ sumK lv k l
    | [], _ => by simp [sumK]
    | a :: r, h => by
      simp only [sumK]
      have := sumK_pos lv k (fun b hb => h b (List.mem_cons_of_mem _ hb))
      have := h a List.mem_cons_self
      split <;> omega
def some_ (cs : List (Option Od)) : Nat := (cs.filterMap id).length
theorem keys_nodup {lv : Nat} : ∀ {cs : List (Option Od)}, cs.Pairwise (Apart lv) → ((cs.filterMap id).map (keyN lv)).Nodup
  | [], _ => List.nodup_nil
  | none :: r, h => by
    show ((r.filterMap id).map (keyN lv)).Nodup
    exact keys_nodup (List.pairwise_cons.1 h).2
  | some o :: r, h => by
    have h1 := List.pairwise_cons.1 h
    show (keyN lv o :: ((r.filterMap id).map (keyN lv))).Nodup
    refine List.nodup_cons.2 ⟨fun hm => ?_, keys_nodup h1.2⟩
    obtain ⟨q, hq, e⟩ := List.mem_map.1 hm
    obtain ⟨b, hb, eb⟩ := List.mem_filterMap.1 hq
    exact h1.1 b hb o q rfl eb e.symm
theorem some_le_room {ep k m p d : Int} {l : List Od} {x want : Int} {lv n : Nat} (h : mayB ep k m p d l = true) : some_ (slots l x want lv n 0 []) ≤ room lv l := by
  have hl := may_asc h
  have hg := may_goodL h
  unfold some_ room
  have h1 := nodup_le (ys := ((group lv l).filter fun u => decide (0 < u.wt)).map (·.id)) (keys_nodup (slots_apart (x := x) (want := want) hl n 0 [])) (fun z hz => by
    obtain ⟨o, ho, rfl⟩ := List.mem_map.1 hz
    obtain ⟨b, hb, eb⟩ := List.mem_filterMap.1 ho
    have eb' : b = some o := eb
    subst eb'
    obtain ⟨hm, hw, _⟩ := slots_mem hl hb
    refine List.mem_map.2 ⟨⟨keyN lv o, sumK lv (keyN lv o) l⟩, List.mem_filter.2 ⟨(group_mem lv l _).2 ⟨⟨o, hm, rfl⟩, rfl⟩, decide_eq_true ?_⟩, rfl⟩
    have := sumK_ge (lv := lv) (fun a ha => (hg.wt a ha).1) hm
    show 0 < sumK lv (keyN lv o) l
    omega)
  simpa using h1
theorem sumK_some {lv : Nat} {k : Int} : ∀ {l : List Od}, 0 < sumK lv k l → (∀ a ∈ l, 0 ≤ wOf a) → ∃ o ∈ l, keyN lv o = k ∧ 0 < wOf o
  | [], h, _ => by simp [sumK] at h
  | a :: r, h, h0 => by
    by_cases hk : keyN lv a = k ∧ 0 < wOf a
    · exact ⟨a, List.mem_cons_self, hk⟩
    · have : 0 < sumK lv k r := by
        simp only [sumK] at h
        have := h0 a List.mem_cons_self
        split at h
        · rename_i e
          have : ¬ 0 < wOf a := fun hw => hk ⟨e, hw⟩
          omega
        · omega
      obtain ⟨o, ho, h1⟩ := sumK_some this (fun b hb => h0 b (List.mem_cons_of_mem _ hb))
      exact ⟨o, List.mem_cons_of_mem _ ho, h1⟩
theorem lvl_ok {x r : Int} {lv : Nat} {l : List Od} (hg : GoodL l) (h : ∃ o ∈ l, 0 < wOf o) : ∃ l', lvl x r lv l = some l' ∧ GoodL l' ∧ ∃ o ∈ l', 0 < wOf o := by
  obtain ⟨o, ho, hw⟩ := h
  have hne : lvl x r lv l ≠ none := by
    intro hn
    unfold lvl at hn
    split at hn
    · rename_i hp
      rcases pick_best (h2I x lv) r (group lv l) with ⟨_, ha⟩ | ⟨n, w, e, _⟩
      · have hm : (⟨keyN lv o, sumK lv (keyN lv o) l⟩ : Wd) ∈ group lv l := (group_mem lv l _).2 ⟨⟨o, ho, rfl⟩, rfl⟩
        obtain ⟨i, hi, e⟩ := List.mem_iff_getElem.1 hm
        have hf := ha i _ (by rw [List.getElem?_eq_getElem hi, e])
        have h1 := sumK_ge (lv := lv) (fun a ha => (hg.wt a ha).1) ho
        have h2 := (sumK_range (lv := lv) (k := keyN lv o) hg.wt).2
        have h3 := hg.len
        have : drB ⟨keyN lv o, sumK lv (keyN lv o) l⟩ = true := (drB_iff _).2 ⟨by show 1 ≤ sumK lv (keyN lv o) l; omega, by show sumK lv (keyN lv o) l ≤ 1073741824; omega⟩
        rw [this] at hf
        cases hf
      · rw [e] at hp
        omega
    · cases hn
  cases hl : lvl x r lv l with
  | none => exact absurd hl hne
  | some l' =>
    obtain ⟨v, hv, hd, rfl⟩ := lvl_some hl
    have h1 := ((group_mem lv l v).1 hv).2
    have h2 := ((drB_iff v).1 hd).1
    obtain ⟨q, hq, hk, hw2⟩ := sumK_some (lv := lv) (k := v.id) (l := l) (by omega) (fun a ha => (hg.wt a ha).1)
    exact ⟨_, rfl, hg.filter _, q, List.mem_filter.2 ⟨hq, decide_eq_true hk⟩, hw2⟩
theorem desc_ok {x r : Int} {l : List Od} (hg : GoodL l) (h : ∃ o ∈ l, 0 < wOf o) : ∃ o, desc x r l = some o := by
  obtain ⟨l1, e1, g1, h1⟩ := lvl_ok (x := x) (r := r) (lv := 1) hg h
  obtain ⟨l2, e2, g2, h2⟩ := lvl_ok (x := x) (r := r) (lv := 2) g1 h1
  obtain ⟨l3, e3, g3, o, ho, hw⟩ := lvl_ok (x := x) (r := r) (lv := 3) g2 h2
  unfold desc
  rw [e1, Option.bind_some, e2, Option.bind_some, e3, Option.bind_some]
  cases l3 with
  | nil => exact absurd ho List.not_mem_nil
  | cons a r => exact ⟨a, rfl⟩
theorem some_pos {ep k m p d : Int} {l : List Od} {x want : Int} {lv n : Nat} (h : mayB ep k m p d l = true) (hn : 1 ≤ n) (hr : room lv l ≠ 0) : 0 < some_ (slots l x want lv n 0 []) := by
  have hg := may_goodL h
  have hpos : 0 < ((group lv l).filter fun u => decide (0 < u.wt)).length := Nat.pos_of_ne_zero hr
  obtain ⟨v, hv⟩ := List.exists_mem_of_length_pos hpos
  have hv2 := List.mem_filter.1 hv
  have hw : 0 < v.wt := of_decide_eq_true hv2.2
  obtain ⟨q, hq, _, hwq⟩ := sumK_some (lv := lv) (k := v.id) (l := l) (by rw [← ((group_mem lv l v).1 hv2.1).2]; exact hw) (fun a ha => (hg.wt a ha).1)
  obtain ⟨o, ho⟩ := desc_ok (x := x) (r := ((0 : Nat) : Int) + ((0 : Nat) : Int) * want) hg ⟨q, hq, hwq⟩
  obtain ⟨n', rfl⟩ : ∃ n', n = n' + 1 := ⟨n - 1, by omega⟩
  have ht : tries l x want ((0 : Nat) : Int) lv [] 50 0 = some o := by
    simp only [tries, ho]
    rw [if_neg List.not_mem_nil]
  unfold some_
  simp only [slots]
  rw [ht]
  show 0 < (o :: ((slots l x want lv n' (0 + 1) (keyN lv o :: [])).filterMap id)).length
  simp
end Go.Proofs.Ytnpphmgibgfjoaa.ApP
/- Find: who has a number. -/
namespace Go.Proofs.Ytnpphmgibgfjoaa.Fnd
open Go Go.RowKit Go.Proofs.YtnpphmgibgfjoaaW.PrintWords Go.Proofs.YtnpphmgibgfjoaaW.PrintLast Go.Proofs.YtnpphmgibgfjoaaW.PrintMore PAll AtA AtB Dsc MayP ApP
open CrP hiding Od
section
variable (ep k m p d id : Int) (l : List Od)
theorem place_l0 (hl : l.length ≤ 9223372036854775807) : ∀ r i : Nat, i + r = l.length → ∃ K z, mooringref13_place.l0 K id (i : Int) ep k m p d l = some z ∧ ((z = -1 ∧ (l.drop i).find? (fun o => o.f0 == id) = none) ∨ ∃ (j : Nat) (o : Od), z = j ∧ l[j]? = some o ∧ (l.drop i).find? (fun o => o.f0 == id) = some o)
  | 0, i, hi => ⟨1, -1, by rw [mooringref13_place.l0, if_neg (by omega)], .inl ⟨rfl, by rw [List.drop_eq_nil_of_le (by omega)]; rfl⟩⟩
  | r + 1, i, hi => by
    obtain ⟨K, z, hK, hz⟩ := place_l0 hl r (i + 1) (by omega)
    have h1 : i < l.length := by omega
    have ho : l[i]? = some l[i] := List.getElem?_eq_getElem h1
    have e : l.drop i = l[i] :: l.drop (i + 1) := List.drop_eq_getElem_cons h1
    by_cases hk : l[i].f0 = id
    · refine ⟨1, i, ?_, .inr ⟨i, l[i], rfl, ho, ?_⟩⟩
      · rw [mooringref13_place.l0, if_pos (by omega), if_pos (by omega), rd_at ho, if_pos hk]
      · rw [e, List.find?_cons, beq_iff_eq.2 hk]
    · refine ⟨K + 1, z, ?_, ?_⟩
      · rw [mooringref13_place.l0, if_pos (by omega), if_pos (by omega), rd_at ho, if_neg hk, w64 (by omega) (by omega)]
        exact hK
      · rw [e, List.find?_cons, beq_eq_false_iff_ne.2 hk]
        exact hz
theorem find_eq (hl : l.length ≤ 9223372036854775807) : ∃ K, mooringref13_Find.f K ep k m p d l id = some (match findO l id with | some o => (o.f0, o.f1, o.f2, o.f3, o.f4, o.f5, o.f6, o.f7, true) | none => (0, false, false, 0, 0, 0, 0, 0, false)) := by
  obtain ⟨K, z, hK, hz⟩ := place_l0 ep k m p d id l hl l.length 0 (by omega)
  refine ⟨K, ?_⟩
  unfold mooringref13_Find.f mooringref13_place.f findO
  rw [show ((0 : Nat) : Int) = 0 from rfl] at hK
  rw [hK, Option.bind_some]
  rw [List.drop_zero] at hz
  rcases hz with ⟨rfl, hn⟩ | ⟨j, o, rfl, ho, hf⟩
  · rw [if_pos (by decide), hn]
  · have := (List.getElem?_eq_some_iff.1 ho).1
    rw [if_neg (by omega), if_pos (by omega), if_pos (by omega), hf, rd_at ho]
end
theorem find_calls (ep k m p d : Int) (A : Option Addr) (c : Nat) (l : List Od) (id : Int) (w : World) (hx : kO.C w A l.length l) (hcap : l.length ≤ c) :
    Calls Try.prog 18 #[.agg (boxM ep k m p d A c l), .int .i64 id] w fun e w' => e = .returned (descV (findO l id)) ∧ Below w.heap.size w w' := by
  obtain ⟨K, hK⟩ := find_eq ep k m p d id l hx.2.1
  cases hf : findO l id with
  | none =>
    rw [hf] at hK
    refine (mooringref13_Find.calls K ep k m p d A c l id _ _ _ _ _ _ _ _ _ w hx hcap hK).mono ?_
    rintro e w1 ⟨rfl, hb⟩
    exact ⟨rfl, hb⟩
  | some o =>
    rw [hf] at hK
    refine (mooringref13_Find.calls K ep k m p d A c l id _ _ _ _ _ _ _ _ _ w hx hcap hK).mono ?_
    rintro e w1 ⟨rfl, hb⟩
    exact ⟨rfl, hb⟩
end Go.Proofs.Ytnpphmgibgfjoaa.Fnd
/- The program's Find. -/
namespace Go.Proofs.Ytnpphmgibgfjoaa.PlF
open Go Go.RowKit Go.Proofs.YtnpphmgibgfjoaaW.PrintWords Go.Proofs.YtnpphmgibgfjoaaW.PrintMore Mem PAll KW MixP MixW StrP AtA Srt Grp Sl Dsc ApP
open CrP hiding Od
abbrev fv (q : Nat) : Value := .func (.func 92) #[] #[.pointer (some ⟨q, 0, none⟩)]
theorem tell_calls (q : Nat) (id : Int) (o : Od) (W : World) (hq : W.cell? ⟨q, 0, none⟩ = some (.int .i64 id)) :
    Calls Try.prog 92 #[.agg (aggO o), .pointer (some ⟨q, 0, none⟩)] W fun e w' => e = .returned (.bool (o.f0 == id)) ∧ Below W.heap.size W w' := by
  have HB := Lib.hid (below_alloc (Below.refl W.heap.size W) (.cells (aggO o) 40))
  have hq2 := cell_alloc hq (.cells (aggO o) 40)
  clear hq
  go_enter Try.func92, Try.ntmps92
  go_wp2_with fail
  go_ret
  exact ⟨rfl, HB.out⟩
set_option maxHeartbeats 1600000 in
theorem findI_calls (q : Nat) (id : Int) (A : Option Addr) (c : Nat) (l : List Od) (w : World) (hx : kO.C w A l.length l) (hq : w.cell? ⟨q, 0, none⟩ = some (.int .i64 id)) :
    Calls Try.prog 91 #[.slice A l.length c, fv q] w fun e w' => ∃ n : Int, e = .returned (.int .i64 n) ∧ FirstOf (fun o => o.f0 == id) l n ∧ Below w.heap.size w w' := by
  have HC := Lib.hid hx
  have HQ0 := Lib.hid hq
  have hm : l.length ≤ 9223372036854775807 := hx.2.1
  have HB0 := Lib.hid (Below.refl w.heap.size w)
  clear hx hq
  go_enter Try.func91, Try.ntmps91
  go_wp2_with fail
  go_loopw [8] (fun i' wr => ∃ (n : Nat), i' = .int .i64 n ∧ Hid (n ≤ l.length ∧ ∀ o ∈ l.take n, (o.f0 == id) = false) ∧ Hid (Below w.heap.size w wr)) (fun i' _ => (l.length - intOf i').toNat)
  case atStart => exact ⟨0, rfl, Lib.hid ⟨Nat.zero_le _, fun o ho => by rw [List.take_zero] at ho; exact absurd ho List.not_mem_nil⟩, HB0⟩
  case round =>
    obtain ⟨n, rfl, HN, HB⟩ := hrel
    have hn := HN.out.1
    by_cases h : n < l.length
    · have hlt : decide (n < l.length) = true := decide_eq_true h
      have i0 : (0 : Int) ≤ n := by omega
      obtain ⟨ad, o, ho, hA, a0, a1, a2, a3, a4, a5, a6, a7⟩ := at_O (Kd.C_below HC.out HB.out) n h
      subst hA
      have HQ := Lib.hid ho
      obtain ⟨lk, hlk⟩ : ∃ lk, lk = (o.f0 == id) := ⟨_, rfl⟩
      have T := Lib.hid (tell_calls q id o wr ((HB.out.cell (World.block_lt_of_cell? _ _ HQ0.out)).trans HQ0.out))
      rw [← hlk] at T
      have HLK := Lib.hid hlk
      clear ho hlk
      go_wp2_with fail
      refine T.out.mono ?_
      rintro e w1 ⟨rfl, hb⟩
      have HB1 := Lib.hid (below_then HB.out HB.out.size hb)
      clear hb T HB
      cases lk
      · go_wp2_with fail
        go_roundw
        case rel =>
          refine ⟨n + 1, by go_num, Lib.hid ⟨by omega, fun z hz => ?_⟩, HB1⟩
          rw [List.take_succ_eq_append_getElem h, (List.getElem?_eq_some_iff.1 HQ.out).2] at hz
          rcases List.mem_append.1 hz with hz | hz
          · exact HN.out.2 z hz
          · rw [List.mem_singleton.1 hz]; exact HLK.out.symm
        case measure => simp only [intOf]; omega
      · go_wp2_with fail
        go_ret
        exact ⟨n, rfl, .inr ⟨n, rfl, h, HN.out.2, o, HQ.out, HLK.out.symm⟩, HB1.out⟩
    · obtain rfl : n = l.length := by omega
      have hlt : decide (l.length < l.length) = false := decide_eq_false (by omega)
      go_wp2_with fail
      go_ret
      exact ⟨-1, rfl, .inl ⟨rfl, by have := HN.out.2; rwa [List.take_length] at this⟩, HB.out⟩
theorem first_find {l : List Od} {id n : Int} (h : FirstOf (fun o => o.f0 == id) l n) : (n = -1 ∧ findO l id = none) ∨ ∃ (i : Nat) (o : Od), n = i ∧ l[i]? = some o ∧ findO l id = some o := by
  rcases h with ⟨rfl, h⟩ | ⟨i, rfl, hi, hb, o, ho, hd⟩
  · exact .inl ⟨rfl, List.find?_eq_none.2 (fun o ho => by have := h o ho; simpa using this)⟩
  · refine .inr ⟨i, o, rfl, ho, ?_⟩
    have e : l = l.take i ++ (o :: l.drop (i + 1)) := by
      rw [← (List.getElem?_eq_some_iff.1 ho).2, ← List.drop_eq_getElem_cons hi, List.take_append_drop]
    unfold findO
    rw [e, List.find?_append, List.find?_eq_none.2 (fun z hz => by have := hb z hz; simpa using this), Option.none_or, List.find?_cons, show (o.f0 == id) = true from hd]
set_option maxHeartbeats 4000000 in
set_option maxRecDepth 100000 in
theorem aFind_calls (ep k m p d : Int) (A : Option Addr) (c : Nat) (l : List Od) (id : Int) (w : World) (hx : kO.C w A l.length l) :
    Calls Try.prog 66 #[.agg (boxM ep k m p d A c l), .int .i64 id] w fun e w' => e = .returned (descV (findO l id)) ∧ Below w.heap.size w w' := by
  have hs1 : (w.alloc (.cells (boxM ep k m p d A c l) 26)).heap.size = w.heap.size + 1 := by simp only [World.alloc, Array.size_push]
  have hs2 : ((w.alloc (.cells (boxM ep k m p d A c l) 26)).alloc (.cells #[.int .i64 id] 3)).heap.size = w.heap.size + 2 := by simp only [World.alloc, Array.size_push]
  have HM1 : Hid ((((w.alloc (.cells (boxM ep k m p d A c l) 26)).alloc (.cells #[.int .i64 id] 3)).alloc (.cells zeroA 40)).heap[w.heap.size]? = some (.cells (boxM ep k m p d A c l) 26 (0, 0))) := Lib.hid (blk_below (blk_new _ _) (below_alloc (below_alloc (Below.refl _ _) _) _))
  have HI1 : Hid ((((w.alloc (.cells (boxM ep k m p d A c l) 26)).alloc (.cells #[.int .i64 id] 3)).alloc (.cells zeroA 40)).heap[w.heap.size + 1]? = some (.cells #[.int .i64 id] 3 (0, 0))) := Lib.hid (by
    have h := blk_new (w.alloc (.cells (boxM ep k m p d A c l) 26)) (.cells #[.int .i64 id] 3)
    rw [hs1] at h
    exact blk_below h (below_alloc (Below.refl _ _) _))
  have HR1 : Hid ((((w.alloc (.cells (boxM ep k m p d A c l) 26)).alloc (.cells #[.int .i64 id] 3)).alloc (.cells zeroA 40)).heap[w.heap.size + 2]? = some (.cells zeroA 40 (0, 0))) := Lib.hid (by
    have h := blk_new ((w.alloc (.cells (boxM ep k m p d A c l) 26)).alloc (.cells #[.int .i64 id] 3)) (.cells zeroA 40)
    rw [hs2] at h
    exact h)
  have HB1 := Lib.hid (below_alloc (below_alloc (below_alloc (Below.refl w.heap.size w) (.cells (boxM ep k m p d A c l) 26)) (.cells #[.int .i64 id] 3)) (.cells zeroA 40))
  have HC1 := Lib.hid (Kd.C_below hx HB1.out)
  obtain ⟨w1, hw1⟩ : ∃ w1, w1 = ((w.alloc (.cells (boxM ep k m p d A c l) 26)).alloc (.cells #[.int .i64 id] 3)).alloc (.cells zeroA 40) := ⟨_, rfl⟩
  have HWN := Lib.hid hw1
  rw [← hw1] at HM1 HI1 HR1 HB1 HC1
  clear hx hw1 hs1 hs2
  unfold boxM at *
  unfold zeroA at HWN
  go_enter Try.func66, Try.ntmps66
  go_wp2_with fail
  rw [← HWN.out]
  refine (findI_calls (w.heap.size + 1) id A c l w1 HC1.out (blk_cell HI1.out 0)).mono ?_
  rintro e w2 ⟨n, rfl, hf, hb⟩
  have HB2 := Lib.hid (below_then HB1.out HB1.out.size hb)
  have HM2 := Lib.hid (blk_below HM1.out hb)
  have HR2 := Lib.hid (blk_below HR1.out hb)
  have HC2 := Lib.hid (Kd.C_below HC1.out hb)
  clear hb HB1 HM1 HI1 HR1 HC1 HWN
  have m5 := blk_cell HM2.out 5
  obtain ⟨y0, y1, y2, y3, y4, y5, y6, y7⟩ := blkO (o := ⟨0, false, false, 0, 0, 0, 0, 0⟩) HR2.out
  have f0 := blk_frozen HR2.out 0
  have f1 := blk_frozen HR2.out 1
  have f2 := blk_frozen HR2.out 2
  have f3 := blk_frozen HR2.out 3
  have f4 := blk_frozen HR2.out 4
  have f5 := blk_frozen HR2.out 5
  have f6 := blk_frozen HR2.out 6
  have f7 := blk_frozen HR2.out 7
  rcases first_find hf with ⟨rfl, hn⟩ | ⟨i, o, rfl, ho, hfo⟩
  · have HFO := Lib.hid hn
    clear hf hn
    have HF := Lib.hid (put8_blk (q := ⟨0, false, false, 0, 0, 0, 0, 0⟩) HR2.out ⟨0, false, false, 0, 0, 0, 0, 0⟩)
    have HBF := Lib.hid (put8_below HB2.out (show w.heap.size ≤ w.heap.size + 2 by omega) ⟨0, false, false, 0, 0, 0, 0, 0⟩)
    obtain ⟨wf, hwf⟩ : ∃ wf, wf = put8 w2 (w.heap.size + 2) ⟨0, false, false, 0, 0, 0, 0, 0⟩ := ⟨_, rfl⟩
    rw [← hwf] at HF HBF
    simp only [put8] at hwf
    go_wp2_with fail
    rw [← hwf]
    clear hwf
    clear y0 y1 y2 y3 y4 y5 y6 y7 f0 f1 f2 f3 f4 f5 f6 f7
    refine bodyPost_ret (results_ct rfl _ _ (w.heap.size + 2) 40 (aggO ⟨0, false, false, 0, 0, 0, 0, 0⟩) (0, 0) _ rfl HF.out Try.underlying40 rfl (by kernel_rfl)) rfl ?_
    refine ⟨?_, HBF.out⟩
    rw [HFO.out]
    rfl
  · have HFO := Lib.hid hfo
    have hi := (List.getElem?_eq_some_iff.1 ho).1
    have hd : decide ((i : Int) < 0) = false := decide_eq_false (by omega)
    have hlt : decide (i < l.length) = true := decide_eq_true hi
    have i0 : (0 : Int) ≤ i := by omega
    have i1 : (i : Int) < l.length := by omega
    obtain ⟨ad, o', ho', rfl, a0, a1, a2, a3, a4, a5, a6, a7⟩ := at_O HC2.out i hi
    obtain rfl : o = o' := Option.some.inj (ho.symm.trans ho')
    clear hf hfo ho ho' hi
    have HF := Lib.hid (put8_blk (q := ⟨0, false, false, 0, 0, 0, 0, 0⟩) HR2.out o)
    have HBF := Lib.hid (put8_below HB2.out (show w.heap.size ≤ w.heap.size + 2 by omega) o)
    obtain ⟨wf, hwf⟩ : ∃ wf, wf = put8 w2 (w.heap.size + 2) o := ⟨_, rfl⟩
    rw [← hwf] at HF HBF
    simp only [put8] at hwf
    go_wp2_with fail
    rw [← hwf]
    clear hwf
    clear y0 y1 y2 y3 y4 y5 y6 y7 f0 f1 f2 f3 f4 f5 f6 f7
    refine bodyPost_ret (results_ct rfl _ _ (w.heap.size + 2) 40 (aggO o) (0, 0) _ rfl HF.out Try.underlying40 rfl (by kernel_rfl)) rfl ?_
    refine ⟨?_, HBF.out⟩
    rw [HFO.out]
    rfl
end Go.Proofs.Ytnpphmgibgfjoaa.PlF
/- Who is to keep a placement group. -/
set_option linter.unusedSimpArgs false
namespace Go.Proofs.Ytnpphmgibgfjoaa.PlU
open Go Go.RowKit Go.Proofs.YtnpphmgibgfjoaaW.PrintWords Go.Proofs.YtnpphmgibgfjoaaW.PrintMore Go.Proofs.YtnpphmgibgfjoaaW.PrintLast Mem PAll KW MixP MixW StrP StrW AtA Srt Grp Sl Dsc AtB Roo Cho MayP Awk ApP PlF
open CrP hiding Od
def upB (mb : Bool) (pg p : Int) : Bool := mb && (decide (0 ≤ pg) && decide (pg < p))
theorem pool_ranges {ep k m p d : Int} {l : List Od} (h : mayB ep k m p d l = true) : 1 ≤ k ∧ 1 ≤ m ∧ k + m ≤ 32 ∧ 1 ≤ p ∧ p ≤ 32 ∧ domB d = true := by
  unfold mayB poolB at h
  simp only [Bool.and_eq_true, decide_eq_true_eq] at h
  obtain ⟨_, ⟨h1, h2, h3, h4, h5, h6, h7⟩, _⟩ := h
  refine ⟨h1, h2, by omega, h5, h6, ?_⟩
  unfold winB at h7
  simp only [Bool.and_eq_true, decide_eq_true_eq] at h7
  unfold domB
  have : d = 0 ∨ d = 1 ∨ d = 2 := by omega
  rcases this with rfl | rfl | rfl <;> rfl
/-- What x a placement group has. -/
def pgX (pg : Int) : Int := h2I pg 1886351212
set_option maxHeartbeats 4000000 in
set_option maxRecDepth 100000 in
theorem Up_bad (ep k m p d : Int) (A : Option Addr) (c : Nat) (l : List Od) (pg : Int) (w : World) (hx : kO.C w A l.length l) (hwf : WfL l) (hn : upB (mayB ep k m p d l) pg p = false) :
    Calls Try.prog 34 #[.agg (boxM ep k m p d A c l), .int .i64 pg] w fun e w' => e = .returned (.tuple #[.slice none 0 0, .int .i64 1]) ∧ Below w.heap.size w w' := by
  have HB1 := Lib.hid (below_alloc (Below.refl w.heap.size w) (.cells (boxM ep k m p d A c l) 26))
  have HM1 : Hid ((w.alloc (.cells (boxM ep k m p d A c l) 26)).heap[w.heap.size]? = some (.cells (boxM ep k m p d A c l) 26 (0, 0))) := Lib.hid (blk_new _ _)
  have T := Lib.hid (check_calls ep k m p d A c l _ (Kd.C_alloc hx (.cells (boxM ep k m p d A c l) 26)) hwf)
  obtain ⟨mb, hmb⟩ : ∃ mb, mb = mayB ep k m p d l := ⟨_, rfl⟩
  rw [← hmb] at T hn
  have HN := Lib.hid hn
  clear hx hwf hn hmb
  unfold boxM at *
  cases mb with
  | false =>
    go_enter Try.func34, Try.ntmps34
    go_wp2_with fail
    refine T.out.mono ?_
    rintro e w1 ⟨rfl, hb⟩
    have HB2 := Lib.hid (below_then HB1.out HB1.out.size hb)
    clear hb T
    go_wp2_with fail
    go_ret2
    exact ⟨rfl, HB2.out⟩
  | true =>
    by_cases h0 : pg < 0
    · have b0 : decide (pg < 0) = true := decide_eq_true h0
      clear h0
      go_enter Try.func34, Try.ntmps34
      go_wp2_with fail
      refine T.out.mono ?_
      rintro e w1 ⟨rfl, hb⟩
      have HB2 := Lib.hid (below_then HB1.out HB1.out.size hb)
      have m3 := blk_cell (blk_below HM1.out hb) 3
      clear hb T
      go_wp2_with fail
      go_ret2
      exact ⟨rfl, HB2.out⟩
    · have b0 : decide (pg < 0) = false := decide_eq_false h0
      have b1 : decide (p ≤ pg) = true := decide_eq_true (by
        have e := HN.out
        unfold upB at e
        rw [decide_eq_true (show 0 ≤ pg by omega)] at e
        have := of_decide_eq_false (show decide (pg < p) = false from e)
        omega)
      clear h0
      go_enter Try.func34, Try.ntmps34
      go_wp2_with fail
      refine T.out.mono ?_
      rintro e w1 ⟨rfl, hb⟩
      have HB2 := Lib.hid (below_then HB1.out HB1.out.size hb)
      have m3 := blk_cell (blk_below HM1.out hb) 3
      clear hb T
      go_wp2_with fail
      go_ret2
      exact ⟨rfl, HB2.out⟩
set_option maxHeartbeats 4000000 in
set_option maxRecDepth 100000 in
theorem Up_ok (ep k m p d : Int) (A : Option Addr) (c : Nat) (l : List Od) (pg : Int) (n : Nat) (w : World) (hx : kO.C w A l.length l) (hwf : WfL l) (hn : upB (mayB ep k m p d l) pg p = true) (hkm : k + m = n) :
    Calls Try.prog 34 #[.agg (boxM ep k m p d A c l), .int .i64 pg] w fun e w' => ∃ g, e = .returned (.tuple #[.slice (some ⟨g, 0, none⟩) n n, .int .i64 0]) ∧ w.heap.size ≤ g ∧ w'.heap[g]? = some (.cells (outA n (places l (pgX pg) n (domL d) n 0 [])) 3 (0, 0)) ∧ Below w.heap.size w w' := by
  have HB1 := Lib.hid (below_alloc (Below.refl w.heap.size w) (.cells (boxM ep k m p d A c l) 26))
  have HM1 : Hid ((w.alloc (.cells (boxM ep k m p d A c l) 26)).heap[w.heap.size]? = some (.cells (boxM ep k m p d A c l) 26 (0, 0))) := Lib.hid (blk_new _ _)
  have HC1 := Lib.hid (Kd.C_alloc hx (.cells (boxM ep k m p d A c l) 26))
  have T := Lib.hid (check_calls ep k m p d A c l _ HC1.out hwf)
  unfold upB at hn
  simp only [Bool.and_eq_true, decide_eq_true_eq] at hn
  obtain ⟨hm, h0, h1⟩ := hn
  have hr := pool_ranges hm
  have TC := Lib.hid (fun W h => Choose_ok ep k m p d A c l d (pgX pg) n W h hwf hm hr.2.2.2.2.2 (by omega) (by omega))
  rw [hm] at T
  have b0 : decide (pg < 0) = false := decide_eq_false (by omega)
  have b1 : decide (p ≤ pg) = false := decide_eq_false (by omega)
  have kw : IntKind.i64.wrap (k + m) = (n : Int) := by rw [hkm]; exact IntWalk.i64_in _ (by omega)
  have ku : IntKind.u32.wrap pg = pg := by rw [IntKind.wrap_u32]; omega
  clear hx hwf hm hr hkm h0 h1
  unfold boxM at *
  go_enter Try.func34, Try.ntmps34
  go_wp2_with fail
  refine T.out.mono ?_
  rintro e w1 ⟨rfl, hb⟩
  have HB2 := Lib.hid (below_then HB1.out HB1.out.size hb)
  have HM2 := Lib.hid (blk_below HM1.out hb)
  have HC2 := Lib.hid (Kd.C_below HC1.out hb)
  have m0 := blk_cell HM2.out 0
  have m1 := blk_cell HM2.out 1
  have m2 := blk_cell HM2.out 2
  have m3 := blk_cell HM2.out 3
  have m4 := blk_cell HM2.out 4
  have m5 := blk_cell HM2.out 5
  clear hb T HB1 HM1 HC1
  go_wp2_with fail
  have hB0 := Lib.hid (below_drew (Below.refl w1.heap.size w1))
  refine start_ (n := 20) (S := fun w' => Below w1.heap.size w1 w') (ds := [15]) #[false, false, false, false, false, false, false, false, false, false, false, false, false, false, false, false, false, false, false, false] (by kernel_rfl) rfl rfl hB0.out (fun hHeld => ?_)
  generalize w1.drew = wd at hB0 hHeld ⊢
  refine pure_ (i := 1) (N := some 21) (v := ?_) (a' := ?_) #[false, true, false, false, false, false, false, false, false, false, false, false, false, false, false, false, false, false, false, false] rfl rfl (by kernel_rfl) (fun _ _ _ h => h) (Or.inl ⟨by rfl, ?_⟩) ?_ ?_
  rotate_left
  · intro w'
    go_simp
    with_reducible rfl
  rotate_left
  · simp only [Act.put, List.setIfInBounds_toArray, List.set_cons_zero, List.set_cons_succ, i64_w, i32_w]
    rfl
  refine pure_ (i := 2) (N := some 22) (v := ?_) (a' := ?_) #[false, true, true, false, false, false, false, false, false, false, false, false, false, false, false, false, false, false, false, false] rfl rfl (by kernel_rfl) (fun _ _ _ h => h) (Or.inl ⟨by rfl, ?_⟩) ?_ ?_
  rotate_left
  · intro w'
    go_simp
    with_reducible rfl
  rotate_left
  · simp only [Act.put, List.setIfInBounds_toArray, List.set_cons_zero, List.set_cons_succ, i64_w, i32_w]
    rfl
  refine pure_ (i := 4) (N := some 24) (v := ?_) (a' := ?_) #[false, true, true, false, true, false, false, false, false, false, false, false, false, false, false, false, false, false, false, false] rfl rfl (by kernel_rfl) (fun _ _ _ h => h) (Or.inl ⟨by rfl, ?_⟩) ?_ ?_
  rotate_left
  · intro w'
    go_simp
    with_reducible rfl
  rotate_left
  · simp only [Act.put, List.setIfInBounds_toArray, List.set_cons_zero, List.set_cons_succ, i64_w, i32_w]
    rfl
  refine pure_ (i := 5) (N := some 25) (v := ?_) (a' := ?_) #[false, true, true, false, true, true, false, false, false, false, false, false, false, false, false, false, false, false, false, false] rfl rfl (by kernel_rfl) (fun _ _ _ h => h) (Or.inl ⟨by rfl, ?_⟩) ?_ ?_
  rotate_left
  · intro w'
    go_simp
    with_reducible rfl
  rotate_left
  · simp only [Act.put, List.setIfInBounds_toArray, List.set_cons_zero, List.set_cons_succ, i64_w, i32_w]
    rfl
  refine pure_ (i := 7) (N := some 27) (v := ?_) (a' := ?_) #[false, true, true, false, true, true, false, true, false, false, false, false, false, false, false, false, false, false, false, false] rfl rfl (by kernel_rfl) (fun _ _ _ h => h) (Or.inl ⟨by rfl, ?_⟩) ?_ ?_
  rotate_left
  · intro w'
    go_simp
    with_reducible rfl
  rotate_left
  · simp only [Act.put, List.setIfInBounds_toArray, List.set_cons_zero, List.set_cons_succ, i64_w, i32_w]
    rfl
  refine pure_ (i := 8) (N := some 28) (v := ?_) (a' := ?_) #[false, true, true, false, true, true, false, true, true, false, false, false, false, false, false, false, false, false, false, false] rfl rfl (by kernel_rfl) (fun _ _ _ h => h) (Or.inl ⟨by rfl, ?_⟩) ?_ ?_
  rotate_left
  · intro w'
    go_simp
    with_reducible rfl
  rotate_left
  · simp only [Act.put, List.setIfInBounds_toArray, List.set_cons_zero, List.set_cons_succ, i64_w, i32_w]
    rfl
  refine pure_ (i := 12) (N := some 32) (v := ?_) (a' := ?_) #[false, true, true, false, true, true, false, true, true, false, false, false, true, false, false, false, false, false, false, false] rfl rfl (by kernel_rfl) (fun _ _ _ h => h) (Or.inl ⟨by rfl, ?_⟩) ?_ ?_
  rotate_left
  · intro w'
    go_simp
    with_reducible rfl
  rotate_left
  · simp only [Act.put, List.setIfInBounds_toArray, List.set_cons_zero, List.set_cons_succ, i64_w, i32_w]
    rfl
  refine pure_ (i := 13) (N := some 33) (v := ?_) (a' := ?_) #[false, true, true, false, true, true, false, true, true, false, false, false, true, true, false, false, false, false, false, false] rfl rfl (by kernel_rfl) (fun _ _ _ h => h) (Or.inl ⟨by rfl, ?_⟩) ?_ ?_
  rotate_left
  · intro w'
    go_simp
    with_reducible rfl
  rotate_left
  · simp only [Act.put, List.setIfInBounds_toArray, List.set_cons_zero, List.set_cons_succ, i64_w, i32_w]
    rfl
  refine take_ (i := 0) (N := some 20) (v := ?_) (a' := ?_) #[true, true, true, false, true, true, false, true, true, false, false, false, true, true, false, false, false, false, false, false] rfl rfl (by kernel_rfl) (fun _ _ _ h => h) (Or.inl ⟨by rfl, ?_⟩) hHeld ?_ ?_
  rotate_left
  · rintro w' hS
    have y0 := (hS.cell (World.block_lt_of_cell? _ _ m0)).trans m0
    have y1 := (hS.cell (World.block_lt_of_cell? _ _ m1)).trans m1
    have y2 := (hS.cell (World.block_lt_of_cell? _ _ m2)).trans m2
    have y3 := (hS.cell (World.block_lt_of_cell? _ _ m3)).trans m3
    have y4 := (hS.cell (World.block_lt_of_cell? _ _ m4)).trans m4
    have y5 := (hS.cell (World.block_lt_of_cell? _ _ m5)).trans m5
    go_simp
    with_reducible rfl
  rotate_left
  · simp only [Act.put, List.setIfInBounds_toArray, List.set_cons_zero, List.set_cons_succ, i64_w, i32_w]
    rfl
  refine take_ (i := 3) (N := some 23) (v := ?_) (a' := ?_) #[true, true, true, true, true, true, false, true, true, false, false, false, true, true, false, false, false, false, false, false] rfl rfl (by kernel_rfl) (fun _ _ _ h => h) (Or.inl ⟨by rfl, ?_⟩) hHeld ?_ ?_
  rotate_left
  · rintro w' hS
    have y4 := (hS.cell (World.block_lt_of_cell? _ _ m4)).trans m4
    go_simp
    with_reducible rfl
  rotate_left
  · simp only [Act.put, List.setIfInBounds_toArray, List.set_cons_zero, List.set_cons_succ, i64_w, i32_w]
    rfl
  refine take_ (i := 6) (N := some 26) (v := ?_) (a' := ?_) #[true, true, true, true, true, true, true, true, true, false, false, false, true, true, false, false, false, false, false, false] rfl rfl (by kernel_rfl) (fun _ _ _ h => h) (Or.inl ⟨by rfl, ?_⟩) hHeld ?_ ?_
  rotate_left
  · rintro w' hS
    have y1 := (hS.cell (World.block_lt_of_cell? _ _ m1)).trans m1
    go_simp
    with_reducible rfl
  rotate_left
  · simp only [Act.put, List.setIfInBounds_toArray, List.set_cons_zero, List.set_cons_succ, i64_w, i32_w]
    rfl
  refine take_ (i := 9) (N := some 29) (v := ?_) (a' := ?_) #[true, true, true, true, true, true, true, true, true, true, false, false, true, true, false, false, false, false, false, false] rfl rfl (by kernel_rfl) (fun _ _ _ h => h) (Or.inl ⟨by rfl, ?_⟩) hHeld ?_ ?_
  rotate_left
  · rintro w' hS
    have y2 := (hS.cell (World.block_lt_of_cell? _ _ m2)).trans m2
    go_simp
    with_reducible rfl
  rotate_left
  · simp only [Act.put, List.setIfInBounds_toArray, List.set_cons_zero, List.set_cons_succ, i64_w, i32_w]
    rfl
  refine pure_ (i := 10) (N := some 30) (v := ?_) (a' := ?_) #[true, true, true, true, true, true, true, true, true, true, true, false, true, true, false, false, false, false, false, false] rfl rfl (by kernel_rfl) (fun _ _ _ h => h) (Or.inl ⟨by rfl, ?_⟩) ?_ ?_
  rotate_left
  · intro w'
    go_simp
    with_reducible rfl
  rotate_left
  · simp only [Act.put, List.setIfInBounds_toArray, List.set_cons_zero, List.set_cons_succ, i64_w, i32_w]
    rfl
  refine pure_ (i := 11) (N := some 31) (v := ?_) (a' := ?_) #[true, true, true, true, true, true, true, true, true, true, true, true, true, true, false, false, false, false, false, false] rfl rfl (by kernel_rfl) (fun _ _ _ h => h) (Or.inl ⟨by rfl, ?_⟩) ?_ ?_
  rotate_left
  · intro w'
    go_simp
    with_reducible rfl
  rotate_left
  · simp only [Act.put, List.setIfInBounds_toArray, List.set_cons_zero, List.set_cons_succ, i64_w, i32_w]
    rfl
  refine one_ (i := 14) (N := some 34) #[true, true, true, true, true, true, true, true, true, true, true, true, true, true, true, false, false, false, false, false] rfl rfl (by kernel_rfl) (by decide) (fun K hK => ?_)
  refine goes_ Try.func65 (by kernel_rfl) rfl #[.int .u32 pg, .int .u32 1886351212] (by rfl) rfl rfl (by (try simp only [List.map_toArray, List.map_cons, List.map_nil]); first | done | rfl | (go_simp; done) | (go_simp; rfl)) ?_
  refine (hash2_calls _ _ _).mono ?_
  rintro e w34 ⟨rfl, rfl⟩
  refine ⟨_, rfl, ?_⟩
  refine hK.out _ _ hB0.out (fun hHeld => ?_)
  clear hK K
  refine norm_ (a' := ?_) ?_ ?_
  rotate_left
  · show Act.put _ (some 34) _ = _
    simp only [Act.put, List.setIfInBounds_toArray, List.set_cons_zero, List.set_cons_succ, i64_w, i32_w]
    rfl
  refine last_ (i := 15) (N := some 35) #[true, true, true, true, true, true, true, true, true, true, true, true, true, true, true, true, false, false, false, false] rfl rfl (by kernel_rfl) (by decide) (fun K hK => ?_)
  refine goes_ Try.func15 (by kernel_rfl) rfl #[.agg #[.int .i64 ep, .int .i64 k, .int .i64 m, .int .i64 p, .int .i64 d, .slice A l.length c], .agg #[.int .i64 d, .int .i64 n], .int .u32 (pgX pg)] (by rfl) rfl rfl (by (try simp only [List.map_toArray, List.map_cons, List.map_nil]); first | done | rfl | (go_simp; done) | (go_simp; rfl)) ?_
  refine (TC.out _ (Kd.C_below HC2.out hB0.out)).mono ?_
  rintro e w35 ⟨g, rfl, hg, hh, hb⟩
  refine ⟨_, rfl, ?_⟩
  have HB3 := Lib.hid (below_then HB2.out HB2.out.size (below_then hB0.out hB0.out.size hb))
  have HH := Lib.hid hh
  have HG := Lib.hid (Nat.le_trans HB2.out.size (Nat.le_trans hB0.out.size hg))
  clear hb hh hg hB0
  refine hK.out _ _ ?_
  clear hK K
  refine norm_ (a' := ?_) ?_ ?_
  rotate_left
  · show Act.put _ (some 35) _ = _
    simp only [Act.put, List.setIfInBounds_toArray, List.set_cons_zero, List.set_cons_succ, i64_w, i32_w]
    rfl
  refine pure_ (i := 16) (N := some 36) (v := ?_) (a' := ?_) #[true, true, true, true, true, true, true, true, true, true, true, true, true, true, true, true, true, false, false, false] rfl rfl (by kernel_rfl) (fun _ _ _ h => h) (Or.inl ⟨by rfl, ?_⟩) ?_ ?_
  rotate_left
  · intro w'
    go_simp
    with_reducible rfl
  rotate_left
  · simp only [Act.put, List.setIfInBounds_toArray, List.set_cons_zero, List.set_cons_succ, i64_w, i32_w]
    rfl
  refine pure_ (i := 17) (N := some 37) (v := ?_) (a' := ?_) #[true, true, true, true, true, true, true, true, true, true, true, true, true, true, true, true, true, true, false, false] rfl rfl (by kernel_rfl) (fun _ _ _ h => h) (Or.inl ⟨by rfl, ?_⟩) ?_ ?_
  rotate_left
  · intro w'
    go_simp
    with_reducible rfl
  rotate_left
  · simp only [Act.put, List.setIfInBounds_toArray, List.set_cons_zero, List.set_cons_succ, i64_w, i32_w]
    rfl
  refine pure_ (i := 18) (N := some 4) (v := ?_) (a' := ?_) #[true, true, true, true, true, true, true, true, true, true, true, true, true, true, true, true, true, true, true, false] rfl rfl (by kernel_rfl) (fun _ _ _ h => h) (Or.inl ⟨by rfl, ?_⟩) ?_ ?_
  rotate_left
  · intro w'
    go_simp
    with_reducible rfl
  rotate_left
  · simp only [Act.put, List.setIfInBounds_toArray, List.set_cons_zero, List.set_cons_succ, i64_w, i32_w]
    rfl
  refine pure_ (i := 19) (N := some 5) (v := ?_) (a' := ?_) #[true, true, true, true, true, true, true, true, true, true, true, true, true, true, true, true, true, true, true, true] rfl rfl (by kernel_rfl) (fun _ _ _ h => h) (Or.inl ⟨by rfl, ?_⟩) ?_ ?_
  rotate_left
  · intro w'
    go_simp
    with_reducible rfl
  rotate_left
  · simp only [Act.put, List.setIfInBounds_toArray, List.set_cons_zero, List.set_cons_succ, i64_w, i32_w]
    rfl
  refine done_ (by kernel_rfl) ?_
  go_wp2_with fail
  go_ret2
  exact ⟨g, rfl, HG.out, HH.out, HB3.out⟩
end Go.Proofs.Ytnpphmgibgfjoaa.PlU
/- The document's descent: the walk, given what weighed answers. -/
namespace Go.Proofs.Ytnpphmgibgfjoaa.Rds
open Go Go.RowKit Go.Proofs.YtnpphmgibgfjoaaW.PrintWords Go.Proofs.YtnpphmgibgfjoaaW.PrintMore Mem PAll KW MixP MixW StrP StrW AtA Srt Grp Sl Dsc AtB Roo Rep Cho MayP Awk
open CrP hiding Od
theorem key_calls (lv : Nat) (hl : lv = 1 ∨ lv = 2 ∨ lv = 3) (o : Od) (w : World) : Calls Try.prog 44 #[.agg (aggO o), .int .i64 lv] w fun e w' => e = .returned (.int .i64 (keyN lv o)) ∧ Below w.heap.size w w' := by
  refine (mooringref17_key.calls o.f0 o.f1 o.f2 o.f3 o.f4 o.f5 o.f6 o.f7 lv (keyN lv o) w ?_).mono ?_
  · unfold mooringref17_key.f keyN
    rcases hl with rfl | rfl | rfl <;> rfl
  · rintro e w1 ⟨rfl, hb⟩
    exact ⟨rfl, hb⟩
/-- What weighed answers. -/
def Weighs : Prop := ∀ (lv : Nat) (A : Option Addr) (c : Nat) (l : List Od) (w : World), (lv = 1 ∨ lv = 2 ∨ lv = 3) → kO.C w A l.length l → GoodL l →
    Calls Try.prog 47 #[.slice A l.length c, .int .i64 lv] w fun e w' => ∃ v, e = .returned v ∧ kW.R 83 w' w.heap.size (fun _ => True) v (group lv l) ∧ Below w.heap.size w w'
set_option maxHeartbeats 4000000 in
set_option maxRecDepth 100000 in
theorem rdescend_calls (HWE : Weighs) (A : Option Addr) (c : Nat) (l : List Od) (x r : Int) (w : World) (hx : kO.C w A l.length l) (hg : GoodL l) :
    Calls Try.prog 43 #[.slice A l.length c, .int .u32 x, .int .u32 r] w fun e w' => e = .returned (descV (desc x r l)) ∧ Below w.heap.size w w' := by
  have HC := Lib.hid hx
  have HG := Lib.hid hg
  have HW := Lib.hid HWE
  have HB0 := Lib.hid (below_alloc (Below.refl w.heap.size w) (.cells zeroA 40))
  clear hx hg HWE
  go_enter Try.func43, Try.ntmps43
  go_wp2_with fail
  go_loopw [0, 8] (fun l0' i' wr => ∃ (n : Nat) (A' : Option Addr) (c' : Nat) (l' : List Od), l0' = .slice A' l'.length c' ∧ i' = .int .i64 ((n : Int) + 1) ∧ Hid (n ≤ 3) ∧ Hid (lvls x r n l = some l') ∧ Hid (GoodL l') ∧ Hid (kO.C wr A' l'.length l') ∧ Hid (wr.heap[w.heap.size]? = some (.cells (aggO ⟨0, false, false, 0, 0, 0, 0, 0⟩) 40 (0, 0))) ∧ Hid (Below w.heap.size w wr)) (fun _ i' _ => (4 - intOf i').toNat)
  case atStart => exact ⟨0, A, c, l, rfl, rfl, Lib.hid (by omega), Lib.hid rfl, HG, Lib.hid (Kd.C_alloc HC.out _), Lib.hid (blk_new _ _), HB0⟩
  case round =>
    obtain ⟨n, A', c', l', rfl, rfl, HN, HLV, HG', HC', HRB, HB⟩ := hrel
    clear HC HG HB0
    have hn := HN.out
    obtain ⟨wo, hwo⟩ : ∃ wo, wo = wr := ⟨_, rfl⟩
    rw [← hwo] at HC' HRB HB ⊢
    clear hwo
    by_cases h : n < 3
    · have hlt : decide ((n : Int) + 1 ≤ 3) = true := decide_eq_true (by omega)
      have hlv : n + 1 = 1 ∨ n + 1 = 2 ∨ n + 1 = 3 := by omega
      have HLV3 := Lib.hid hlv
      have hn3 : Hid (n < 3) := Lib.hid h
      have ku : IntKind.u32.wrap ((n : Int) + 1) = (n : Int) + 1 := by
        have h1 : (n : Int) + 1 = 1 ∨ (n : Int) + 1 = 2 ∨ (n : Int) + 1 = 3 := by omega
        rcases h1 with h | h | h <;> rw [h] <;> rfl
      have T := HW.out (n + 1) A' c' l' wo hlv HC'.out HG'.out
      rw [show (((n + 1 : Nat)) : Int) = (n : Int) + 1 from by omega] at T
      have HT := Lib.hid T
      have HLEN := Lib.hid HG'.out.len
      clear T hlv h
      go_wp2_with fail
      refine HT.out.mono ?_
      rintro e w2 ⟨v, rfl, hR, hb⟩
      obtain ⟨GA, gc, rfl⟩ := Kd.R_slice hR
      have HGC := Lib.hid (Kd.R_reads' hR).2.2
      have HB2 := Lib.hid (below_then HB.out HB.out.size hb)
      have HC2 := Lib.hid (Kd.C_below HC'.out hb)
      have HRB2 := Lib.hid (blk_below HRB.out hb)
      clear hR hb HT HC' HRB HB
      obtain ⟨G, hG⟩ : ∃ G, G = group (n + 1) l' := ⟨_, rfl⟩
      rw [← hG] at HGC ⊢
      have HGE := Lib.hid hG
      clear hG
      go_wp2_with fail
      refine (rhash2_calls _ _ _).mono ?_
      rintro e w3 ⟨rfl, rfl⟩
      go_wp2_with fail
      refine (rchoose_calls GA gc G _ _ _ HGC.out).mono ?_
      rintro e w3 ⟨rfl, hb⟩
      have HB3 := Lib.hid (below_then HB2.out HB2.out.size hb)
      have HC3 := Lib.hid (Kd.C_below HC2.out hb)
      have HGC3 := Lib.hid (Kd.C_below HGC.out hb)
      have HRB3 := Lib.hid (blk_below HRB2.out hb)
      clear hb HB2 HC2 HGC HRB2
      obtain ⟨pv, hpv⟩ : ∃ pv, pv = pick (h2I x ((n : Int) + 1)) r G := ⟨_, rfl⟩
      have HBE := Lib.hid (pick_best (h2I x ((n : Int) + 1)) r G)
      rw [← hpv] at HBE ⊢
      have HPV := Lib.hid hpv
      clear hpv
      by_cases hneg : pv < 0
      · have hd : decide (pv < 0) = true := decide_eq_true hneg
        have HNE := Lib.hid hneg
        obtain ⟨y0, y1, y2, y3, y4, y5, y6, y7⟩ := blkO (o := ⟨0, false, false, 0, 0, 0, 0, 0⟩) HRB3.out
        have f0 := blk_frozen HRB3.out 0
        have f1 := blk_frozen HRB3.out 1
        have f2 := blk_frozen HRB3.out 2
        have f3 := blk_frozen HRB3.out 3
        have f4 := blk_frozen HRB3.out 4
        have f5 := blk_frozen HRB3.out 5
        have f6 := blk_frozen HRB3.out 6
        have f7 := blk_frozen HRB3.out 7
        clear hneg
        have HF := Lib.hid (put8_blk HRB3.out ⟨0, false, false, 0, 0, 0, 0, 0⟩)
        have HBF := Lib.hid (put8_below HB3.out (Nat.le_refl _) ⟨0, false, false, 0, 0, 0, 0, 0⟩)
        obtain ⟨wf, hwf⟩ : ∃ wf, wf = put8 w3 w.heap.size ⟨0, false, false, 0, 0, 0, 0, 0⟩ := ⟨_, rfl⟩
        rw [← hwf] at HF HBF
        simp only [put8] at hwf
        go_wp2_with fail
        rw [← hwf]
        clear hwf
        clear y0 y1 y2 y3 y4 y5 y6 y7 f0 f1 f2 f3 f4 f5 f6 f7
        refine bodyPost_ret (results_ct rfl _ _ w.heap.size 40 (aggO ⟨0, false, false, 0, 0, 0, 0, 0⟩) (0, 0) _ rfl HF.out Try.underlying40 rfl (by kernel_rfl)) rfl ?_
        refine ⟨?_, HBF.out⟩
        rw [desc_lvls, lvls_none HLV.out (by unfold lvl; rw [← HGE.out, if_pos]; rw [show (((n + 1 : Nat)) : Int) = (n : Int) + 1 from by omega, ← HPV.out]; exact HNE.out) hn3.out]
        rfl
      · have hd : decide (pv < 0) = false := decide_eq_false hneg
        have HNE := Lib.hid hneg
        obtain ⟨i, hi⟩ := Int.eq_ofNat_of_zero_le (show 0 ≤ pv by omega)
        subst hi
        have hig : i < G.length := by have := best_range HBE.out; omega
        obtain ⟨vv, hvv⟩ : ∃ vv, G[i]? = some vv := ⟨G[i], List.getElem?_eq_getElem hig⟩
        have HVV := Lib.hid hvv
        have HIG := Lib.hid hig
        have HB4 := Lib.hid (below_alloc HB3.out (.cells #[] 40))
        have HC4 := Lib.hid (Kd.C_alloc HC3.out (.cells #[] 40))
        have HGC4 := Lib.hid (Kd.C_alloc HGC3.out (.cells #[] 40))
        have HRB4 := Lib.hid (blk_below HRB3.out (below_alloc (Below.refl _ _) (.cells #[] 40)))
        have HO4 : Hid (kO.R 40 (w3.alloc (.cells #[] 40)) w3.heap.size (fun _ => True) (.slice (some ⟨w3.heap.size, 0, none⟩) 0 0) []) := Lib.hid ⟨fun _ _ => trivial, OwnRow.lit w3 w3.heap.size (ps := []) (inner := []) (Reps.none _ _) (Nat.le_refl _) (Nat.zero_le _)⟩
        have HBB4 := Lib.hid (below_alloc (Below.refl w3.heap.size w3) (.cells #[] 40))
        clear hneg hvv hig
        go_wp2_with fail
        go_loopw [11, 12] (fun v11 i' wr => ∃ j : Nat, i' = .int .i64 j ∧ Hid (j ≤ l'.length) ∧ Hid (kO.R 40 wr w3.heap.size (fun _ => True) v11 ((l'.take j).filter fun o => decide (keyN (n + 1) o = vv.id))) ∧ Hid (Below w3.heap.size w3 wr)) (fun _ i' _ => (l'.length - intOf i').toNat)
        case atStart => exact ⟨0, rfl, Lib.hid (Nat.zero_le _), HO4, HBB4⟩
        case round =>
          obtain ⟨j, rfl, HJ, HO, HBJ⟩ := hrel
          clear HO4 HBB4
          have hj := HJ.out
          have hlen := HLEN.out
          by_cases h : j < l'.length
          · have hlt2 : decide (j < l'.length) = true := decide_eq_true h
            have j0 : (0 : Int) ≤ j := by omega
            have j1 : (j : Int) < l'.length := by omega
            obtain ⟨ad, o, ho, hA, a0, a1, a2, a3, a4, a5, a6, a7⟩ := at_O (Kd.C_below HC3.out HBJ.out) j h
            obtain ⟨gd, u, hu, hGA, g0, _⟩ := at_W (Kd.C_below HGC3.out HBJ.out) i HIG.out
            obtain rfl : vv = u := Option.some.inj (HVV.out.symm.trans hu)
            subst hA hGA
            have HQ := Lib.hid ho
            have i0 : (0 : Int) ≤ i := by omega
            have i1 : (i : Int) < G.length := by have := HIG.out; omega
            have hli : decide (i < G.length) = true := decide_eq_true HIG.out
            obtain ⟨ko, hko⟩ : ∃ ko, ko = keyN (n + 1) o := ⟨_, rfl⟩
            have T : Hid (∀ dd os, Calls Try.prog 44 #[.agg (aggO o), .int .i64 ((n : Int) + 1)] (Sort.grow (redrawn wr dd) os) fun e w' => e = .returned (.int .i64 ko) ∧ Below (Sort.grow (redrawn wr dd) os).heap.size (Sort.grow (redrawn wr dd) os) w') := Lib.hid (fun dd os => by rw [hko, ← show (((n + 1 : Nat)) : Int) = (n : Int) + 1 from by omega]; exact key_calls (n + 1) HLV3.out o _)
            have HKO := Lib.hid hko
            have HTK : Hid (l'.take (j + 1) = l'.take j ++ [o]) := Lib.hid (by rw [List.take_succ_eq_append_getElem h, (List.getElem?_eq_some_iff.1 ho).2])
            have z0 := cell_regrown a0
            have z1 := cell_regrown a1
            have z2 := cell_regrown a2
            have z3 := cell_regrown a3
            have z4 := cell_regrown a4
            have z5 := cell_regrown a5
            have z6 := cell_regrown a6
            have z7 := cell_regrown a7
            have zg := cell_regrown g0
            clear ho hu hko a0 a1 a2 a3 a4 a5 a6 a7 g0 h
            cases hk : (ko == vv.id) with
            | false =>
              have HF : Hid (((l'.take (j + 1)).filter fun o => decide (keyN (n + 1) o = vv.id)) = ((l'.take j).filter fun o => decide (keyN (n + 1) o = vv.id))) := Lib.hid (by
                rw [HTK.out, List.filter_append]
                have : decide (keyN (n + 1) o = vv.id) = false := by rw [← HKO.out]; exact decide_eq_false (beq_eq_false_iff_ne.1 hk)
                simp [this])
              go_wp2_with fail
              refine wp_region_quiet_below (by kernel_rfl) (by kernel_rfl) ?_
              repeat (go_big_quiet_step ((go_at_call 44; exact Calls.regrown_of (T.out _ _))))
              refine wpQuiet_nil ?_
              intro _ hw'
              obtain ⟨⟨dq, osq⟩, hw''⟩ := hw'
              subst hw''
              have HBJ5 := Lib.hid (below_then HBJ.out HBJ.out.size (below_regrown wr dq osq))
              have HO5 := Lib.hid (Kd.R_below HO.out (below_regrown wr dq osq))
              go_wp2_with fail
              go_roundw
              case rel => exact ⟨j + 1, by go_num, Lib.hid (by omega), Lib.hid (by rw [HF.out]; exact HO5.out), HBJ5⟩
              case measure => simp only [intOf]; omega
            | true =>
              have HF : Hid (((l'.take (j + 1)).filter fun o => decide (keyN (n + 1) o = vv.id)) = ((l'.take j).filter fun o => decide (keyN (n + 1) o = vv.id)) ++ [o]) := Lib.hid (by
                rw [HTK.out, List.filter_append]
                have : decide (keyN (n + 1) o = vv.id) = true := by rw [← HKO.out]; exact decide_eq_true (beq_iff_eq.1 hk)
                simp [this])
              have HLL : Hid (((l'.take j).filter fun o => decide (keyN (n + 1) o = vv.id)).length ≤ 64) := Lib.hid (Nat.le_trans (List.length_filter_le _ _) (by rw [List.length_take]; omega))
              go_wp2_with fail
              refine wp_region_quiet_below (by kernel_rfl) (by kernel_rfl) ?_
              repeat (go_big_quiet_step ((go_at_call 44; exact Calls.regrown_of (T.out _ _))))
              refine wpQuiet_nil ?_
              intro _ hw'
              obtain ⟨⟨dq, osq⟩, hw''⟩ := hw'
              subst hw''
              have HBJ5 := Lib.hid (below_then HBJ.out HBJ.out.size (below_regrown wr dq osq))
              have HO5 := Lib.hid (Kd.R_below HO.out (below_regrown wr dq osq))
              have b0 := z0 dq osq
              have b1 := z1 dq osq
              have b2 := z2 dq osq
              have b3 := z3 dq osq
              have b4 := z4 dq osq
              have b5 := z5 dq osq
              have b6 := z6 dq osq
              have b7 := z7 dq osq
              obtain ⟨w5, hw5⟩ : ∃ w5, w5 = Sort.grow (redrawn wr dq) osq := ⟨_, rfl⟩
              rw [← hw5] at HBJ5 HO5 b0 b1 b2 b3 b4 b5 b6 b7 ⊢
              clear hw5 z0 z1 z2 z3 z4 z5 z6 z7 zg T HO HBJ
              go_wp2_with (first | (at_builtin; go_must (refine Kd.R_append kO (w0 := w3) w3.heap.size rfl _ _ 24 40 (.agg #[.int .i64 0, .bool false, .bool false, .int .i64 0, .int .i64 0, .int .i64 0, .int .i64 0, .int .i64 0]) 56 rfl Try.underlying24 infoO rfl (by decide) (by decide) _ _ o [.int .i64 o.f0, .bool o.f1, .bool o.f2, .int .i64 o.f3, .int .i64 o.f4, .int .i64 o.f5, .int .i64 o.f6, .int .i64 o.f7] (fun _ => True) (fun _ => False) rfl rfl (k40_mkM _ _ _ o) (fun _ hk => hk.elim) (fun _ _ => trivial) (by exact HO5.out) (by exact HBJ5.out) (by exact HBJ5.out.size) ?hl ?_; (case hl => exact Nat.le_trans (Nat.mul_le_mul_right 56 (Nat.succ_le_succ HLL.out)) (by decide)); intro v2 w6 ho hb hg hg2; have HO6 := Lib.hid ho; have HBJ6 := Lib.hid hb; clear ho hb hg hg2 HO5 HBJ5 b0 b1 b2 b3 b4 b5 b6 b7)))
              go_roundw
              case rel => exact ⟨j + 1, by go_num, Lib.hid (by omega), Lib.hid (by rw [HF.out]; exact HO6.out), HBJ6⟩
              case measure => simp only [intOf]; omega
          · obtain rfl : j = l'.length := by omega
            have hlt2 : decide (l'.length < l'.length) = false := decide_eq_false (by omega)
            rw [List.take_length] at HO
            obtain ⟨A6, c6, hv6⟩ := Kd.R_slice HO.out
            subst hv6
            have HC6 := Lib.hid (Kd.R_reads' HO.out).2.2
            have HRB6 := Lib.hid (blk_below HRB3.out HBJ.out)
            have HB6 := Lib.hid (below_then HB3.out HB3.out.size HBJ.out)
            have HLN : Hid (lvls x r (n + 1) l = some (l'.filter fun o => decide (keyN (n + 1) o = vv.id))) := Lib.hid (by
              show (lvls x r n l).bind (lvl x r ((n + 1 : Nat))) = _
              rw [HLV.out]
              show lvl x r (n + 1) l' = _
              unfold lvl
              rw [← HGE.out, show (((n + 1 : Nat)) : Int) = (n : Int) + 1 from by omega, ← HPV.out, if_neg (by omega), show ((i : Nat) : Int).toNat = i from rfl, List.getD_eq_getElem?_getD, HVV.out]
              rfl)
            clear HO HBJ HB3 HC3 HGC3 HRB3 HB4 HC4 HGC4 HRB4
            go_wp2_with fail
            go_roundw
            case rel => exact ⟨n + 1, A6, c6, l'.filter fun o => decide (keyN (n + 1) o = vv.id), rfl, by go_num, Lib.hid (by have := hn3.out; omega), HLN, Lib.hid (HG'.out.filter _), HC6, HRB6, HB6⟩
            case measure => have := hn3.out; simp only [intOf]; omega
    · obtain rfl : n = 3 := by omega
      have hne := lvl_ne (lv := 3) (l := ((lvls x r 2 l).getD [])) (x := x) (r := r) (l' := l') (by
        have e := HLV.out
        cases h2 : lvls x r 2 l with
        | none => rw [show lvls x r 3 l = (lvls x r 2 l).bind (lvl x r 3) from rfl, h2] at e; cases e
        | some m => rw [show lvls x r 3 l = (lvls x r 2 l).bind (lvl x r 3) from rfl, h2] at e; exact e)
      have hpos : 0 < l'.length := List.length_pos_iff.2 hne
      have hlt : decide (((3 : Nat) : Int) + 1 ≤ 3) = false := decide_eq_false (by omega)
      have hlt2 : decide (0 < l'.length) = true := decide_eq_true hpos
      obtain ⟨ad, o, ho, rfl, a0, a1, a2, a3, a4, a5, a6, a7⟩ := at_O HC'.out 0 hpos
      have had : ad.add (0 * 8) = ad := by cases ad; rfl
      rw [had] at a0 a1 a2 a3 a4 a5 a6 a7
      have HO := Lib.hid ho
      obtain ⟨y0, y1, y2, y3, y4, y5, y6, y7⟩ := blkO (o := ⟨0, false, false, 0, 0, 0, 0, 0⟩) HRB.out
      have f0 := blk_frozen HRB.out 0
      have f1 := blk_frozen HRB.out 1
      have f2 := blk_frozen HRB.out 2
      have f3 := blk_frozen HRB.out 3
      have f4 := blk_frozen HRB.out 4
      have f5 := blk_frozen HRB.out 5
      have f6 := blk_frozen HRB.out 6
      have f7 := blk_frozen HRB.out 7
      have HF := Lib.hid (put8_blk HRB.out o)
      have HBF := Lib.hid (put8_below HB.out (Nat.le_refl _) o)
      obtain ⟨wf, hwf⟩ : ∃ wf, wf = put8 wo w.heap.size o := ⟨_, rfl⟩
      rw [← hwf] at HF HBF
      simp only [put8] at hwf
      have HNN := Lib.hid hne
      clear hne ho h
      go_wp2_with fail
      rw [← hwf]
      clear hwf
      refine bodyPost_ret (results_ct rfl _ _ w.heap.size 40 (aggO o) (0, 0) _ rfl HF.out Try.underlying40 rfl (by kernel_rfl)) rfl ?_
      refine ⟨?_, HBF.out⟩
      rw [desc_lvls, HLV.out]
      show _ = Ending.returned (descV l'.head?)
      rw [List.head?_eq_getElem?, HO.out]
      rfl
theorem rDescend_calls (HWE : Weighs) (ep k m p d : Int) (A : Option Addr) (c : Nat) (l : List Od) (x r : Int) (w : World) (hx : kO.C w A l.length l) (hcap : l.length ≤ c) :
    Calls Try.prog 21 #[.agg (boxM ep k m p d A c l), .int .u32 x, .int .u32 r] w fun e w' => e = .returned (.int .i64 (descI (mayB ep k m p d l) x r l)) ∧ Below w.heap.size w w' := by
  have HC1 := Lib.hid (Kd.C_alloc hx (.cells (boxM ep k m p d A c l) 26))
  have HB1 := Lib.hid (below_alloc (Below.refl w.heap.size w) (.cells (boxM ep k m p d A c l) 26))
  have HM1 : Hid ((w.alloc (.cells (boxM ep k m p d A c l) 26)).heap[w.heap.size]? = some (.cells (boxM ep k m p d A c l) 26 (0, 0))) := Lib.hid (blk_new _ _)
  have T := Lib.hid (may_calls ep k m p d A c l (w.alloc (.cells (boxM ep k m p d A c l) 26)) HC1.out hcap)
  obtain ⟨mb, hmb⟩ : ∃ mb, mb = mayB ep k m p d l := ⟨_, rfl⟩
  rw [← hmb] at T ⊢
  have HGL : Hid (mb = true → GoodL l) := Lib.hid (fun h => may_goodL (hmb.symm.trans h))
  have HWX := Lib.hid HWE
  clear hx hcap hmb HWE
  unfold boxM at *
  go_enter Try.func21, Try.ntmps21
  go_wp2_with fail
  refine T.out.mono ?_
  rintro e w1 ⟨rfl, hb⟩
  have HC2 := Lib.hid (Kd.C_below HC1.out hb)
  have HB2 := Lib.hid (below_then HB1.out HB1.out.size hb)
  have HM2 := Lib.hid (blk_below HM1.out hb)
  clear hb T HC1 HB1 HM1
  cases mb with
  | false =>
    go_wp2_with fail
    go_ret
    exact ⟨rfl, HB2.out⟩
  | true =>
    have c5 := blk_cell HM2.out 5
    have T := Lib.hid (rdescend_calls HWX.out A c l x r w1 HC2.out (HGL.out rfl))
    have HDD : Hid (descI true x r l = match desc x r l with | some o => o.f0 | none => -1) := Lib.hid rfl
    go_wp2_with fail
    refine T.out.mono ?_
    rintro e w2 ⟨rfl, hb⟩
    have HB3 := Lib.hid (below_then HB2.out HB2.out.size hb)
    clear hb T
    cases hd : desc x r l with
    | none =>
      rw [hd] at HDD
      unfold descV zeroA
      clear hd
      have HB4 := Lib.hid (below_alloc HB3.out (.cells #[.int .i64 0, .bool false, .bool false, .int .i64 0, .int .i64 0, .int .i64 0, .int .i64 0, .int .i64 0] 40))
      go_wp2_with fail
      go_ret
      exact ⟨by rw [HDD.out]; rfl, HB4.out⟩
    | some o =>
      rw [hd] at HDD
      unfold descV
      clear hd
      have HB4 := Lib.hid (below_alloc HB3.out (.cells (aggO o) 40))
      go_wp2_with fail
      go_ret
      exact ⟨by rw [HDD.out]; rfl, HB4.out⟩
theorem domain_calls (d : Int) (w : World) : Calls Try.prog 45 #[.int .i64 d] w fun e w' => e = .returned (.int .i64 (domL d : Nat)) ∧ Below w.heap.size w w' := by
  have HB := Lib.hid (Below.refl w.heap.size w)
  unfold domL
  by_cases h0 : d = 0
  · subst h0
    go_enter Try.func45, Try.ntmps45
    go_wp2_with fail
    go_ret
    exact ⟨rfl, HB.out⟩
  · by_cases h1 : d = 1
    · subst h1
      go_enter Try.func45, Try.ntmps45
      go_wp2_with fail
      go_ret
      exact ⟨rfl, HB.out⟩
    · have b0 : (d == 0) = false := beq_eq_false_iff_ne.2 h0
      have b1 : (d == 1) = false := beq_eq_false_iff_ne.2 h1
      rw [if_neg h0, if_neg h1]
      clear h0 h1
      go_enter Try.func45, Try.ntmps45
      go_wp2_with fail
      go_ret
      exact ⟨rfl, HB.out⟩
set_option maxHeartbeats 4000000 in
set_option maxRecDepth 100000 in
theorem rRoom_calls (HWE : Weighs) (ep k m p d : Int) (A : Option Addr) (c : Nat) (l : List Od) (dm : Int) (w : World) (hx : kO.C w A l.length l) (hcap : l.length ≤ c) :
    Calls Try.prog 19 #[.agg (boxM ep k m p d A c l), .int .i64 dm] w fun e w' => e = .returned (.int .i64 (roomI (mayB ep k m p d l) dm l)) ∧ Below w.heap.size w w' := by
  have HC1 := Lib.hid (Kd.C_alloc hx (.cells (boxM ep k m p d A c l) 26))
  have HB1 := Lib.hid (below_alloc (Below.refl w.heap.size w) (.cells (boxM ep k m p d A c l) 26))
  have HM1 : Hid ((w.alloc (.cells (boxM ep k m p d A c l) 26)).heap[w.heap.size]? = some (.cells (boxM ep k m p d A c l) 26 (0, 0))) := Lib.hid (blk_new _ _)
  have T := Lib.hid (may_calls ep k m p d A c l (w.alloc (.cells (boxM ep k m p d A c l) 26)) HC1.out hcap)
  have HW := Lib.hid HWE
  obtain ⟨mb, hmb⟩ : ∃ mb, mb = mayB ep k m p d l := ⟨_, rfl⟩
  rw [← hmb] at T ⊢
  have HGL : Hid (mb = true → GoodL l) := Lib.hid (fun h => may_goodL (hmb.symm.trans h))
  clear hx hcap hmb HWE
  unfold boxM at *
  cases mb with
  | false =>
    go_enter Try.func19, Try.ntmps19
    go_wp2_with fail
    refine T.out.mono ?_
    rintro e w1 ⟨rfl, hb⟩
    have HB2 := Lib.hid (below_then HB1.out HB1.out.size hb)
    clear hb
    go_wp2_with fail
    go_ret
    exact ⟨rfl, HB2.out⟩
  | true =>
    by_cases h0 : dm < 0
    · have hd : decide (dm < 0) = true := decide_eq_true h0
      have HR : Hid (roomI true dm l = 0) := Lib.hid (by unfold roomI domB; rw [beq_eq_false_iff_ne.2 (show dm ≠ 0 by omega), beq_eq_false_iff_ne.2 (show dm ≠ 1 by omega), beq_eq_false_iff_ne.2 (show dm ≠ 2 by omega)]; rfl)
      rw [HR.out]
      clear h0
      go_enter Try.func19, Try.ntmps19
      go_wp2_with fail
      refine T.out.mono ?_
      rintro e w1 ⟨rfl, hb⟩
      have HB2 := Lib.hid (below_then HB1.out HB1.out.size hb)
      clear hb
      go_wp2_with fail
      go_ret
      exact ⟨rfl, HB2.out⟩
    · have hd : decide (dm < 0) = false := decide_eq_false h0
      by_cases h3 : 3 ≤ dm
      · have hd3 : decide (3 ≤ dm) = true := decide_eq_true h3
        have HR : Hid (roomI true dm l = 0) := Lib.hid (by unfold roomI domB; rw [beq_eq_false_iff_ne.2 (show dm ≠ 0 by omega), beq_eq_false_iff_ne.2 (show dm ≠ 1 by omega), beq_eq_false_iff_ne.2 (show dm ≠ 2 by omega)]; rfl)
        rw [HR.out]
        clear h0 h3
        go_enter Try.func19, Try.ntmps19
        go_wp2_with fail
        refine T.out.mono ?_
        rintro e w1 ⟨rfl, hb⟩
        have HB2 := Lib.hid (below_then HB1.out HB1.out.size hb)
        clear hb
        go_wp2_with fail
        go_ret
        exact ⟨rfl, HB2.out⟩
      · have hd3 : decide (3 ≤ dm) = false := decide_eq_false h3
        have HR : Hid (roomI true dm l = (room (domL dm) l : Nat)) := Lib.hid (by
          unfold roomI domB
          have h012 : dm = 0 ∨ dm = 1 ∨ dm = 2 := by omega
          rcases h012 with rfl | rfl | rfl <;> rfl)
        rw [HR.out]
        clear h0 h3
        go_enter Try.func19, Try.ntmps19
        go_wp2_with fail
        refine T.out.mono ?_
        rintro e w1 ⟨rfl, hb⟩
        have HB2 := Lib.hid (below_then HB1.out HB1.out.size hb)
        have HC2 := Lib.hid (Kd.C_below HC1.out hb)
        have HM2 := Lib.hid (blk_below HM1.out hb)
        clear hb T HC1 HB1 HM1
        have z5 := cell_regrown (blk_cell HM2.out 5)
        have TD : Hid (∀ dd os, Calls Try.prog 45 #[.int .i64 dm] (Sort.grow (redrawn w1 dd) os) fun e w' => e = .returned (.int .i64 (domL dm : Nat)) ∧ Below (Sort.grow (redrawn w1 dd) os).heap.size (Sort.grow (redrawn w1 dd) os) w') := Lib.hid (fun dd os => domain_calls dm _)
        go_wp2_with fail
        refine QT.wp_region_tail 4 (by kernel_rfl) (by kernel_rfl) ?_
        simp only [List.take_succ_cons, List.take_zero, List.drop_succ_cons, List.drop_zero]
        repeat (go_big_quiet_step ((go_at_call 45; exact Calls.regrown_of (TD.out _ _))))
        refine wpQuiet_nil ?_
        intro _ hw'
        obtain ⟨⟨dq, osq⟩, hw''⟩ := hw'
        subst hw''
        have HB3 := Lib.hid (below_then HB2.out HB2.out.size (below_regrown w1 dq osq))
        have HC3 := Lib.hid (Kd.C_below HC2.out (below_regrown w1 dq osq))
        obtain ⟨w2, hw2⟩ : ∃ w2, w2 = Sort.grow (redrawn w1 dq) osq := ⟨_, rfl⟩
        rw [← hw2] at HB3 HC3 ⊢
        clear hw2 z5 TD HB2 HC2 HM2
        have T := Lib.hid (HW.out (domL dm) A c l w2 (domL_any dm) HC3.out (HGL.out trivial))
        go_wp2_with fail
        refine T.out.mono ?_
        rintro e w3 ⟨v, rfl, hR, hb⟩
        obtain ⟨GA, gc, rfl⟩ := Kd.R_slice hR
        have HGC := Lib.hid (Kd.R_reads' hR).2.2
        have HB4 := Lib.hid (below_then HB3.out HB3.out.size hb)
        obtain ⟨G, hG⟩ : ∃ G, G = group (domL dm) l := ⟨_, rfl⟩
        rw [← hG] at HGC ⊢
        have HE : Hid (room (domL dm) l = (G.filter fun u => decide (0 < u.wt)).length) := Lib.hid (by rw [hG]; rfl)
        have hm : G.length ≤ 9223372036854775807 := HGC.out.2.1
        have HB5 := Lib.hid (Below.refl w3.heap.size w3)
        clear hG hR hb T HC3 HB3
        go_wp2_with fail
        go_loopw [5, 7] (fun c' i' wr => ∃ (i n : Nat), c' = .int .i64 n ∧ i' = .int .i64 i ∧ Hid (i ≤ G.length) ∧ Hid (n = ((G.take i).filter fun u => decide (0 < u.wt)).length ∧ n ≤ i) ∧ Hid (Below w3.heap.size w3 wr)) (fun _ i' _ => (G.length - intOf i').toNat)
        case atStart => exact ⟨0, 0, rfl, rfl, Lib.hid (Nat.zero_le _), Lib.hid ⟨rfl, Nat.le_refl _⟩, HB5⟩
        case round =>
          obtain ⟨i, n, rfl, rfl, HI, HN, HB⟩ := hrel
          clear HB5
          have hi := HI.out
          have hni := HN.out.2
          by_cases h : i < G.length
          · have hlt : decide (i < G.length) = true := decide_eq_true h
            have i0 : (0 : Int) ≤ i := by omega
            obtain ⟨ad, u, hu, rfl, a0, a1⟩ := at_W (Kd.C_below HGC.out HB.out) i h
            have HCS := Lib.hid (cnt_succ hu)
            have kw : IntKind.i64.wrap ((n : Int) + 1) = (n : Int) + 1 := IntWalk.i64_in _ (by omega)
            clear hu
            by_cases hw : 0 < u.wt
            · have HWT := Lib.hid hw
              have hd2 : decide (0 < u.wt) = true := decide_eq_true hw
              clear hw
              go_wp2_with fail
              go_roundw
              case rel => exact ⟨i + 1, n + 1, by go_num, by go_num, Lib.hid (by omega), Lib.hid ⟨by rw [HCS.out, if_pos HWT.out, HN.out.1], by omega⟩, HB⟩
              case measure => simp only [intOf]; omega
            · have HWT := Lib.hid hw
              have hd2 : decide (0 < u.wt) = false := decide_eq_false hw
              clear hw
              go_wp2_with fail
              go_roundw
              case rel => exact ⟨i + 1, n, rfl, by go_num, Lib.hid (by omega), Lib.hid ⟨by rw [HCS.out, if_neg HWT.out, HN.out.1]; rfl, by omega⟩, HB⟩
              case measure => simp only [intOf]; omega
          · obtain rfl : i = G.length := by omega
            have hlt : decide (G.length < G.length) = false := decide_eq_false (by omega)
            go_wp2_with fail
            go_ret
            have hnn := HN.out.1
            rw [List.take_length] at hnn
            refine ⟨?_, below_then HB4.out HB4.out.size HB.out⟩
            have e : ((room (domL dm) l : Nat) : Int) = (n : Int) := by rw [HE.out, hnn]
            show _ = Ending.returned (.int .i64 ((room (domL dm) l : Nat) : Int))
            rw [e]
            rfl
end Go.Proofs.Ytnpphmgibgfjoaa.Rds
/- One number after another, as the document finds it: plain lists. -/
namespace Go.Proofs.Ytnpphmgibgfjoaa.WghP
open Go.RowKit Go.Proofs.YtnpphmgibgfjoaaW.PrintWords KW MixP MixW StrP PAll CrP
/-- Before place a all numbers are less than k. -/
def Less (g : List Wd) (k : Int) (a : Nat) : Prop := ∀ j u, j < a → g[j]? = some u → u.id < k
theorem Less.tail {u : Wd} {r : List Wd} {k : Int} {a : Nat} (h : Less (u :: r) k (a + 1)) : u.id < k ∧ Less r k a :=
  ⟨h 0 u (Nat.succ_pos _) rfl, fun j v hj hv => h (j + 1) v (by omega) (by simpa using hv)⟩
theorem ins_hit {k w : Int} : ∀ {g : List Wd} {a : Nat} {u : Wd}, Less g k a → g[a]? = some u → u.id = k → ins k w g = g.set a ⟨u.id, u.wt + w⟩
  | [], _, _, _, h, _ => by simp at h
  | v :: r, 0, u, _, h, e => by
    obtain rfl : v = u := by simpa using h
    simp only [ins]
    rw [if_neg (by omega), if_pos e]
    rfl
  | v :: r, a + 1, u, hl, h, e => by
    obtain ⟨h1, h2⟩ := hl.tail
    simp only [ins]
    rw [if_neg (by omega), if_neg (by omega), ins_hit h2 (by simpa using h) e]
    rfl
theorem ins_new {k w : Int} : ∀ {g : List Wd} {a : Nat}, Less g k a → a ≤ g.length → (∀ u, g[a]? = some u → k < u.id) → ins k w g = g.take a ++ ⟨k, w⟩ :: g.drop a
  | [], a, _, h, _ => by
    obtain rfl : a = 0 := by simpa using h
    rfl
  | v :: r, 0, _, _, hn => by
    have := hn v rfl
    simp only [ins]
    rw [if_pos this]
    rfl
  | v :: r, a + 1, hl, h, hn => by
    obtain ⟨h1, h2⟩ := hl.tail
    simp only [ins]
    rw [if_neg (by omega), if_neg (by omega), ins_new h2 (by simpa using h) (fun u hu => hn u (by simpa using hu))]
    rfl
/-- The row in which the number has its place: it was there, or it is put there with no weight. -/
structure Put (g g1 : List Wd) (k : Int) (a : Nat) (wt : Int) : Prop where
  at_ : g1[a]? = some ⟨k, wt⟩
  ins_ : ∀ w, ins k w g = g1.set a ⟨k, wt + w⟩
theorem Put.hit {g : List Wd} {k : Int} {a : Nat} {u : Wd} (hl : Less g k a) (hu : g[a]? = some u) (e : u.id = k) : Put g g k a u.wt :=
  ⟨by rw [hu, ← e], fun w => by rw [ins_hit hl hu e, e]⟩
theorem Put.new {g : List Wd} {k : Int} {a : Nat} (hl : Less g k a) (ha : a ≤ g.length) (hn : ∀ u, g[a]? = some u → k < u.id) : Put g (g.take a ++ [⟨k, 0⟩] ++ g.drop a) k a 0 := by
  have ht : (g.take a).length = a := by rw [List.length_take]; omega
  refine ⟨?_, fun w => ?_⟩
  · rw [List.append_assoc, List.getElem?_append_right (by omega), ht, Nat.sub_self]
    rfl
  · rw [ins_new hl ha hn, List.append_assoc, List.set_append_right _ _ (by omega), ht, Nat.sub_self, Int.zero_add]
    rfl
theorem Put.same {g g1 : List Wd} {k : Int} {a : Nat} {wt : Int} (h : Put g g1 k a wt) : ins k 0 g = g1 := by
  rw [h.ins_, Int.add_zero]
  apply List.ext_getElem?
  intro j
  rw [List.getElem?_set]
  by_cases e : a = j
  · subst e
    rw [if_pos rfl, h.at_, if_pos (List.getElem?_eq_some_iff.1 h.at_).1]
  · rw [if_neg e]
theorem ins_len (k w : Int) : ∀ g : List Wd, (ins k w g).length ≤ g.length + 1
  | [] => Nat.le_refl _
  | u :: r => by
    simp only [ins]
    split
    · simp
    · split
      · simp
      · have := ins_len k w r
        simp only [List.length_cons]
        omega
theorem groupF_len (lv : Nat) : ∀ (l : List Od) (g : List Wd), (groupF lv g l).length ≤ g.length + l.length
  | [], g => by simp [groupF]
  | o :: r, g => by
    have h1 := groupF_len lv r (ins (keyN lv o) (wOf o) g)
    have h2 := ins_len (keyN lv o) (wOf o) g
    show (groupF lv (ins (keyN lv o) (wOf o) g) r).length ≤ _
    simp only [List.length_cons]
    omega
theorem group_len (lv : Nat) (l : List Od) : (group lv l).length ≤ l.length := by
  have := groupF_len lv l []
  simpa [group] using this
theorem put_len {g : List Wd} {k : Int} {a : Nat} (ha : a ≤ g.length) : (g.take a ++ [(⟨k, 0⟩ : Wd)] ++ g.drop a).length = g.length + 1 := by
  simp only [List.length_append, List.length_take, List.length_drop, List.length_cons, List.length_nil]
  omega
end Go.Proofs.Ytnpphmgibgfjoaa.WghP
/- What weighed answers: the walk. -/
namespace Go.Proofs.Ytnpphmgibgfjoaa.Wgh
open Go Go.RowKit Go.Proofs.YtnpphmgibgfjoaaW.PrintWords Go.Proofs.YtnpphmgibgfjoaaW.PrintMore Go.Proofs.YtnpphmgibgfjoaaW.PrintLast Mem PAll KW MixP MixW StrP StrW AtA Srt Grp Sl Dsc AtB Roo Rep Cho MayP Awk Rds WghP
open CrP hiding Od
set_option linter.unusedSimpArgs false
set_option maxHeartbeats 8000000 in
set_option maxRecDepth 100000 in
theorem weighed_calls (lv : Nat) (A : Option Addr) (c : Nat) (l : List Od) (w : World) (hlv : lv = 1 ∨ lv = 2 ∨ lv = 3) (hx : kO.C w A l.length l) (hg : GoodL l) :
    Calls Try.prog 47 #[.slice A l.length c, .int .i64 lv] w fun e w' => ∃ v, e = .returned v ∧ kW.R 83 w' w.heap.size (fun _ => True) v (group lv l) ∧ Below w.heap.size w w' := by
  have HC := Lib.hid hx
  have HG := Lib.hid hg
  have HLV := Lib.hid hlv
  have hlen : l.length ≤ 64 := hg.len
  have HB0 := Lib.hid (below_alloc (Below.refl w.heap.size w) (.cells #[] 83))
  have HO0 : Hid (kW.R 83 (w.alloc (.cells #[] 83)) w.heap.size (fun _ => True) (.slice (some ⟨w.heap.size, 0, none⟩) 0 0) []) := Lib.hid ⟨fun _ _ => trivial, OwnRow.lit w w.heap.size (ps := []) (inner := []) (Reps.none _ _) (Nat.le_refl _) (Nat.zero_le _)⟩
  clear hlv hx hg
  go_enter Try.func47, Try.ntmps47
  go_wp2_with fail
  go_loopw [5, 6] (fun v5 i' wr => ∃ i : Nat, i' = .int .i64 i ∧ Hid (i ≤ l.length) ∧ Hid (kW.R 83 wr w.heap.size (fun _ => True) v5 (group lv (l.take i))) ∧ Hid (Below w.heap.size w wr)) (fun _ i' _ => (l.length - intOf i').toNat)
  case atStart => exact ⟨0, rfl, Lib.hid (Nat.zero_le _), HO0, HB0⟩
  case round =>
    obtain ⟨i, rfl, HI, HO, HB⟩ := hrel
    clear HO0 HB0
    have hi := HI.out
    obtain ⟨wo, hwo⟩ : ∃ wo, wo = wr := ⟨_, rfl⟩
    rw [← hwo] at HO HB ⊢
    clear hwo
    by_cases h : i < l.length
    · have hlt : decide (i < l.length) = true := decide_eq_true h
      have i0 : (0 : Int) ≤ i := by omega
      have i1 : (i : Int) < l.length := by omega
      obtain ⟨VA, vc, hv5⟩ := Kd.R_slice HO.out
      subst hv5
      obtain ⟨G, hG⟩ : ∃ G, G = group lv (l.take i) := ⟨_, rfl⟩
      rw [← hG] at HO ⊢
      have HGE := Lib.hid hG
      obtain ⟨ad, o, ho, hA, a0, a1, a2, a3, a4, a5, a6, a7⟩ := at_O (Kd.C_below HC.out HB.out) i h
      subst hA
      have HQ := Lib.hid ho
      have HST := Lib.hid (group_snoc lv l i o ho)
      have hgl : G.length ≤ 9223372036854775807 := (Kd.R_reads' HO.out).2.2.2.1
      obtain ⟨ko, hko⟩ : ∃ ko, ko = keyN lv o := ⟨_, rfl⟩
      have HKO := Lib.hid hko
      have TK : Hid (∀ wq dd os, Calls Try.prog 44 #[.agg (aggO o), .int .i64 lv] (Sort.grow (redrawn wq dd) os) fun e w' => e = .returned (.int .i64 ko) ∧ Below (Sort.grow (redrawn wq dd) os).heap.size (Sort.grow (redrawn wq dd) os) w') := Lib.hid (fun wq dd os => by rw [hko]; exact key_calls lv HLV.out o _)
      clear h ho hG hko
      go_wp2_with fail
      go_loopw [7] (fun v7 wr => ∃ a : Nat, v7 = .int .i64 a ∧ Hid (a ≤ G.length ∧ Less G ko a) ∧ Hid (Below wo.heap.size wo wr)) (fun v7 _ => (G.length - intOf v7).toNat)
      case atStart => exact ⟨0, rfl, Lib.hid ⟨Nat.zero_le _, fun j u hj => absurd hj (Nat.not_lt_zero _)⟩, Lib.hid (Below.refl _ _)⟩
      case round =>
        obtain ⟨a, rfl, HA, HBQ⟩ := hrel
        have ha := HA.out.1
        obtain ⟨ad', o', ho', hA', a0, a1, a2, a3, a4, a5, a6, a7⟩ := at_O (Kd.C_below HC.out (below_then HB.out HB.out.size HBQ.out)) i (by omega)
        injection hA' with hA'
        subst hA'
        obtain rfl : o = o' := Option.some.inj (HQ.out.symm.trans ho')
        have z0 := cell_regrown a0
        have z1 := cell_regrown a1
        have z2 := cell_regrown a2
        have z3 := cell_regrown a3
        have z4 := cell_regrown a4
        have z5 := cell_regrown a5
        have z6 := cell_regrown a6
        have z7 := cell_regrown a7
        have HCG := Lib.hid (Kd.C_below (Kd.R_reads' HO.out).2.2 HBQ.out)
        clear ho' a0 a1 a2 a3 a4 a5 a6 a7
        by_cases h : a < G.length
        · have hla : decide (a < G.length) = true := decide_eq_true h
          have p0 : (0 : Int) ≤ a := by omega
          have p1 : (a : Int) < G.length := by omega
          obtain ⟨gd, u, hu, hGA, g0, _⟩ := at_W HCG.out a h
          obtain ⟨g, cap, hv, hbg, _, _⟩ := Kd.R_form HO.out (by omega)
          have hvA : VA = some ⟨g, 0, none⟩ := by injection hv
          clear hv
          obtain rfl : gd = ⟨g, 0, none⟩ := Option.some.inj (hGA.symm.trans hvA)
          subst hGA
          rw [add_plain] at g0
          have HUQ := Lib.hid hu
          have zg := cell_regrown g0
          have HAL := Lib.hid h
          clear hu g0 h
          by_cases hk : u.id < ko
          · have hkd : decide (u.id < ko) = true := decide_eq_true hk
            have HKK := Lib.hid hk
            clear hk
            go_wp2_with fail
            refine wp_region_quiet_below (by kernel_rfl) (by kernel_rfl) ?_
            repeat (go_big_quiet_step ((first | (go_at_call 44; exact Calls.regrown_of (TK.out _ _ _)))))
            refine wpQuiet_nil ?_
            intro _ hw'
            obtain ⟨⟨dq, osq⟩, hw''⟩ := hw'
            subst hw''
            have HBQ5 := Lib.hid (below_then HBQ.out HBQ.out.size (below_regrown wr dq osq))
            go_wp2_with fail
            go_roundw
            case rel =>
              refine ⟨a + 1, by go_num, Lib.hid ⟨HAL.out, fun j v hj hv => ?_⟩, HBQ5⟩
              rcases Nat.lt_or_ge j a with h2 | h2
              · exact HA.out.2 j v h2 hv
              · obtain rfl : j = a := by omega
                rw [← Option.some.inj (HUQ.out.symm.trans hv)]
                exact HKK.out
            case measure => have := HAL.out; simp only [intOf]; omega
          · have hkd : decide (u.id < ko) = false := decide_eq_false hk
            have HKK := Lib.hid hk
            clear hk
            go_wp2_with fail
            refine wp_region_quiet_below (by kernel_rfl) (by kernel_rfl) ?_
            repeat (go_big_quiet_step ((first | (go_at_call 44; exact Calls.regrown_of (TK.out _ _ _)))))
            refine wpQuiet_nil ?_
            intro _ hw'
            obtain ⟨⟨dq, osq⟩, hw''⟩ := hw'
            subst hw''
            have HBQ5 := Lib.hid (below_then HBQ.out HBQ.out.size (below_regrown wr dq osq))
            have b0 := z0 dq osq
            have b1 := z1 dq osq
            have b2 := z2 dq osq
            have b3 := z3 dq osq
            have b4 := z4 dq osq
            have b5 := z5 dq osq
            have b6 := z6 dq osq
            have b7 := z7 dq osq
            have bg := zg dq osq
            obtain ⟨w5, hw5⟩ : ∃ w5, w5 = Sort.grow (redrawn wr dq) osq := ⟨_, rfl⟩
            rw [← hw5] at HBQ5 b0 b1 b2 b3 b4 b5 b6 b7 bg ⊢
            clear hw5 z0 z1 z2 z3 z4 z5 z6 z7 zg HBQ HCG
            have z0 := cell_regrown b0
            have z1 := cell_regrown b1
            have z2 := cell_regrown b2
            have z3 := cell_regrown b3
            have z4 := cell_regrown b4
            have z5 := cell_regrown b5
            have z6 := cell_regrown b6
            have z7 := cell_regrown b7
            have zg := cell_regrown bg
            clear b0 b1 b2 b3 b4 b5 b6 b7 bg
            have hne : ((a : Int) == (G.length : Int)) = false := beq_eq_false_iff_ne.2 (by have := HAL.out; omega)
            cases hk2 : (u.id == ko) with
            | true =>
              have hk3 : (u.id != ko) = false := by rw [bne, hk2]; rfl
              have HPUT := Lib.hid (Put.hit HA.out.2 HUQ.out (beq_iff_eq.1 hk2))
              have HID : Hid (u.id = ko) := Lib.hid (beq_iff_eq.1 hk2)
              clear hk2
              go_wp2_with fail
              refine wp_region_quiet_below (by kernel_rfl) (by kernel_rfl) ?_
              repeat (go_big_quiet_step ((first | (go_at_call 44; exact Calls.regrown_of (TK.out _ _ _)))))
              refine wpQuiet_nil ?_
              intro _ hw'
              obtain ⟨⟨dq, osq⟩, hw''⟩ := hw'
              subst hw''
              have HBQ6 := Lib.hid (below_then HBQ5.out HBQ5.out.size (below_regrown w5 dq osq))
              have HO6 := Lib.hid (Kd.R_below HO.out HBQ6.out)
              have HB6 := Lib.hid (below_then HB.out HB.out.size HBQ6.out)
              have b2 := z2 dq osq
              have b3 := z3 dq osq
              obtain ⟨w6, hw6⟩ : ∃ w6, w6 = Sort.grow (redrawn w5 dq) osq := ⟨_, rfl⟩
              rw [← hw6] at HO6 HB6 b2 b3 ⊢
              clear hw6 z0 z1 z2 z3 z4 z5 z6 z7 zg HBQ5 HBQ6
              cases hin : o.f2 with
              | false =>
                rw [hin] at b2
                have HWO : Hid (wOf o = 0) := Lib.hid (by unfold wOf; rw [hin]; rfl)
                clear hin
                go_wp2_with fail
                go_roundw
                case rel => exact ⟨i + 1, by go_num, Lib.hid (by omega), Lib.hid (by rw [HST.out, HWO.out, ← HGE.out, ← HKO.out, HPUT.out.same]; exact HO6.out), HB6⟩
                case measure => simp only [intOf]; omega
              | true =>
                rw [hin] at b2
                have HWO : Hid (wOf o = o.f3) := Lib.hid (by unfold wOf; rw [hin]; rfl)
                have hf3 : 0 ≤ o.f3 ∧ o.f3 ≤ 16777216 := by rw [← HWO.out]; exact HG.out.wt o (List.mem_of_getElem? HQ.out)
                have hwt : 0 ≤ u.wt ∧ u.wt ≤ l.length * 16777216 := by
                  have hm := List.mem_of_getElem? HUQ.out
                  rw [HGE.out, group_mem] at hm
                  have h1 := sumK_range (lv := lv) (k := u.id) (l := l.take i) (fun q hq => HG.out.wt q (List.mem_of_mem_take hq))
                  have h2 := List.length_take_le i l
                  rw [hm.2]
                  omega
                have kw : IntKind.i64.wrap (u.wt + o.f3) = u.wt + o.f3 := IntWalk.i64_in _ (by omega)
                obtain ⟨ad3, u3, hu3, hA3, c0, c1⟩ := at_W (Kd.R_reads' HO6.out).2.2 a HAL.out
                injection hA3 with hA3
                subst hA3
                obtain rfl : u = u3 := Option.some.inj (HUQ.out.symm.trans hu3)
                rw [add_plain] at c0 c1
                have hcells : ∀ (jj : Nat) v, [Value.int .i64 u.id, .int .i64 u.wt][jj]? = some v → w6.cell? ⟨g, (a : Int).toNat * kW.sz + jj, none⟩ = some v := by
                  intro jj v hv
                  rw [show (a : Int).toNat * kW.sz + jj = a * 2 + jj from rfl]
                  match jj, hv with
                  | 0, hv => obtain rfl := Option.some.inj hv; exact c0
                  | 1, hv => obtain rfl := Option.some.inj hv; exact c1
                  | jj + 2, hv => cases hv
                have HCE := Lib.hid hcells
                have y3 := cell_regrown b3
                have y1 := cell_regrown c1
                clear hin hcells hu3 c0 c1 b3 hf3 hwt
                go_wp2_with fail
                clear b2
                refine QT.wp_region_tail 15 (by kernel_rfl) (by kernel_rfl) ?_
                simp only [List.take_succ_cons, List.take_zero, List.drop_succ_cons, List.drop_zero]
                repeat (go_big_quiet_step ((fail)))
                refine wpQuiet_nil ?_
                intro _ hw'
                obtain ⟨⟨dq, osq⟩, hw''⟩ := hw'
                subst hw''
                have HO7 := Lib.hid (Kd.R_below HO6.out (below_regrown w6 dq osq))
                have HB7 := Lib.hid (below_then HB6.out HB6.out.size (below_regrown w6 dq osq))
                have HCE7 : Hid (∀ (jj : Nat) v, [Value.int .i64 u.id, .int .i64 u.wt][jj]? = some v → (Sort.grow (redrawn w6 dq) osq).cell? ⟨g, (a : Int).toNat * kW.sz + jj, none⟩ = some v) := Lib.hid (fun jj v hv => cell_regrown (HCE.out jj v hv) dq osq)
                obtain ⟨w7, hw7⟩ : ∃ w7, w7 = Sort.grow (redrawn w6 dq) osq := ⟨_, rfl⟩
                rw [← hw7] at HO7 HB7 HCE7 ⊢
                clear hw7 y1 y3 HO6 HB6 HCE
                go_wp2_with (first | ((with_reducible refine gate_store (t := 3) (p := 90) (v := .tmp 88) rfl ?_); go_must (refine Kd.R_store kW (w0 := w) w.heap.size rfl rfl 3 _ _ rfl 83 (a : Int) 1 G ⟨u.id, u.wt + o.f3⟩ (.int .i64 (u.wt + o.f3)) [.int .i64 (u.wt + o.f3)] [.int .i64 u.id, .int .i64 u.wt] (fun _ => True) (fun _ => False) rfl rfl rfl rfl (by kernel_rfl) (by simp [Value.oneCell']) HO7.out p0 p1 rfl HCE7.out (by show 1 + 1 ≤ 2; decide) (kW_mkM _ _ _ ⟨u.id, u.wt + o.f3⟩) (fun _ hk => hk.elim) HB7.out ?_; intro w8 ho hb hg; have HO8 := Lib.hid (show kW.R 83 w8 w.heap.size (fun _ => True) (.slice (some ⟨g, 0, none⟩) G.length vc) (G.set a ⟨u.id, u.wt + o.f3⟩) from ho); have HB8 := Lib.hid hb; clear ho hb hg HO7 HB7 HCE7)))
                go_roundw
                case rel => exact ⟨i + 1, by go_num, Lib.hid (by omega), Lib.hid (by rw [HST.out, HWO.out, ← HGE.out, ← HKO.out, HPUT.out.ins_, ← HID.out]; exact HO8.out), HB8⟩
                case measure => simp only [intOf]; omega
            | false =>
              have hk3 : (u.id != ko) = true := by rw [bne, hk2]; rfl
              have HPUT := Lib.hid (Put.new HA.out.2 HA.out.1 (fun v hv => by
                have e := Option.some.inj (HUQ.out.symm.trans hv)
                have := beq_eq_false_iff_ne.1 hk2
                have := HKK.out
                subst e
                omega))
              clear hk2
              go_wp2_with fail
              refine wp_region_quiet_below (by kernel_rfl) (by kernel_rfl) ?_
              repeat (go_big_quiet_step ((first | (go_at_call 44; exact Calls.regrown_of (TK.out _ _ _)))))
              refine wpQuiet_nil ?_
              intro _ hw'
              obtain ⟨⟨dq, osq⟩, hw''⟩ := hw'
              subst hw''
              have HBQ6 := Lib.hid (below_then HBQ5.out HBQ5.out.size (below_regrown w5 dq osq))
              have HOb := Lib.hid (Kd.R_below HO.out HBQ6.out)
              have HBb := Lib.hid (below_then HB.out HB.out.size HBQ6.out)
              have b0 := z0 dq osq
              have b1 := z1 dq osq
              have b2 := z2 dq osq
              have b3 := z3 dq osq
              have b4 := z4 dq osq
              have b5 := z5 dq osq
              have b6 := z6 dq osq
              have b7 := z7 dq osq
              obtain ⟨wb, hwb⟩ : ∃ wb, wb = Sort.grow (redrawn w5 dq) osq := ⟨_, rfl⟩
              rw [← hwb] at HOb HBb b0 b1 b2 b3 b4 b5 b6 b7 ⊢
              clear hwb z0 z1 z2 z3 z4 z5 z6 z7 HBQ5 HBQ6
              have hgl2 : G.length ≤ 64 := Nat.le_trans (by rw [HGE.out]; exact group_len lv _) (Nat.le_trans (List.length_take_le i l) (by omega))
              have HGL := Lib.hid hgl2
              have hrc := Kd.R_reads' HOb.out
              have Y0 := ad.add (i * 8)
              obtain ⟨Y1, hY1⟩ : ∃ Y1, Y1 = G.take a := ⟨_, rfl⟩
              obtain ⟨Y2, hY2⟩ : ∃ Y2, Y2 = G.drop a := ⟨_, rfl⟩
              have hl1 : Y1.length = a := by rw [hY1, List.length_take]; have := HA.out.1; omega
              have hl2 : Y2.length = G.length - a := by rw [hY2, List.length_drop]
              have hc1 : kW.C wb (some ⟨g, 0, none⟩ : Option Addr) Y1.length Y1 := by rw [hY1]; exact Kd.C_take hrc.2.2 HA.out.1
              obtain ⟨A2, hA2⟩ : ∃ A2, A2 = (if vc = a then (some ⟨g, 0, none⟩ : Option Addr) else ((some ⟨g, 0, none⟩ : Option Addr)).map (·.add (a * 2))) := ⟨_, rfl⟩
              have hc2 : kW.C wb A2 Y2.length Y2 := by rw [hY2, hA2]; exact Kd.C_drop hrc.2.2 HA.out.1 hrc.2.1
              have hcut1 : ∀ W : World, (Instr.slice 80 (.slice (some ⟨g, 0, none⟩ : Option Addr) G.length vc) none (some (.int .i64 (a : Int))) none).run Try.prog W = .ok (.slice (some ⟨g, 0, none⟩ : Option Addr) Y1.length vc) W := by
                intro W
                rw [hl1]
                obtain ⟨i0, hi0, _, _, _⟩ := info_parts infoW
                exact cut_to (P := Try.prog) 80 83 .i64 Try.underlying80 hi0 (some ⟨g, 0, none⟩ : Option Addr) G.length vc (a : Int) (by omega) (by have := HA.out.1; omega) hrc.2.1 W
              have hcut2 : ∀ W : World, (Instr.slice 80 (.slice (some ⟨g, 0, none⟩ : Option Addr) G.length vc) (some (.int .i64 (a : Int))) none none).run Try.prog W = .ok (.slice A2 Y2.length (vc - a)) W := by
                intro W
                rw [hl2, hA2]
                obtain ⟨i0, hi0, _, hs0, _⟩ := info_parts infoW
                exact cut_from (P := Try.prog) 80 83 .i64 Try.underlying80 hi0 2 hs0 (some ⟨g, 0, none⟩ : Option Addr) G.length vc (a : Int) (by omega) (by have := HA.out.1; omega) W
              have HL1 := Lib.hid hl1
              have HL2 := Lib.hid hl2
              have HY1 := Lib.hid hY1
              have HY2 := Lib.hid hY2
              have HC1 := Lib.hid hc1
              have HC2 := Lib.hid hc2
              have hB0 := Lib.hid (below_drew (Below.refl wb.heap.size wb))
              clear hgl2 hrc Y0 hl1 hl2 hc1 hc2 hY1 hY2 hA2
              go_wp2_with fail
              refine start_ (n := 19) (S := fun w' => Below wb.heap.size wb w') (ds := []) #[false, false, false, false, false, false, false, false, false, false, false, false, false, false, false, false, false, false, false] (by kernel_rfl) rfl rfl hB0.out (fun hHeld => ?_)
              generalize wb.drew = wd at hB0 hHeld ⊢
              refine pure_ (i := 1) (N := some 54) (v := ?_) (a' := ?_) #[false, true, false, false, false, false, false, false, false, false, false, false, false, false, false, false, false, false, false] rfl rfl (by kernel_rfl) (fun _ _ _ h => h) (Or.inl ⟨by rfl, ?_⟩) ?_ ?_
              rotate_left
              · intro w'
                go_simp
                with_reducible rfl
              rotate_left
              · simp only [Act.put, List.setIfInBounds_toArray, List.set_cons_zero, List.set_cons_succ, i64_w, i32_w]
                rfl
              refine pure_ (i := 2) (N := some 55) (v := ?_) (a' := ?_) #[false, true, true, false, false, false, false, false, false, false, false, false, false, false, false, false, false, false, false] rfl rfl (by kernel_rfl) (fun _ _ _ h => h) (Or.inl ⟨by rfl, ?_⟩) ?_ ?_
              rotate_left
              · intro w'
                go_simp
                with_reducible rfl
              rotate_left
              · simp only [Act.put, List.setIfInBounds_toArray, List.set_cons_zero, List.set_cons_succ, i64_w, i32_w]
                rfl
              refine pure_ (i := 3) (N := some 56) (v := ?_) (a' := ?_) #[false, true, true, true, false, false, false, false, false, false, false, false, false, false, false, false, false, false, false] rfl rfl (by kernel_rfl) (fun _ _ _ h => h) (Or.inl ⟨by rfl, ?_⟩) ?_ ?_
              rotate_left
              · intro w'
                go_simp
                with_reducible rfl
              rotate_left
              · simp only [Act.put, List.setIfInBounds_toArray, List.set_cons_zero, List.set_cons_succ, i64_w, i32_w]
                rfl
              refine pure_ (i := 5) (N := some 58) (v := ?_) (a' := ?_) #[false, true, true, true, false, true, false, false, false, false, false, false, false, false, false, false, false, false, false] rfl rfl (by kernel_rfl) (fun _ _ _ h => h) (Or.inl ⟨by rfl, ?_⟩) ?_ ?_
              rotate_left
              · intro w'
                go_simp
                with_reducible rfl
              rotate_left
              · simp only [Act.put, List.setIfInBounds_toArray, List.set_cons_zero, List.set_cons_succ, i64_w, i32_w]
                rfl
              refine pure_ (i := 6) (N := some 59) (v := ?_) (a' := ?_) #[false, true, true, true, false, true, true, false, false, false, false, false, false, false, false, false, false, false, false] rfl rfl (by kernel_rfl) (fun _ _ _ h => h) (Or.inl ⟨by rfl, ?_⟩) ?_ ?_
              rotate_left
              · intro w'
                go_simp
                with_reducible rfl
              rotate_left
              · simp only [Act.put, List.setIfInBounds_toArray, List.set_cons_zero, List.set_cons_succ, i64_w, i32_w]
                rfl
              refine pure_ (i := 7) (N := some 60) (v := ?_) (a' := ?_) #[false, true, true, true, false, true, true, true, false, false, false, false, false, false, false, false, false, false, false] rfl rfl (by kernel_rfl) (fun _ _ _ h => h) (Or.inl ⟨by rfl, ?_⟩) ?_ ?_
              rotate_left
              · intro w'
                go_simp
                with_reducible rfl
              rotate_left
              · simp only [Act.put, List.setIfInBounds_toArray, List.set_cons_zero, List.set_cons_succ, i64_w, i32_w]
                rfl
              refine pure_ (i := 9) (N := some 62) (v := ?_) (a' := ?_) #[false, true, true, true, false, true, true, true, false, true, false, false, false, false, false, false, false, false, false] rfl rfl (by kernel_rfl) (fun _ _ _ h => h) (Or.inl ⟨by rfl, ?_⟩) ?_ ?_
              rotate_left
              · intro w'
                go_simp
                with_reducible rfl
              rotate_left
              · simp only [Act.put, List.setIfInBounds_toArray, List.set_cons_zero, List.set_cons_succ, i64_w, i32_w]
                rfl
              refine pure_ (i := 14) (N := some 67) (v := ?_) (a' := ?_) #[false, true, true, true, false, true, true, true, false, true, false, false, false, false, true, false, false, false, false] rfl rfl (by kernel_rfl) (fun _ _ _ h => h) (Or.inl ⟨by rfl, ?_⟩) ?_ ?_
              rotate_left
              · intro w'
                go_simp
                with_reducible rfl
              rotate_left
              · simp only [Act.put, List.setIfInBounds_toArray, List.set_cons_zero, List.set_cons_succ, i64_w, i32_w]
                rfl
              refine pure_ (i := 15) (N := some 68) (v := ?_) (a' := ?_) #[false, true, true, true, false, true, true, true, false, true, false, false, false, false, true, true, false, false, false] rfl rfl (by kernel_rfl) (fun _ _ _ h => h) (Or.inl ⟨by rfl, ?_⟩) ?_ ?_
              rotate_left
              · intro w'
                go_simp
                with_reducible rfl
              rotate_left
              · simp only [Act.put, List.setIfInBounds_toArray, List.set_cons_zero, List.set_cons_succ, i64_w, i32_w]
                rfl
              refine pure_ (i := 16) (N := some 69) (v := ?_) (a' := ?_) #[false, true, true, true, false, true, true, true, false, true, false, false, false, false, true, true, true, false, false] rfl rfl (by kernel_rfl) (fun _ _ _ h => h) (Or.inl ⟨by rfl, ?_⟩) ?_ ?_
              rotate_left
              · intro w'
                go_simp
                with_reducible rfl
              rotate_left
              · simp only [Act.put, List.setIfInBounds_toArray, List.set_cons_zero, List.set_cons_succ, i64_w, i32_w]
                rfl
              refine take_ (i := 8) (N := some 61) (v := ?_) (a' := ?_) #[false, true, true, true, false, true, true, true, true, true, false, false, false, false, true, true, true, false, false] rfl rfl (by kernel_rfl) (fun _ _ _ h => h) (Or.inl ⟨by rfl, ?_⟩) hHeld ?_ ?_
              rotate_left
              · rintro w' hS
                have y0 := (hS.cell (World.block_lt_of_cell? _ _ b0)).trans b0
                have y1 := (hS.cell (World.block_lt_of_cell? _ _ b1)).trans b1
                have y2 := (hS.cell (World.block_lt_of_cell? _ _ b2)).trans b2
                have y3 := (hS.cell (World.block_lt_of_cell? _ _ b3)).trans b3
                have y4 := (hS.cell (World.block_lt_of_cell? _ _ b4)).trans b4
                have y5 := (hS.cell (World.block_lt_of_cell? _ _ b5)).trans b5
                have y6 := (hS.cell (World.block_lt_of_cell? _ _ b6)).trans b6
                have y7 := (hS.cell (World.block_lt_of_cell? _ _ b7)).trans b7
                go_simp
                with_reducible rfl
              rotate_left
              · simp only [Act.put, List.setIfInBounds_toArray, List.set_cons_zero, List.set_cons_succ, i64_w, i32_w]
                rfl
              refine one_ (i := 0) (N := some 53) #[true, true, true, true, false, true, true, true, true, true, false, false, false, false, true, true, true, false, false] rfl rfl (by kernel_rfl) (by decide) (fun K hK => ?_)
              refine Kd.R_lit_step kW (w0 := wb) wb.heap.size 83 ?hg (N := 53) ?hd (xs := ([] : List Wd)) (inner := []) (ok := fun _ => True) (okp := fun _ => True) ?hr ?hp (fun _ hk => hk) trivial hB0.out hB0.out.size (by simp) ?_; (case hd => rfl); (case hg => rfl); (case hr => first | (go_simp; done) | (go_simp; rfl)); (case hp => exact (Reps.none _ _))
              intro v53 w53 ho hb hg hnew
              have HE1 := Lib.hid ho
              have hB1 := Lib.hid hb
              clear ho hb hg hnew hB0
              refine hK.out _ _ hB1.out (fun hHeld => ?_)
              clear hK K
              refine norm_ (a' := ?_) ?_ ?_
              rotate_left
              · show Act.put _ (some 53) _ = _
                simp only [Act.put, List.setIfInBounds_toArray, List.set_cons_zero, List.set_cons_succ, i64_w, i32_w]
                rfl
              refine one_ (i := 4) (N := some 57) #[true, true, true, true, true, true, true, true, true, true, false, false, false, false, true, true, true, false, false] rfl rfl (by kernel_rfl) (by decide) (fun K hK => ?_)
              refine Kd.R_append_rows_step kW (w0 := wb) wb.heap.size (by rfl) (.tmp 53) (.tmp 56) 80 83 (.agg #[(.int .i64 0), (.int .i64 0)]) 16 rfl Try.underlying80 infoW rfl (by decide) (by omega) v53 [] Y1 _ _ _ (fun _ => True) (fun _ => False) rfl rfl HE1.out (Kd.C_below HC1.out (hB1.out)) (fun y cs hk => by rw [kW_open hk]; exact kW_mkM _ _ _ y) (fun _ h => h.elim) (fun _ _ => trivial) hB1.out hB1.out.size ?aL ?_
              (case aL => have := HL1.out; have := HGL.out; have := HA.out.1; simp only [List.length_nil]; omega)
              intro v57 w57 ho hb hg hat
              rw [List.nil_append] at ho
              have HE2 := Lib.hid ho
              have hB2 := Lib.hid hb
              clear ho hb hg hat hB1 HE1
              refine hK.out _ _ hB2.out (fun hHeld => ?_)
              clear hK K
              refine norm_ (a' := ?_) ?_ ?_
              rotate_left
              · show Act.put _ (some 57) _ = _
                simp only [Act.put, List.setIfInBounds_toArray, List.set_cons_zero, List.set_cons_succ, i64_w, i32_w]
                rfl
              refine one_ (i := 10) (N := some 63) #[true, true, true, true, true, true, true, true, true, true, true, false, false, false, true, true, true, false, false] rfl rfl (by kernel_rfl) (by decide) (fun K hK => ?_)
              refine goes_ Try.func44 (by kernel_rfl) rfl #[.agg #[.int .i64 o.f0, .bool o.f1, .bool o.f2, .int .i64 o.f3, .int .i64 o.f4, .int .i64 o.f5, .int .i64 o.f6, .int .i64 o.f7], .int .i64 lv] (by rfl) rfl rfl (by (try simp only [List.map_toArray, List.map_cons, List.map_nil]); first | done | rfl | (go_simp; done) | (go_simp; rfl)) ?_
              refine (key_calls lv HLV.out o w57).mono ?_
              rintro e w63 ⟨rfl, hb⟩
              refine ⟨_, rfl, ?_⟩
              rw [← HKO.out]
              have hB3 := Lib.hid (below_then hB2.out hB2.out.size hb)
              have HE3 := Lib.hid (Kd.R_below HE2.out hb)
              clear hb hB2 HE2
              refine hK.out _ _ hB3.out (fun hHeld => ?_)
              clear hK K
              refine norm_ (a' := ?_) ?_ ?_
              rotate_left
              · show Act.put _ (some 63) _ = _
                simp only [Act.put, List.setIfInBounds_toArray, List.set_cons_zero, List.set_cons_succ, i64_w, i32_w]
                rfl
              refine pure_ (i := 11) (N := some 64) (v := ?_) (a' := ?_) #[true, true, true, true, true, true, true, true, true, true, true, true, false, false, true, true, true, false, false] rfl rfl (by kernel_rfl) (fun _ _ _ h => h) (Or.inl ⟨by rfl, ?_⟩) ?_ ?_
              rotate_left
              · intro w'
                go_simp
                with_reducible rfl
              rotate_left
              · simp only [Act.put, List.setIfInBounds_toArray, List.set_cons_zero, List.set_cons_succ, i64_w, i32_w]
                rfl
              refine one_ (i := 12) (N := some 65) #[true, true, true, true, true, true, true, true, true, true, true, true, true, false, true, true, true, false, false] rfl rfl (by kernel_rfl) (by decide) (fun K hK => ?_)
              refine value_ (w1 := ?_) (v := ?_) (by rfl) rfl ?_ ?_
              rotate_left 2
              · go_simp
                constructor
                · rfl
                · rfl
              refine hK.out _ _ (below_alloc hB3.out _) (fun hHeld => ?_)
              clear hK K
              refine norm_ (a' := ?_) ?_ ?_
              rotate_left
              · show Act.put _ (some 65) _ = _
                simp only [Act.put, List.setIfInBounds_toArray, List.set_cons_zero, List.set_cons_succ, i64_w, i32_w]
                rfl
              refine one_ (i := 13) (N := some 66) #[true, true, true, true, true, true, true, true, true, true, true, true, true, true, true, true, true, false, false] rfl rfl (by kernel_rfl) (by decide) (fun K hK => ?_)
              refine Kd.R_append_step kW (w0 := wb) wb.heap.size (by rfl) (.tmp 57) (.tmp 65) 80 83 (.agg #[(.int .i64 0), (.int .i64 0)]) 16 rfl Try.underlying80 infoW rfl (by decide) (by omega) v57 Y1 (⟨ko, 0⟩ : Wd) [.int .i64 ko, .int .i64 0] (fun _ => True) (fun _ => False) rfl rfl (kW_mkM _ _ _ (⟨ko, 0⟩ : Wd)) (fun _ hk => hk.elim) (fun _ _ => trivial) HE3.out hB3.out hB3.out.size ?aL ?_
              (case aL => have := HL1.out; have := HGL.out; have := HA.out.1; omega)
              intro v66 w66 ho hb hg hat
              have HE4 := Lib.hid ho
              have hB4 := Lib.hid hb
              clear ho hb hg hat hB3 HE3
              refine hK.out _ _ hB4.out (fun hHeld => ?_)
              clear hK K
              refine norm_ (a' := ?_) ?_ ?_
              rotate_left
              · show Act.put _ (some 66) _ = _
                simp only [Act.put, List.setIfInBounds_toArray, List.set_cons_zero, List.set_cons_succ, i64_w, i32_w]
                rfl
              refine one_ (i := 17) (N := some 70) #[true, true, true, true, true, true, true, true, true, true, true, true, true, true, true, true, true, true, false] rfl rfl (by kernel_rfl) (by decide) (fun K hK => ?_)
              refine Kd.R_append_rows_step kW (w0 := wb) wb.heap.size (by rfl) (.tmp 66) (.tmp 69) 80 83 (.agg #[(.int .i64 0), (.int .i64 0)]) 16 rfl Try.underlying80 infoW rfl (by decide) (by omega) v66 (Y1 ++ [⟨ko, 0⟩]) Y2 _ _ _ (fun _ => True) (fun _ => False) rfl rfl HE4.out (Kd.C_below HC2.out (hB4.out)) (fun y cs hk => by rw [kW_open hk]; exact kW_mkM _ _ _ y) (fun _ h => h.elim) (fun _ _ => trivial) hB4.out hB4.out.size ?aL ?_
              (case aL => have := HL1.out; have := HL2.out; have := HGL.out; have := HA.out.1; simp only [List.length_append, List.length_cons, List.length_nil]; omega)
              intro v70 w70 ho hb hg hat
              have HE5 := Lib.hid ho
              have hB5 := Lib.hid hb
              clear ho hb hg hat hB4 HE4
              refine hK.out _ _ hB5.out (fun hHeld => ?_)
              clear hK K
              refine norm_ (a' := ?_) ?_ ?_
              rotate_left
              · show Act.put _ (some 70) _ = _
                simp only [Act.put, List.setIfInBounds_toArray, List.set_cons_zero, List.set_cons_succ, i64_w, i32_w]
                rfl
              refine pure_ (i := 18) (N := some 5) (v := ?_) (a' := ?_) #[true, true, true, true, true, true, true, true, true, true, true, true, true, true, true, true, true, true, true] rfl rfl (by kernel_rfl) (fun _ _ _ h => h) (Or.inl ⟨by rfl, ?_⟩) ?_ ?_
              rotate_left
              · intro w'
                go_simp
                with_reducible rfl
              rotate_left
              · simp only [Act.put, List.setIfInBounds_toArray, List.set_cons_zero, List.set_cons_succ, i64_w, i32_w]
                rfl
              refine done_ (by kernel_rfl) ?_
              clear hcut1 hcut2 hHeld
              obtain ⟨G1, hG1⟩ : ∃ G1, G1 = G.take a ++ [(⟨ko, 0⟩ : Wd)] ++ G.drop a := ⟨_, rfl⟩
              have HLEN1 : Hid (G1.length = G.length + 1) := Lib.hid (by rw [hG1]; exact put_len HA.out.1)
              have HE6 : Hid (kW.R 83 w70 wb.heap.size (fun _ => True) v70 G1) := Lib.hid (by rw [hG1, ← HY1.out, ← HY2.out]; exact HE5.out)
              rw [← hG1] at HPUT
              obtain ⟨u, hu⟩ : ∃ u : Wd, u = ⟨ko, 0⟩ := ⟨_, rfl⟩
              have HUQ : Hid (G1[a]? = some u) := Lib.hid (by rw [hu]; exact HPUT.out.at_)
              have HID : Hid (u.id = ko) := Lib.hid (by rw [hu])
              have HU0 : Hid (u.wt = 0) := Lib.hid (by rw [hu])
              have HWT : Hid (0 ≤ u.wt ∧ u.wt ≤ l.length * 16777216) := Lib.hid (by rw [HU0.out]; omega)
              rw [← HU0.out] at HPUT
              obtain ⟨g, vc', hv, _⟩ := Kd.R_form HE6.out (by have := HLEN1.out; omega)
              subst hv
              have HAL : Hid (a < G1.length) := Lib.hid (by have := HA.out.1; have := HLEN1.out; omega)
              have hla' : decide (a < G1.length) = true := decide_eq_true HAL.out
              have p0 : (0 : Int) ≤ a := by omega
              have p1 : (a : Int) < G1.length := by have := HAL.out; omega
              have HBQ6 := hB5
              have HO6 := Lib.hid (Kd.R_lower HE6.out HBb.out.size)
              have HB6 := Lib.hid (below_then HBb.out HBb.out.size hB5.out)
              replace b2 := (hB5.out.cell (World.block_lt_of_cell? _ _ b2)).trans b2
              replace b3 := (hB5.out.cell (World.block_lt_of_cell? _ _ b3)).trans b3
              obtain ⟨w6, hw6⟩ : ∃ w6, w6 = w70 := ⟨_, rfl⟩
              rw [← hw6] at HO6 HB6 b2 b3 ⊢
              obtain ⟨vc2, hvc2⟩ : ∃ vc2, vc2 = vc' := ⟨_, rfl⟩
              rw [← hvc2] at HO6 ⊢
              clear hw6 hvc2 HE6 HE5 hB5 HC1 HC2 HY1 HY2 HL1 HL2 HOb HBb b0 b1 b4 b5 b6 b7 hG1 hu HBQ6
              cases hin : o.f2 with
              | false =>
                rw [hin] at b2
                have HWO : Hid (wOf o = 0) := Lib.hid (by unfold wOf; rw [hin]; rfl)
                clear hin
                go_wp2_with fail
                go_roundw
                case rel => exact ⟨i + 1, by go_num, Lib.hid (by omega), Lib.hid (by rw [HST.out, HWO.out, ← HGE.out, ← HKO.out, HPUT.out.same]; exact HO6.out), HB6⟩
                case measure => simp only [intOf]; omega
              | true =>
                rw [hin] at b2
                have HWO : Hid (wOf o = o.f3) := Lib.hid (by unfold wOf; rw [hin]; rfl)
                have hf3 : 0 ≤ o.f3 ∧ o.f3 ≤ 16777216 := by rw [← HWO.out]; exact HG.out.wt o (List.mem_of_getElem? HQ.out)
                have hwt : 0 ≤ u.wt ∧ u.wt ≤ l.length * 16777216 := HWT.out
                have kw : IntKind.i64.wrap (u.wt + o.f3) = u.wt + o.f3 := IntWalk.i64_in _ (by omega)
                obtain ⟨ad3, u3, hu3, hA3, c0, c1⟩ := at_W (Kd.R_reads' HO6.out).2.2 a HAL.out
                injection hA3 with hA3
                subst hA3
                obtain rfl : u = u3 := Option.some.inj (HUQ.out.symm.trans hu3)
                rw [add_plain] at c0 c1
                have hcells : ∀ (jj : Nat) v, [Value.int .i64 u.id, .int .i64 u.wt][jj]? = some v → w6.cell? ⟨g, (a : Int).toNat * kW.sz + jj, none⟩ = some v := by
                  intro jj v hv
                  rw [show (a : Int).toNat * kW.sz + jj = a * 2 + jj from rfl]
                  match jj, hv with
                  | 0, hv => obtain rfl := Option.some.inj hv; exact c0
                  | 1, hv => obtain rfl := Option.some.inj hv; exact c1
                  | jj + 2, hv => cases hv
                have HCE := Lib.hid hcells
                have y3 := cell_regrown b3
                have y1 := cell_regrown c1
                clear hin hcells hu3 c0 c1 b3 hf3 hwt
                go_wp2_with fail
                clear b2
                refine QT.wp_region_tail 15 (by kernel_rfl) (by kernel_rfl) ?_
                simp only [List.take_succ_cons, List.take_zero, List.drop_succ_cons, List.drop_zero]
                repeat (go_big_quiet_step ((fail)))
                refine wpQuiet_nil ?_
                intro _ hw'
                obtain ⟨⟨dq, osq⟩, hw''⟩ := hw'
                subst hw''
                have HO7 := Lib.hid (Kd.R_below HO6.out (below_regrown w6 dq osq))
                have HB7 := Lib.hid (below_then HB6.out HB6.out.size (below_regrown w6 dq osq))
                have HCE7 : Hid (∀ (jj : Nat) v, [Value.int .i64 u.id, .int .i64 u.wt][jj]? = some v → (Sort.grow (redrawn w6 dq) osq).cell? ⟨g, (a : Int).toNat * kW.sz + jj, none⟩ = some v) := Lib.hid (fun jj v hv => cell_regrown (HCE.out jj v hv) dq osq)
                obtain ⟨w7, hw7⟩ : ∃ w7, w7 = Sort.grow (redrawn w6 dq) osq := ⟨_, rfl⟩
                rw [← hw7] at HO7 HB7 HCE7 ⊢
                clear hw7 y1 y3 HO6 HB6 HCE
                go_wp2_with (first | ((with_reducible refine gate_store (t := 3) (p := 90) (v := .tmp 88) rfl ?_); go_must (refine Kd.R_store kW (w0 := w) w.heap.size rfl rfl 3 _ _ rfl 83 (a : Int) 1 G1 ⟨u.id, u.wt + o.f3⟩ (.int .i64 (u.wt + o.f3)) [.int .i64 (u.wt + o.f3)] [.int .i64 u.id, .int .i64 u.wt] (fun _ => True) (fun _ => False) rfl rfl rfl rfl (by kernel_rfl) (by simp [Value.oneCell']) HO7.out p0 p1 rfl HCE7.out (by show 1 + 1 ≤ 2; decide) (kW_mkM _ _ _ ⟨u.id, u.wt + o.f3⟩) (fun _ hk => hk.elim) HB7.out ?_; intro w8 ho hb hg; have HO8 := Lib.hid (show kW.R 83 w8 w.heap.size (fun _ => True) (.slice (some ⟨g, 0, none⟩) G1.length vc2) (G1.set a ⟨u.id, u.wt + o.f3⟩) from ho); have HB8 := Lib.hid hb; clear ho hb hg HO7 HB7 HCE7)))
                go_roundw
                case rel => exact ⟨i + 1, by go_num, Lib.hid (by omega), Lib.hid (by rw [HST.out, HWO.out, ← HGE.out, ← HKO.out, HPUT.out.ins_, ← HID.out]; exact HO8.out), HB8⟩
                case measure => simp only [intOf]; omega
        · obtain rfl : a = G.length := by omega
          have hla : decide (G.length < G.length) = false := decide_eq_false (by omega)
          have hla2 : decide ((G.length : Int) < (G.length : Int)) = false := decide_eq_false (by omega)
          clear h
          go_wp2_with fail
          refine wp_region_quiet_below (by kernel_rfl) (by kernel_rfl) ?_
          repeat (go_big_quiet_step ((first | (go_at_call 44; exact Calls.regrown_of (TK.out _ _ _)))))
          refine wpQuiet_nil ?_
          intro _ hw'
          obtain ⟨⟨dq, osq⟩, hw''⟩ := hw'
          subst hw''
          have HBQ5 := Lib.hid (below_then HBQ.out HBQ.out.size (below_regrown wr dq osq))
          have b0 := z0 dq osq
          have b1 := z1 dq osq
          have b2 := z2 dq osq
          have b3 := z3 dq osq
          have b4 := z4 dq osq
          have b5 := z5 dq osq
          have b6 := z6 dq osq
          have b7 := z7 dq osq
          obtain ⟨w5, hw5⟩ : ∃ w5, w5 = Sort.grow (redrawn wr dq) osq := ⟨_, rfl⟩
          rw [← hw5] at HBQ5 b0 b1 b2 b3 b4 b5 b6 b7 ⊢
          clear hw5 z0 z1 z2 z3 z4 z5 z6 z7 HBQ HCG
          have z0 := cell_regrown b0
          have z1 := cell_regrown b1
          have z2 := cell_regrown b2
          have z3 := cell_regrown b3
          have z4 := cell_regrown b4
          have z5 := cell_regrown b5
          have z6 := cell_regrown b6
          have z7 := cell_regrown b7
          clear b0 b1 b2 b3 b4 b5 b6 b7
          have hne : ((G.length : Int) == (G.length : Int)) = true := beq_self_eq_true _
          have HPUT := Lib.hid (Put.new HA.out.2 HA.out.1 (fun v hv => by rw [List.getElem?_eq_none (Nat.le_refl _)] at hv; cases hv))
          go_wp2_with fail
          refine wp_region_quiet_below (by kernel_rfl) (by kernel_rfl) ?_
          repeat (go_big_quiet_step ((first | (go_at_call 44; exact Calls.regrown_of (TK.out _ _ _)))))
          refine wpQuiet_nil ?_
          intro _ hw'
          obtain ⟨⟨dq, osq⟩, hw''⟩ := hw'
          subst hw''
          have HBQ6 := Lib.hid (below_then HBQ5.out HBQ5.out.size (below_regrown w5 dq osq))
          have HOb := Lib.hid (Kd.R_below HO.out HBQ6.out)
          have HBb := Lib.hid (below_then HB.out HB.out.size HBQ6.out)
          have b0 := z0 dq osq
          have b1 := z1 dq osq
          have b2 := z2 dq osq
          have b3 := z3 dq osq
          have b4 := z4 dq osq
          have b5 := z5 dq osq
          have b6 := z6 dq osq
          have b7 := z7 dq osq
          obtain ⟨wb, hwb⟩ : ∃ wb, wb = Sort.grow (redrawn w5 dq) osq := ⟨_, rfl⟩
          rw [← hwb] at HOb HBb b0 b1 b2 b3 b4 b5 b6 b7 ⊢
          clear hwb z0 z1 z2 z3 z4 z5 z6 z7 HBQ5 HBQ6
          have hgl2 : G.length ≤ 64 := Nat.le_trans (by rw [HGE.out]; exact group_len lv _) (Nat.le_trans (List.length_take_le i l) (by omega))
          have HGL := Lib.hid hgl2
          have hrc := Kd.R_reads' HOb.out
          have Y0 := ad.add (i * 8)
          obtain ⟨Y1, hY1⟩ : ∃ Y1, Y1 = G.take G.length := ⟨_, rfl⟩
          obtain ⟨Y2, hY2⟩ : ∃ Y2, Y2 = G.drop G.length := ⟨_, rfl⟩
          have hl1 : Y1.length = G.length := by rw [hY1, List.length_take]; have := HA.out.1; omega
          have hl2 : Y2.length = G.length - G.length := by rw [hY2, List.length_drop]
          have hc1 : kW.C wb VA Y1.length Y1 := by rw [hY1]; exact Kd.C_take hrc.2.2 HA.out.1
          obtain ⟨A2, hA2⟩ : ∃ A2, A2 = (if vc = G.length then VA else (VA).map (·.add (G.length * 2))) := ⟨_, rfl⟩
          have hc2 : kW.C wb A2 Y2.length Y2 := by rw [hY2, hA2]; exact Kd.C_drop hrc.2.2 HA.out.1 hrc.2.1
          have hcut1 : ∀ W : World, (Instr.slice 80 (.slice VA G.length vc) none (some (.int .i64 (G.length : Int))) none).run Try.prog W = .ok (.slice VA Y1.length vc) W := by
            intro W
            rw [hl1]
            obtain ⟨i0, hi0, _, _, _⟩ := info_parts infoW
            exact cut_to (P := Try.prog) 80 83 .i64 Try.underlying80 hi0 VA G.length vc (G.length : Int) (by omega) (by have := HA.out.1; omega) hrc.2.1 W
          have hcut2 : ∀ W : World, (Instr.slice 80 (.slice VA G.length vc) (some (.int .i64 (G.length : Int))) none none).run Try.prog W = .ok (.slice A2 Y2.length (vc - G.length)) W := by
            intro W
            rw [hl2, hA2]
            obtain ⟨i0, hi0, _, hs0, _⟩ := info_parts infoW
            exact cut_from (P := Try.prog) 80 83 .i64 Try.underlying80 hi0 2 hs0 VA G.length vc (G.length : Int) (by omega) (by have := HA.out.1; omega) W
          have HL1 := Lib.hid hl1
          have HL2 := Lib.hid hl2
          have HY1 := Lib.hid hY1
          have HY2 := Lib.hid hY2
          have HC1 := Lib.hid hc1
          have HC2 := Lib.hid hc2
          have hB0 := Lib.hid (below_drew (Below.refl wb.heap.size wb))
          clear hgl2 hrc Y0 hl1 hl2 hc1 hc2 hY1 hY2 hA2
          go_wp2_with fail
          refine start_ (n := 19) (S := fun w' => Below wb.heap.size wb w') (ds := []) #[false, false, false, false, false, false, false, false, false, false, false, false, false, false, false, false, false, false, false] (by kernel_rfl) rfl rfl hB0.out (fun hHeld => ?_)
          generalize wb.drew = wd at hB0 hHeld ⊢
          refine pure_ (i := 1) (N := some 54) (v := ?_) (a' := ?_) #[false, true, false, false, false, false, false, false, false, false, false, false, false, false, false, false, false, false, false] rfl rfl (by kernel_rfl) (fun _ _ _ h => h) (Or.inl ⟨by rfl, ?_⟩) ?_ ?_
          rotate_left
          · intro w'
            go_simp
            with_reducible rfl
          rotate_left
          · simp only [Act.put, List.setIfInBounds_toArray, List.set_cons_zero, List.set_cons_succ, i64_w, i32_w]
            rfl
          refine pure_ (i := 2) (N := some 55) (v := ?_) (a' := ?_) #[false, true, true, false, false, false, false, false, false, false, false, false, false, false, false, false, false, false, false] rfl rfl (by kernel_rfl) (fun _ _ _ h => h) (Or.inl ⟨by rfl, ?_⟩) ?_ ?_
          rotate_left
          · intro w'
            go_simp
            with_reducible rfl
          rotate_left
          · simp only [Act.put, List.setIfInBounds_toArray, List.set_cons_zero, List.set_cons_succ, i64_w, i32_w]
            rfl
          refine pure_ (i := 3) (N := some 56) (v := ?_) (a' := ?_) #[false, true, true, true, false, false, false, false, false, false, false, false, false, false, false, false, false, false, false] rfl rfl (by kernel_rfl) (fun _ _ _ h => h) (Or.inl ⟨by rfl, ?_⟩) ?_ ?_
          rotate_left
          · intro w'
            go_simp
            with_reducible rfl
          rotate_left
          · simp only [Act.put, List.setIfInBounds_toArray, List.set_cons_zero, List.set_cons_succ, i64_w, i32_w]
            rfl
          refine pure_ (i := 5) (N := some 58) (v := ?_) (a' := ?_) #[false, true, true, true, false, true, false, false, false, false, false, false, false, false, false, false, false, false, false] rfl rfl (by kernel_rfl) (fun _ _ _ h => h) (Or.inl ⟨by rfl, ?_⟩) ?_ ?_
          rotate_left
          · intro w'
            go_simp
            with_reducible rfl
          rotate_left
          · simp only [Act.put, List.setIfInBounds_toArray, List.set_cons_zero, List.set_cons_succ, i64_w, i32_w]
            rfl
          refine pure_ (i := 6) (N := some 59) (v := ?_) (a' := ?_) #[false, true, true, true, false, true, true, false, false, false, false, false, false, false, false, false, false, false, false] rfl rfl (by kernel_rfl) (fun _ _ _ h => h) (Or.inl ⟨by rfl, ?_⟩) ?_ ?_
          rotate_left
          · intro w'
            go_simp
            with_reducible rfl
          rotate_left
          · simp only [Act.put, List.setIfInBounds_toArray, List.set_cons_zero, List.set_cons_succ, i64_w, i32_w]
            rfl
          refine pure_ (i := 7) (N := some 60) (v := ?_) (a' := ?_) #[false, true, true, true, false, true, true, true, false, false, false, false, false, false, false, false, false, false, false] rfl rfl (by kernel_rfl) (fun _ _ _ h => h) (Or.inl ⟨by rfl, ?_⟩) ?_ ?_
          rotate_left
          · intro w'
            go_simp
            with_reducible rfl
          rotate_left
          · simp only [Act.put, List.setIfInBounds_toArray, List.set_cons_zero, List.set_cons_succ, i64_w, i32_w]
            rfl
          refine pure_ (i := 9) (N := some 62) (v := ?_) (a' := ?_) #[false, true, true, true, false, true, true, true, false, true, false, false, false, false, false, false, false, false, false] rfl rfl (by kernel_rfl) (fun _ _ _ h => h) (Or.inl ⟨by rfl, ?_⟩) ?_ ?_
          rotate_left
          · intro w'
            go_simp
            with_reducible rfl
          rotate_left
          · simp only [Act.put, List.setIfInBounds_toArray, List.set_cons_zero, List.set_cons_succ, i64_w, i32_w]
            rfl
          refine pure_ (i := 14) (N := some 67) (v := ?_) (a' := ?_) #[false, true, true, true, false, true, true, true, false, true, false, false, false, false, true, false, false, false, false] rfl rfl (by kernel_rfl) (fun _ _ _ h => h) (Or.inl ⟨by rfl, ?_⟩) ?_ ?_
          rotate_left
          · intro w'
            go_simp
            with_reducible rfl
          rotate_left
          · simp only [Act.put, List.setIfInBounds_toArray, List.set_cons_zero, List.set_cons_succ, i64_w, i32_w]
            rfl
          refine pure_ (i := 15) (N := some 68) (v := ?_) (a' := ?_) #[false, true, true, true, false, true, true, true, false, true, false, false, false, false, true, true, false, false, false] rfl rfl (by kernel_rfl) (fun _ _ _ h => h) (Or.inl ⟨by rfl, ?_⟩) ?_ ?_
          rotate_left
          · intro w'
            go_simp
            with_reducible rfl
          rotate_left
          · simp only [Act.put, List.setIfInBounds_toArray, List.set_cons_zero, List.set_cons_succ, i64_w, i32_w]
            rfl
          refine pure_ (i := 16) (N := some 69) (v := ?_) (a' := ?_) #[false, true, true, true, false, true, true, true, false, true, false, false, false, false, true, true, true, false, false] rfl rfl (by kernel_rfl) (fun _ _ _ h => h) (Or.inl ⟨by rfl, ?_⟩) ?_ ?_
          rotate_left
          · intro w'
            go_simp
            with_reducible rfl
          rotate_left
          · simp only [Act.put, List.setIfInBounds_toArray, List.set_cons_zero, List.set_cons_succ, i64_w, i32_w]
            rfl
          refine take_ (i := 8) (N := some 61) (v := ?_) (a' := ?_) #[false, true, true, true, false, true, true, true, true, true, false, false, false, false, true, true, true, false, false] rfl rfl (by kernel_rfl) (fun _ _ _ h => h) (Or.inl ⟨by rfl, ?_⟩) hHeld ?_ ?_
          rotate_left
          · rintro w' hS
            have y0 := (hS.cell (World.block_lt_of_cell? _ _ b0)).trans b0
            have y1 := (hS.cell (World.block_lt_of_cell? _ _ b1)).trans b1
            have y2 := (hS.cell (World.block_lt_of_cell? _ _ b2)).trans b2
            have y3 := (hS.cell (World.block_lt_of_cell? _ _ b3)).trans b3
            have y4 := (hS.cell (World.block_lt_of_cell? _ _ b4)).trans b4
            have y5 := (hS.cell (World.block_lt_of_cell? _ _ b5)).trans b5
            have y6 := (hS.cell (World.block_lt_of_cell? _ _ b6)).trans b6
            have y7 := (hS.cell (World.block_lt_of_cell? _ _ b7)).trans b7
            go_simp
            with_reducible rfl
          rotate_left
          · simp only [Act.put, List.setIfInBounds_toArray, List.set_cons_zero, List.set_cons_succ, i64_w, i32_w]
            rfl
          refine one_ (i := 0) (N := some 53) #[true, true, true, true, false, true, true, true, true, true, false, false, false, false, true, true, true, false, false] rfl rfl (by kernel_rfl) (by decide) (fun K hK => ?_)
          refine Kd.R_lit_step kW (w0 := wb) wb.heap.size 83 ?hg (N := 53) ?hd (xs := ([] : List Wd)) (inner := []) (ok := fun _ => True) (okp := fun _ => True) ?hr ?hp (fun _ hk => hk) trivial hB0.out hB0.out.size (by simp) ?_; (case hd => rfl); (case hg => rfl); (case hr => first | (go_simp; done) | (go_simp; rfl)); (case hp => exact (Reps.none _ _))
          intro v53 w53 ho hb hg hnew
          have HE1 := Lib.hid ho
          have hB1 := Lib.hid hb
          clear ho hb hg hnew hB0
          refine hK.out _ _ hB1.out (fun hHeld => ?_)
          clear hK K
          refine norm_ (a' := ?_) ?_ ?_
          rotate_left
          · show Act.put _ (some 53) _ = _
            simp only [Act.put, List.setIfInBounds_toArray, List.set_cons_zero, List.set_cons_succ, i64_w, i32_w]
            rfl
          refine one_ (i := 4) (N := some 57) #[true, true, true, true, true, true, true, true, true, true, false, false, false, false, true, true, true, false, false] rfl rfl (by kernel_rfl) (by decide) (fun K hK => ?_)
          refine Kd.R_append_rows_step kW (w0 := wb) wb.heap.size (by rfl) (.tmp 53) (.tmp 56) 80 83 (.agg #[(.int .i64 0), (.int .i64 0)]) 16 rfl Try.underlying80 infoW rfl (by decide) (by omega) v53 [] Y1 _ _ _ (fun _ => True) (fun _ => False) rfl rfl HE1.out (Kd.C_below HC1.out (hB1.out)) (fun y cs hk => by rw [kW_open hk]; exact kW_mkM _ _ _ y) (fun _ h => h.elim) (fun _ _ => trivial) hB1.out hB1.out.size ?aL ?_
          (case aL => have := HL1.out; have := HGL.out; have := HA.out.1; simp only [List.length_nil]; omega)
          intro v57 w57 ho hb hg hat
          rw [List.nil_append] at ho
          have HE2 := Lib.hid ho
          have hB2 := Lib.hid hb
          clear ho hb hg hat hB1 HE1
          refine hK.out _ _ hB2.out (fun hHeld => ?_)
          clear hK K
          refine norm_ (a' := ?_) ?_ ?_
          rotate_left
          · show Act.put _ (some 57) _ = _
            simp only [Act.put, List.setIfInBounds_toArray, List.set_cons_zero, List.set_cons_succ, i64_w, i32_w]
            rfl
          refine one_ (i := 10) (N := some 63) #[true, true, true, true, true, true, true, true, true, true, true, false, false, false, true, true, true, false, false] rfl rfl (by kernel_rfl) (by decide) (fun K hK => ?_)
          refine goes_ Try.func44 (by kernel_rfl) rfl #[.agg #[.int .i64 o.f0, .bool o.f1, .bool o.f2, .int .i64 o.f3, .int .i64 o.f4, .int .i64 o.f5, .int .i64 o.f6, .int .i64 o.f7], .int .i64 lv] (by rfl) rfl rfl (by (try simp only [List.map_toArray, List.map_cons, List.map_nil]); first | done | rfl | (go_simp; done) | (go_simp; rfl)) ?_
          refine (key_calls lv HLV.out o w57).mono ?_
          rintro e w63 ⟨rfl, hb⟩
          refine ⟨_, rfl, ?_⟩
          rw [← HKO.out]
          have hB3 := Lib.hid (below_then hB2.out hB2.out.size hb)
          have HE3 := Lib.hid (Kd.R_below HE2.out hb)
          clear hb hB2 HE2
          refine hK.out _ _ hB3.out (fun hHeld => ?_)
          clear hK K
          refine norm_ (a' := ?_) ?_ ?_
          rotate_left
          · show Act.put _ (some 63) _ = _
            simp only [Act.put, List.setIfInBounds_toArray, List.set_cons_zero, List.set_cons_succ, i64_w, i32_w]
            rfl
          refine pure_ (i := 11) (N := some 64) (v := ?_) (a' := ?_) #[true, true, true, true, true, true, true, true, true, true, true, true, false, false, true, true, true, false, false] rfl rfl (by kernel_rfl) (fun _ _ _ h => h) (Or.inl ⟨by rfl, ?_⟩) ?_ ?_
          rotate_left
          · intro w'
            go_simp
            with_reducible rfl
          rotate_left
          · simp only [Act.put, List.setIfInBounds_toArray, List.set_cons_zero, List.set_cons_succ, i64_w, i32_w]
            rfl
          refine one_ (i := 12) (N := some 65) #[true, true, true, true, true, true, true, true, true, true, true, true, true, false, true, true, true, false, false] rfl rfl (by kernel_rfl) (by decide) (fun K hK => ?_)
          refine value_ (w1 := ?_) (v := ?_) (by rfl) rfl ?_ ?_
          rotate_left 2
          · go_simp
            constructor
            · rfl
            · rfl
          refine hK.out _ _ (below_alloc hB3.out _) (fun hHeld => ?_)
          clear hK K
          refine norm_ (a' := ?_) ?_ ?_
          rotate_left
          · show Act.put _ (some 65) _ = _
            simp only [Act.put, List.setIfInBounds_toArray, List.set_cons_zero, List.set_cons_succ, i64_w, i32_w]
            rfl
          refine one_ (i := 13) (N := some 66) #[true, true, true, true, true, true, true, true, true, true, true, true, true, true, true, true, true, false, false] rfl rfl (by kernel_rfl) (by decide) (fun K hK => ?_)
          refine Kd.R_append_step kW (w0 := wb) wb.heap.size (by rfl) (.tmp 57) (.tmp 65) 80 83 (.agg #[(.int .i64 0), (.int .i64 0)]) 16 rfl Try.underlying80 infoW rfl (by decide) (by omega) v57 Y1 (⟨ko, 0⟩ : Wd) [.int .i64 ko, .int .i64 0] (fun _ => True) (fun _ => False) rfl rfl (kW_mkM _ _ _ (⟨ko, 0⟩ : Wd)) (fun _ hk => hk.elim) (fun _ _ => trivial) HE3.out hB3.out hB3.out.size ?aL ?_
          (case aL => have := HL1.out; have := HGL.out; have := HA.out.1; omega)
          intro v66 w66 ho hb hg hat
          have HE4 := Lib.hid ho
          have hB4 := Lib.hid hb
          clear ho hb hg hat hB3 HE3
          refine hK.out _ _ hB4.out (fun hHeld => ?_)
          clear hK K
          refine norm_ (a' := ?_) ?_ ?_
          rotate_left
          · show Act.put _ (some 66) _ = _
            simp only [Act.put, List.setIfInBounds_toArray, List.set_cons_zero, List.set_cons_succ, i64_w, i32_w]
            rfl
          refine one_ (i := 17) (N := some 70) #[true, true, true, true, true, true, true, true, true, true, true, true, true, true, true, true, true, true, false] rfl rfl (by kernel_rfl) (by decide) (fun K hK => ?_)
          refine Kd.R_append_rows_step kW (w0 := wb) wb.heap.size (by rfl) (.tmp 66) (.tmp 69) 80 83 (.agg #[(.int .i64 0), (.int .i64 0)]) 16 rfl Try.underlying80 infoW rfl (by decide) (by omega) v66 (Y1 ++ [⟨ko, 0⟩]) Y2 _ _ _ (fun _ => True) (fun _ => False) rfl rfl HE4.out (Kd.C_below HC2.out (hB4.out)) (fun y cs hk => by rw [kW_open hk]; exact kW_mkM _ _ _ y) (fun _ h => h.elim) (fun _ _ => trivial) hB4.out hB4.out.size ?aL ?_
          (case aL => have := HL1.out; have := HL2.out; have := HGL.out; have := HA.out.1; simp only [List.length_append, List.length_cons, List.length_nil]; omega)
          intro v70 w70 ho hb hg hat
          have HE5 := Lib.hid ho
          have hB5 := Lib.hid hb
          clear ho hb hg hat hB4 HE4
          refine hK.out _ _ hB5.out (fun hHeld => ?_)
          clear hK K
          refine norm_ (a' := ?_) ?_ ?_
          rotate_left
          · show Act.put _ (some 70) _ = _
            simp only [Act.put, List.setIfInBounds_toArray, List.set_cons_zero, List.set_cons_succ, i64_w, i32_w]
            rfl
          refine pure_ (i := 18) (N := some 5) (v := ?_) (a' := ?_) #[true, true, true, true, true, true, true, true, true, true, true, true, true, true, true, true, true, true, true] rfl rfl (by kernel_rfl) (fun _ _ _ h => h) (Or.inl ⟨by rfl, ?_⟩) ?_ ?_
          rotate_left
          · intro w'
            go_simp
            with_reducible rfl
          rotate_left
          · simp only [Act.put, List.setIfInBounds_toArray, List.set_cons_zero, List.set_cons_succ, i64_w, i32_w]
            rfl
          refine done_ (by kernel_rfl) ?_
          clear hcut1 hcut2 hHeld
          obtain ⟨G1, hG1⟩ : ∃ G1, G1 = G.take G.length ++ [(⟨ko, 0⟩ : Wd)] ++ G.drop G.length := ⟨_, rfl⟩
          have HLEN1 : Hid (G1.length = G.length + 1) := Lib.hid (by rw [hG1]; exact put_len HA.out.1)
          have HE6 : Hid (kW.R 83 w70 wb.heap.size (fun _ => True) v70 G1) := Lib.hid (by rw [hG1, ← HY1.out, ← HY2.out]; exact HE5.out)
          rw [← hG1] at HPUT
          obtain ⟨u, hu⟩ : ∃ u : Wd, u = ⟨ko, 0⟩ := ⟨_, rfl⟩
          have HUQ : Hid (G1[G.length]? = some u) := Lib.hid (by rw [hu]; exact HPUT.out.at_)
          have HID : Hid (u.id = ko) := Lib.hid (by rw [hu])
          have HU0 : Hid (u.wt = 0) := Lib.hid (by rw [hu])
          have HWT : Hid (0 ≤ u.wt ∧ u.wt ≤ l.length * 16777216) := Lib.hid (by rw [HU0.out]; omega)
          rw [← HU0.out] at HPUT
          obtain ⟨g, vc', hv, _⟩ := Kd.R_form HE6.out (by have := HLEN1.out; omega)
          subst hv
          have HAL : Hid (G.length < G1.length) := Lib.hid (by have := HA.out.1; have := HLEN1.out; omega)
          have hla' : decide (G.length < G1.length) = true := decide_eq_true HAL.out
          have p0 : (0 : Int) ≤ G.length := by omega
          have p1 : (G.length : Int) < G1.length := by have := HAL.out; omega
          have HBQ6 := hB5
          have HO6 := Lib.hid (Kd.R_lower HE6.out HBb.out.size)
          have HB6 := Lib.hid (below_then HBb.out HBb.out.size hB5.out)
          replace b2 := (hB5.out.cell (World.block_lt_of_cell? _ _ b2)).trans b2
          replace b3 := (hB5.out.cell (World.block_lt_of_cell? _ _ b3)).trans b3
          obtain ⟨w6, hw6⟩ : ∃ w6, w6 = w70 := ⟨_, rfl⟩
          rw [← hw6] at HO6 HB6 b2 b3 ⊢
          obtain ⟨vc2, hvc2⟩ : ∃ vc2, vc2 = vc' := ⟨_, rfl⟩
          rw [← hvc2] at HO6 ⊢
          clear hw6 hvc2 HE6 HE5 hB5 HC1 HC2 HY1 HY2 HL1 HL2 HOb HBb b0 b1 b4 b5 b6 b7 hG1 hu HBQ6
          cases hin : o.f2 with
          | false =>
            rw [hin] at b2
            have HWO : Hid (wOf o = 0) := Lib.hid (by unfold wOf; rw [hin]; rfl)
            clear hin
            go_wp2_with fail
            go_roundw
            case rel => exact ⟨i + 1, by go_num, Lib.hid (by omega), Lib.hid (by rw [HST.out, HWO.out, ← HGE.out, ← HKO.out, HPUT.out.same]; exact HO6.out), HB6⟩
            case measure => simp only [intOf]; omega
          | true =>
            rw [hin] at b2
            have HWO : Hid (wOf o = o.f3) := Lib.hid (by unfold wOf; rw [hin]; rfl)
            have hf3 : 0 ≤ o.f3 ∧ o.f3 ≤ 16777216 := by rw [← HWO.out]; exact HG.out.wt o (List.mem_of_getElem? HQ.out)
            have hwt : 0 ≤ u.wt ∧ u.wt ≤ l.length * 16777216 := HWT.out
            have kw : IntKind.i64.wrap (u.wt + o.f3) = u.wt + o.f3 := IntWalk.i64_in _ (by omega)
            obtain ⟨ad3, u3, hu3, hA3, c0, c1⟩ := at_W (Kd.R_reads' HO6.out).2.2 G.length HAL.out
            injection hA3 with hA3
            subst hA3
            obtain rfl : u = u3 := Option.some.inj (HUQ.out.symm.trans hu3)
            rw [add_plain] at c0 c1
            have hcells : ∀ (jj : Nat) v, [Value.int .i64 u.id, .int .i64 u.wt][jj]? = some v → w6.cell? ⟨g, (G.length : Int).toNat * kW.sz + jj, none⟩ = some v := by
              intro jj v hv
              rw [show (G.length : Int).toNat * kW.sz + jj = G.length * 2 + jj from rfl]
              match jj, hv with
              | 0, hv => obtain rfl := Option.some.inj hv; exact c0
              | 1, hv => obtain rfl := Option.some.inj hv; exact c1
              | jj + 2, hv => cases hv
            have HCE := Lib.hid hcells
            have y3 := cell_regrown b3
            have y1 := cell_regrown c1
            clear hin hcells hu3 c0 c1 b3 hf3 hwt
            go_wp2_with fail
            clear b2
            refine QT.wp_region_tail 15 (by kernel_rfl) (by kernel_rfl) ?_
            simp only [List.take_succ_cons, List.take_zero, List.drop_succ_cons, List.drop_zero]
            repeat (go_big_quiet_step ((fail)))
            refine wpQuiet_nil ?_
            intro _ hw'
            obtain ⟨⟨dq, osq⟩, hw''⟩ := hw'
            subst hw''
            have HO7 := Lib.hid (Kd.R_below HO6.out (below_regrown w6 dq osq))
            have HB7 := Lib.hid (below_then HB6.out HB6.out.size (below_regrown w6 dq osq))
            have HCE7 : Hid (∀ (jj : Nat) v, [Value.int .i64 u.id, .int .i64 u.wt][jj]? = some v → (Sort.grow (redrawn w6 dq) osq).cell? ⟨g, (G.length : Int).toNat * kW.sz + jj, none⟩ = some v) := Lib.hid (fun jj v hv => cell_regrown (HCE.out jj v hv) dq osq)
            obtain ⟨w7, hw7⟩ : ∃ w7, w7 = Sort.grow (redrawn w6 dq) osq := ⟨_, rfl⟩
            rw [← hw7] at HO7 HB7 HCE7 ⊢
            clear hw7 y1 y3 HO6 HB6 HCE
            go_wp2_with (first | ((with_reducible refine gate_store (t := 3) (p := 90) (v := .tmp 88) rfl ?_); go_must (refine Kd.R_store kW (w0 := w) w.heap.size rfl rfl 3 _ _ rfl 83 (G.length : Int) 1 G1 ⟨u.id, u.wt + o.f3⟩ (.int .i64 (u.wt + o.f3)) [.int .i64 (u.wt + o.f3)] [.int .i64 u.id, .int .i64 u.wt] (fun _ => True) (fun _ => False) rfl rfl rfl rfl (by kernel_rfl) (by simp [Value.oneCell']) HO7.out p0 p1 rfl HCE7.out (by show 1 + 1 ≤ 2; decide) (kW_mkM _ _ _ ⟨u.id, u.wt + o.f3⟩) (fun _ hk => hk.elim) HB7.out ?_; intro w8 ho hb hg; have HO8 := Lib.hid (show kW.R 83 w8 w.heap.size (fun _ => True) (.slice (some ⟨g, 0, none⟩) G1.length vc2) (G1.set G.length ⟨u.id, u.wt + o.f3⟩) from ho); have HB8 := Lib.hid hb; clear ho hb hg HO7 HB7 HCE7)))
            go_roundw
            case rel => exact ⟨i + 1, by go_num, Lib.hid (by omega), Lib.hid (by rw [HST.out, HWO.out, ← HGE.out, ← HKO.out, HPUT.out.ins_, ← HID.out]; exact HO8.out), HB8⟩
            case measure => simp only [intOf]; omega
    · obtain rfl : i = l.length := by omega
      have hlt : decide (l.length < l.length) = false := decide_eq_false (by omega)
      rw [List.take_length] at HO
      go_wp2_with fail
      go_ret
      exact ⟨_, rfl, HO.out, HB.out⟩
end Go.Proofs.Ytnpphmgibgfjoaa.Wgh
/- The document's Choose: who is chosen, place by place. -/
namespace Go.Proofs.Ytnpphmgibgfjoaa.Chr
open Go Go.RowKit Go.Proofs.YtnpphmgibgfjoaaW.PrintWords Go.Proofs.YtnpphmgibgfjoaaW.PrintMore Go.Proofs.YtnpphmgibgfjoaaW.PrintLast Mem PAll KW MixP MixW StrP StrW AtA Srt Grp Sl Dsc AtB Roo Rep Cho MayP Awk Rds WghP Wgh
open CrP hiding Od
abbrev kI : Kd Int := Kd.int .i64
theorem infoI : (Try.prog.info? 3).map (fun i => (i.zero, i.size, i.bytes)) = some (some (.int .i64 0), kI.sz, 8) := by kernel_rfl
/-- Two rows of the call's own, apart. -/
def I2 (w : World) (base : Nat) (u : Value) (xs : List Int) (v : Value) (ys : List Int) : Prop :=
  kI.R 3 w base (fun k => True ∧ some k ≠ v.ownBlock) u xs ∧ kI.R 3 w base (fun k => True ∧ some k ≠ u.ownBlock) v ys
theorem I2.below {w w1 : World} {base : Nat} {u v : Value} {xs ys : List Int} (h : I2 w base u xs v ys) (hb : Below w.heap.size w w1) : I2 w1 base u xs v ys := ⟨Kd.R_below h.1 hb, Kd.R_below h.2 hb⟩
theorem I2.more2 {W w1 : World} {base : Nat} {u v v1 : Value} {xs ys : List Int} (h : I2 W base u xs v ys) {zs : List Int} (hg : W.grownBy w1 v.ownBlock) (hat : v1.ownBlock = v.ownBlock ∨ ∃ b, v1.ownBlock = some b ∧ W.heap.size ≤ b) (hv : kI.R 3 w1 base (fun k => True ∧ some k ≠ u.ownBlock) v1 zs) : I2 w1 base u xs v1 zs :=
  ⟨Kd.R_after h.1 hg hat, hv⟩
theorem I2.more1 {W w1 : World} {base : Nat} {u v u1 : Value} {xs ys : List Int} (h : I2 W base u xs v ys) {zs : List Int} (hg : W.grownBy w1 u.ownBlock) (hat : u1.ownBlock = u.ownBlock ∨ ∃ b, u1.ownBlock = some b ∧ W.heap.size ≤ b) (hu : kI.R 3 w1 base (fun k => True ∧ some k ≠ v.ownBlock) u1 zs) : I2 w1 base u1 zs v ys :=
  ⟨hu, Kd.R_after h.2 hg hat⟩
theorem own_fresh {w : World} {base : Nat} {ok : Nat → Prop} {v : Value} {ys : List Int} (h : kI.R 3 w base ok v ys) : ∀ k, w.heap.size ≤ k → True ∧ some k ≠ v.ownBlock := fun k hk => ⟨trivial, fun e => by have := Kd.R_lt h k e.symm; omega⟩
theorem I2.start (w : World) (base : Nat) (hb : base ≤ w.heap.size) : I2 ((w.alloc (.cells #[] 3)).alloc (.cells #[] 3)) base (.slice (some ⟨w.heap.size, 0, none⟩) 0 0) [] (.slice (some ⟨w.heap.size + 1, 0, none⟩) 0 0) [] := by
  have e : (w.alloc (.cells #[] 3)).heap.size = w.heap.size + 1 := by simp only [World.alloc, Array.size_push]
  have h1 : OwnRow (fun x cs => kI.M w base (fun k => True ∧ some k ≠ (none : Option Nat)) x cs) 3 kI.sz (w.alloc (.cells #[] 3)) base (.slice (some ⟨w.heap.size, 0, none⟩) 0 0) [] := OwnRow.lit w base (ps := []) (inner := []) (Reps.none _ _) hb (Nat.zero_le _)
  have h2 : OwnRow (fun x cs => kI.M w base (fun k => True ∧ some k ≠ (none : Option Nat)) x cs) 3 kI.sz ((w.alloc (.cells #[] 3)).alloc (.cells #[] 3)) base (.slice (some ⟨(w.alloc (.cells #[] 3)).heap.size, 0, none⟩) 0 0) [] := OwnRow.lit _ base (ps := []) (inner := []) (Reps.none _ _) (by rw [e]; omega) (Nat.zero_le _)
  rw [e] at h2
  refine ⟨⟨fun k hk => ⟨trivial, ?_⟩, (h1.below (below_alloc (Below.refl _ _) _)).imp_ (fun _ _ h => h)⟩, ⟨fun k hk => ⟨trivial, ?_⟩, h2.imp_ (fun _ _ h => h)⟩⟩
  · have hk' : w.heap.size = k := by simpa [Value.ownBlock] using hk
    subst hk'
    simp [Value.ownBlock]
  · have hk' : w.heap.size + 1 = k := by simpa [Value.ownBlock] using hk
    subst hk'
    simp [Value.ownBlock]
theorem at_kI {w : World} {base g n cap : Nat} {ok : Nat → Prop} {xs : List Int} (h : kI.R 3 w base ok (.slice (some ⟨g, 0, none⟩) n cap) xs) (i : Nat) (x : Int) (hi : xs[i]? = some x) : w.cell? ⟨g, i, none⟩ = some (.int .i64 x) := by
  have hC := (Kd.R_reads' h).2.2
  have hl : i < xs.length := (List.getElem?_eq_some_iff.1 hi).1
  obtain ⟨ad, e, hc⟩ := hC.2.2 (by omega)
  injection e with e
  subst e
  obtain ⟨cs, _, hK, hcell⟩ := hc i x hi
  have hcs : cs = [.int .i64 x] := hK
  subst hcs
  have := hcell 0 _ rfl
  rw [show i * kI.sz + 0 = i from Nat.mul_one i, add_plain] at this
  exact this
set_option maxHeartbeats 8000000 in
set_option maxRecDepth 100000 in
theorem rChoose_bad (ep k m p d : Int) (A : Option Addr) (c : Nat) (l : List Od) (dm want x : Int) (w : World) (hx : kO.C w A l.length l) (hcap : l.length ≤ c) (hn : choB (mayB ep k m p d l) dm want = false) :
    Calls Try.prog 16 #[.agg (boxM ep k m p d A c l), .agg #[.int .i64 dm, .int .i64 want], .int .u32 x] w fun e w' => e = .returned (.tuple #[.slice none 0 0, .int .i64 1]) ∧ Below w.heap.size w w' := by
  have HBA := Lib.hid (below_alloc (below_alloc (Below.refl w.heap.size w) (.cells (boxM ep k m p d A c l) 26)) (.cells #[.int .i64 dm, .int .i64 want] 28))
  have HC1 := Lib.hid (Kd.C_alloc (Kd.C_alloc hx (.cells (boxM ep k m p d A c l) 26)) (.cells #[.int .i64 dm, .int .i64 want] 28))
  have HU1 : Hid (((w.alloc (.cells (boxM ep k m p d A c l) 26)).alloc (.cells #[.int .i64 dm, .int .i64 want] 28)).heap[w.heap.size + 1]? = some (.cells #[.int .i64 dm, .int .i64 want] 28 (0, 0))) := Lib.hid (by have h := blk_new (w.alloc (.cells (boxM ep k m p d A c l) 26)) (.cells #[.int .i64 dm, .int .i64 want] 28); simp only [World.alloc, Array.size_push] at h ⊢; exact h)
  have T := Lib.hid (may_calls ep k m p d A c l _ HC1.out hcap)
  unfold choB at hn
  obtain ⟨mb, hmb⟩ : ∃ mb, mb = mayB ep k m p d l := ⟨_, rfl⟩
  rw [← hmb] at hn T
  have HN := Lib.hid hn
  clear hx hcap hn hmb
  unfold boxM at *
  cases mb with
  | false =>
    go_enter Try.func16, Try.ntmps16
    go_wp2_with fail
    refine T.out.mono ?_
    rintro e w1 ⟨rfl, hb⟩
    have HB2 := Lib.hid (below_then HBA.out HBA.out.size hb)
    clear hb T
    go_wp2_with fail
    go_ret2
    exact ⟨rfl, HB2.out⟩
  | true =>
    by_cases d0 : dm < 0
    · have b1 : decide (dm < 0) = true := decide_eq_true d0
      clear d0
      go_enter Try.func16, Try.ntmps16
      go_wp2_with fail
      refine T.out.mono ?_
      rintro e w1 ⟨rfl, hb⟩
      have HB2 := Lib.hid (below_then HBA.out HBA.out.size hb)
      have u0 := blk_cell (blk_below HU1.out hb) 0
      have u1 := blk_cell (blk_below HU1.out hb) 1
      clear hb T
      go_wp2_with fail
      go_ret2
      exact ⟨rfl, HB2.out⟩
    · have b1 : decide (dm < 0) = false := decide_eq_false d0
      by_cases d3 : 3 ≤ dm
      · have b2 : decide (3 ≤ dm) = true := decide_eq_true d3
        clear d0 d3
        go_enter Try.func16, Try.ntmps16
        go_wp2_with fail
        refine T.out.mono ?_
        rintro e w1 ⟨rfl, hb⟩
        have HB2 := Lib.hid (below_then HBA.out HBA.out.size hb)
        have u0 := blk_cell (blk_below HU1.out hb) 0
        have u1 := blk_cell (blk_below HU1.out hb) 1
        clear hb T
        go_wp2_with fail
        go_ret2
        exact ⟨rfl, HB2.out⟩
      · have b2 : decide (3 ≤ dm) = false := decide_eq_false d3
        have hdm : domB dm = true := by
          unfold domB
          have : dm = 0 ∨ dm = 1 ∨ dm = 2 := by omega
          rcases this with rfl | rfl | rfl <;> rfl
        have HDM := Lib.hid hdm
        clear d0 d3 hdm
        by_cases h1 : want < 1
        · have b3 : decide (want < 1) = true := decide_eq_true h1
          clear h1
          go_enter Try.func16, Try.ntmps16
          go_wp2_with fail
          refine T.out.mono ?_
          rintro e w1 ⟨rfl, hb⟩
          have HB2 := Lib.hid (below_then HBA.out HBA.out.size hb)
          have u0 := blk_cell (blk_below HU1.out hb) 0
          have u1 := blk_cell (blk_below HU1.out hb) 1
          clear hb T
          go_wp2_with fail
          go_ret2
          exact ⟨rfl, HB2.out⟩
        · have b3 : decide (want < 1) = false := decide_eq_false h1
          have h2 : 32 < want := by
            have e := HN.out
            rw [HDM.out, decide_eq_true (show 1 ≤ want by omega)] at e
            have : ¬ want ≤ 32 := by
              intro h
              rw [decide_eq_true h] at e
              cases e
            omega
          have b4 : decide (32 < want) = true := decide_eq_true h2
          clear h1 h2
          go_enter Try.func16, Try.ntmps16
          go_wp2_with fail
          refine T.out.mono ?_
          rintro e w1 ⟨rfl, hb⟩
          have HB2 := Lib.hid (below_then HBA.out HBA.out.size hb)
          have u0 := blk_cell (blk_below HU1.out hb) 0
          have u1 := blk_cell (blk_below HU1.out hb) 1
          clear hb T
          go_wp2_with fail
          go_ret2
          exact ⟨rfl, HB2.out⟩
set_option linter.unusedSimpArgs false
set_option maxHeartbeats 8000000 in
set_option maxRecDepth 100000 in
theorem rChoose_ok (HWE : Weighs) (ep k m p d : Int) (A : Option Addr) (c : Nat) (l : List Od) (dm x : Int) (n : Nat) (w : World) (hx : kO.C w A l.length l) (hcap : l.length ≤ c) (hm : mayB ep k m p d l = true) (hd : domB dm = true) (h1 : 1 ≤ n) (h2 : n ≤ 32) :
    Calls Try.prog 16 #[.agg (boxM ep k m p d A c l), .agg #[.int .i64 dm, .int .i64 n], .int .u32 x] w fun e w' => ∃ v, e = .returned (.tuple #[v, .int .i64 0]) ∧ kI.R 3 w' w.heap.size (fun _ => True) v (places l x n (domL dm) n 0 []) ∧ Below w.heap.size w w' := by
  have HW := Lib.hid HWE
  have HN1 := Lib.hid h1
  have HN2 := Lib.hid h2
  have HGL := Lib.hid (may_goodL hm)
  have HOI : Hid (∀ o ∈ l, 0 ≤ o.f0) := Lib.hid (fun o ho => (osd_ranges (may_osd hm o ho)).1.1)
  have HBA := Lib.hid (below_alloc (below_alloc (Below.refl w.heap.size w) (.cells (boxM ep k m p d A c l) 26)) (.cells #[.int .i64 dm, .int .i64 n] 28))
  have HC1 := Lib.hid (Kd.C_alloc (Kd.C_alloc hx (.cells (boxM ep k m p d A c l) 26)) (.cells #[.int .i64 dm, .int .i64 n] 28))
  have HM1 : Hid (((w.alloc (.cells (boxM ep k m p d A c l) 26)).alloc (.cells #[.int .i64 dm, .int .i64 n] 28)).heap[w.heap.size]? = some (.cells (boxM ep k m p d A c l) 26 (0, 0))) := Lib.hid (blk_below (blk_new _ _) (below_alloc (Below.refl _ _) _))
  have HU1 : Hid (((w.alloc (.cells (boxM ep k m p d A c l) 26)).alloc (.cells #[.int .i64 dm, .int .i64 n] 28)).heap[w.heap.size + 1]? = some (.cells #[.int .i64 dm, .int .i64 n] 28 (0, 0))) := Lib.hid (by have h := blk_new (w.alloc (.cells (boxM ep k m p d A c l) 26)) (.cells #[.int .i64 dm, .int .i64 n] 28); simp only [World.alloc, Array.size_push] at h ⊢; exact h)
  have T := Lib.hid (may_calls ep k m p d A c l _ HC1.out hcap)
  rw [hm] at T
  obtain ⟨lv, hlv⟩ : ∃ lv, lv = domL dm := ⟨_, rfl⟩
  have HLV : Hid (lv = 1 ∨ lv = 2 ∨ lv = 3) := Lib.hid (by rw [hlv]; exact domL_any dm)
  have HLVD := Lib.hid hlv
  rw [← hlv]
  have hdr : 0 ≤ dm ∧ dm ≤ 2 := by
    unfold domB at hd
    simp only [Bool.or_eq_true, beq_iff_eq] at hd
    omega
  have b1 : decide (dm < 0) = false := decide_eq_false (by omega)
  have b2 : decide (3 ≤ dm) = false := decide_eq_false (by omega)
  have b3 : decide ((n : Int) < 1) = false := decide_eq_false (by omega)
  have b4 : decide ((32 : Int) < (n : Int)) = false := decide_eq_false (by omega)
  clear hx hcap hm hd h1 h2 hlv hdr HWE
  unfold boxM at *
  go_enter Try.func16, Try.ntmps16
  go_wp2_with fail
  refine T.out.mono ?_
  rintro e w1 ⟨rfl, hb⟩
  have HB2 := Lib.hid (below_then HBA.out HBA.out.size hb)
  have HC2 := Lib.hid (Kd.C_below HC1.out hb)
  have HM2 := Lib.hid (blk_below HM1.out hb)
  have HU2 := Lib.hid (blk_below HU1.out hb)
  have u0 := blk_cell (blk_below HU1.out hb) 0
  have u1 := blk_cell (blk_below HU1.out hb) 1
  clear hb T HBA HC1 HM1 HU1
  have HI0 := Lib.hid (I2.start w1 w1.heap.size (Nat.le_refl _))
  have HB0 := Lib.hid (below_alloc (below_alloc (Below.refl w1.heap.size w1) (.cells #[] 3)) (.cells #[] 3))
  go_wp2_with fail
  clear u0 u1 b1 b2 b3 b4
  go_loopw [8, 9, 10] (fun v8 v9 p' wr => ∃ (pl : Nat) (outs tk taken : List Int), p' = .int .i64 pl ∧ Hid (Cho l x n lv n pl outs taken) ∧ Hid ((∀ v, v ∈ tk ↔ v ∈ taken) ∧ tk.length ≤ pl) ∧ Hid (I2 wr w1.heap.size v8 outs v9 tk) ∧ Hid (Below w1.heap.size w1 wr)) (fun _ _ p' _ => (n - intOf p').toNat)
  case atStart => exact ⟨0, [], [], [], rfl, Lib.hid (Cho.start _ _ _ _ _), Lib.hid ⟨fun _ => Iff.rfl, Nat.le_refl _⟩, HI0, HB0⟩
  case round =>
    obtain ⟨pl, outs, tk, taken, rfl, HCH, HMM, HI, HBO⟩ := hrel
    clear HI0 HB0
    have hpn := HCH.out.hp
    have HLE := Lib.hid HCH.out.len
    have u1 := blk_cell (blk_below HU2.out HBO.out) 1
    by_cases h : pl < n
    · have hlt : decide ((pl : Int) < (n : Int)) = true := decide_eq_true (by omega)
      have hlt2 : decide (pl < n) = true := decide_eq_true h
      have HPN := Lib.hid h
      have hpl32 : pl ≤ 31 := by have := HN2.out; omega
      go_wp2_with fail
      clear u1 h
      go_loopw [9, 11, 12] (fun v9' who' t' wq => ∃ (t : Nat) (wv : Int) (tk2 : List Int), who' = .int .i64 wv ∧ t' = .int .i64 t ∧ Hid (t ≤ 50) ∧ Hid ((wv = -1 ∧ tk2 = tk ∧ tries l x n pl lv taken (50 - t) t = tries l x n pl lv taken 50 0) ∨ (∃ o : Od, 0 ≤ wv ∧ wv = o.f0 ∧ tk2 = tk ++ [keyN lv o] ∧ tries l x n pl lv taken 50 0 = some o)) ∧ Hid (I2 wq w1.heap.size u8 outs v9' tk2) ∧ Hid (Below w1.heap.size w1 wq)) (fun _ _ t' _ => (50 - intOf t').toNat)
      case atStart => exact ⟨0, -1, tk, rfl, rfl, Lib.hid (by omega), Lib.hid (.inl ⟨rfl, rfl, rfl⟩), HI, HBO⟩
      case round =>
        clear HI HBO
        obtain ⟨t, wv, tk2, rfl, rfl, HT, HS, HI, HBQ⟩ := hrel
        have ht50 := HT.out
        have hexit : ¬ (t < 50 ∧ wv = -1) → ∃ taken2, Cho l x n lv n (pl + 1) (outs ++ [wv]) taken2 ∧ (∀ v, v ∈ tk2 ↔ v ∈ taken2) ∧ tk2.length ≤ pl + 1 := by
          intro hn
          rcases HS.out with ⟨e1, e2, e3⟩ | ⟨o, e0, e1, e2, e3⟩
          · obtain rfl : t = 50 := by omega
            subst e2
            rw [e1]
            exact ⟨taken, HCH.out.none HPN.out e3.symm, HMM.out.1, by have := HMM.out.2; omega⟩
          · subst e2
            rw [e1]
            refine ⟨keyN lv o :: taken, HCH.out.some HPN.out e3, fun v => ?_, by rw [List.length_append]; have := HMM.out.2; simp only [List.length_cons, List.length_nil]; omega⟩
            rw [List.mem_append, List.mem_singleton, List.mem_cons, HMM.out.1 v]
            exact Or.comm
        by_cases hq : t < 50 ∧ wv = -1
        · clear hexit
          obtain ⟨hq1, rfl⟩ := hq
          have HTT : Hid (tk2 = tk ∧ tries l x n pl lv taken (50 - t) t = tries l x n pl lv taken 50 0) := Lib.hid (by
            rcases HS.out with ⟨_, e2, e3⟩ | ⟨o, e0, _⟩
            · exact ⟨e2, e3⟩
            · omega)
          clear HS
          obtain rfl : tk2 = tk := HTT.out.1
          have hl3 : decide ((t : Int) < 50) = true := decide_eq_true (by omega)
          have m5 := blk_cell (blk_below HM2.out HBQ.out) 5
          have u1 := blk_cell (blk_below HU2.out HBQ.out) 1
          obtain ⟨tn, htn⟩ : ∃ tn : Nat, tn = t * n := ⟨_, rfl⟩
          have htn2 : tn ≤ 1600 := by rw [htn]; exact Nat.le_trans (Nat.mul_le_mul (show t ≤ 50 by omega) HN2.out) (by decide)
          have k1 : IntKind.i64.wrap ((t : Int) * (n : Int)) = (tn : Int) := by
            rw [show ((t : Int) * (n : Int)) = (tn : Int) by rw [htn]; exact (Int.natCast_mul t n).symm]
            exact IntWalk.i64_in _ (by omega)
          have k2 : IntKind.i64.wrap ((pl : Int) + (tn : Int)) = (pl : Int) + tn := IntWalk.i64_in _ (by omega)
          have k3 : IntKind.u32.wrap ((pl : Int) + (tn : Int)) = (pl : Int) + tn := by rw [IntKind.wrap_u32]; omega
          have T := Lib.hid (rdescend_calls HW.out A c l x ((pl : Int) + tn) wr (Kd.C_below HC2.out HBQ.out) HGL.out)
          have HTR : Hid (tries l x n pl lv taken (50 - t) t = match desc x ((pl : Int) + tn) l with | some o => (if keyN lv o ∈ taken then tries l x n pl lv taken (50 - (t + 1)) (t + 1) else some o) | none => tries l x n pl lv taken (50 - (t + 1)) (t + 1)) := Lib.hid (by
            rw [show 50 - t = (50 - (t + 1)) + 1 by omega]
            rw [show ((pl : Int) + tn) = (pl : Int) + (t : Nat) * (n : Int) by rw [htn, Int.natCast_mul]]
            rfl)
          have HT50 := Lib.hid hq1
          clear htn htn2 hq1
          go_wp2_with fail
          refine T.out.mono ?_
          rintro e w5 ⟨rfl, hb⟩
          have HB5 := Lib.hid (below_then HBQ.out HBQ.out.size hb)
          have HI5 := Lib.hid (HI.out.below hb)
          clear hb T m5 u1 k1 k2 k3 HBQ HI
          cases hd : desc x ((pl : Int) + tn) l with
          | none =>
            rw [hd] at HTR
            unfold descV zeroA
            clear hd
            have HB6 := Lib.hid (below_alloc HB5.out (.cells #[.int .i64 0, .bool false, .bool false, .int .i64 0, .int .i64 0, .int .i64 0, .int .i64 0, .int .i64 0] 40))
            have HI6 := Lib.hid (HI5.out.below (below_alloc (Below.refl _ _) (.cells #[.int .i64 0, .bool false, .bool false, .int .i64 0, .int .i64 0, .int .i64 0, .int .i64 0, .int .i64 0] 40)))
            go_wp2_with fail
            go_roundw
            case rel => exact ⟨t + 1, -1, tk2, rfl, by go_num, Lib.hid HT50.out, Lib.hid (.inl ⟨rfl, rfl, HTR.out.symm.trans HTT.out.2⟩), HI6, HB6⟩
            case measure => have := HT50.out; simp only [intOf]; omega
          | some o =>
            rw [hd] at HTR
            have HTR2 : Hid (tries l x n pl lv taken (50 - t) t = if keyN lv o ∈ taken then tries l x n pl lv taken (50 - (t + 1)) (t + 1) else some o) := Lib.hid HTR.out
            clear HTR
            unfold descV
            have HO0 := Lib.hid (HOI.out o (desc_mem hd))
            clear hd
            obtain ⟨ko, hko⟩ : ∃ ko, ko = keyN lv o := ⟨_, rfl⟩
            have HKO := Lib.hid hko
            rw [← hko] at HTR2
            clear hko
            have HB6 := Lib.hid (below_alloc HB5.out (.cells (aggO o) 40))
            have HI6 := Lib.hid (HI5.out.below (below_alloc (Below.refl _ _) (.cells (aggO o) 40)))
            have HQ6 : Hid ((w5.alloc (.cells (aggO o) 40)).heap[w5.heap.size]? = some (.cells (aggO o) 40 (0, 0))) := Lib.hid (blk_new _ _)
            obtain ⟨TA, tc, hv9⟩ := Kd.R_slice HI6.out.2
            subst hv9
            have HTL : Hid (tk2.length ≤ pl) := Lib.hid HMM.out.2
            have htlm : tk2.length ≤ 31 := by have := HTL.out; omega
            go_wp2_with fail
            obtain ⟨w6, hw6⟩ : ∃ w6, w6 = w5.alloc (.cells (aggO o) 40) := ⟨_, rfl⟩
            rw [← hw6] at HB6 HI6 HQ6 ⊢
            obtain ⟨q, hq⟩ : ∃ q, q = w5.heap.size := ⟨_, rfl⟩
            rw [← hq] at HQ6 ⊢
            clear hw6 hq HB5 HI5
            have HBF0 := Lib.hid (Below.refl w6.heap.size w6)
            go_loopw [15, 16] (fun f' i' wz => ∃ i : Nat, f' = .bool (decide (ko ∉ tk2.take i)) ∧ i' = .int .i64 i ∧ Hid (i ≤ tk2.length) ∧ Hid (Below w6.heap.size w6 wz)) (fun _ i' _ => (tk2.length - intOf i').toNat)
            case atStart => exact ⟨0, by simp, rfl, Lib.hid (Nat.zero_le _), HBF0⟩
            case round =>
              obtain ⟨i, rfl, rfl, HJ, HBF⟩ := hrel
              clear HBF0
              have hj := HJ.out
              by_cases hi : i < tk2.length
              · have hli : decide (i < tk2.length) = true := decide_eq_true hi
                have i0 : (0 : Int) ≤ i := by omega
                have i1 : (i : Int) < tk2.length := by omega
                obtain ⟨fb, hfb⟩ : ∃ fb, fb = decide (ko ∉ tk2.take i) := ⟨_, rfl⟩
                rw [← hfb]
                have HFB := Lib.hid hfb
                obtain ⟨kx, hkx⟩ : ∃ kx, tk2[i]? = some kx := ⟨tk2[i], List.getElem?_eq_getElem hi⟩
                have HTK : Hid (tk2.take (i + 1) = tk2.take i ++ [kx]) := Lib.hid (by rw [List.take_succ_eq_append_getElem hi, (List.getElem?_eq_some_iff.1 hkx).2])
                have HJL := Lib.hid hi
                obtain ⟨tg, tcap, hvt, _⟩ := Kd.R_form HI6.out.2 (by omega)
                have hva : TA = some ⟨tg, 0, none⟩ := by injection hvt
                clear hvt
                subst hva
                have HIZ := HI6.out.below HBF.out
                have zk := cell_regrown (at_kI HIZ.2 i kx hkx)
                have zu := cell_regrown (blk_cell (blk_below (blk_below HU2.out HB6.out) HBF.out) 0)
                have HQZ := blk_below HQ6.out HBF.out
                obtain ⟨y0, y1, y2, y3, y4, y5, y6, y7⟩ := blkO HQZ
                have z0 := cell_regrown y0
                have z1 := cell_regrown y1
                have z2 := cell_regrown y2
                have z3 := cell_regrown y3
                have z4 := cell_regrown y4
                have z5 := cell_regrown y5
                have z6 := cell_regrown y6
                have z7 := cell_regrown y7
                have TD : Hid (∀ dd os, Calls Try.prog 45 #[.int .i64 dm] (Sort.grow (redrawn wr dd) os) fun e w' => e = .returned (.int .i64 (lv : Nat)) ∧ Below (Sort.grow (redrawn wr dd) os).heap.size (Sort.grow (redrawn wr dd) os) w') := Lib.hid (fun dd os => by rw [HLVD.out]; exact domain_calls dm _)
                have TK : Hid (∀ dd os, Calls Try.prog 44 #[.agg (aggO o), .int .i64 (lv : Nat)] (Sort.grow (redrawn wr dd) os) fun e w' => e = .returned (.int .i64 ko) ∧ Below (Sort.grow (redrawn wr dd) os).heap.size (Sort.grow (redrawn wr dd) os) w') := Lib.hid (fun dd os => by rw [HKO.out]; exact key_calls lv HLV.out o _)
                clear hfb hkx hi y0 y1 y2 y3 y4 y5 y6 y7 HIZ HQZ
                cases fb with
                | true =>
                  go_wp2_with fail
                  refine wp_region_quiet_below (by kernel_rfl) (by kernel_rfl) ?_
                  repeat (go_big_quiet_step ((first | (go_at_call 45; exact Calls.regrown_of (TD.out _ _)) | (go_at_call 44; exact Calls.regrown_of (TK.out _ _)))))
                  refine wpQuiet_nil ?_
                  intro _ hw'
                  obtain ⟨⟨dq, osq⟩, hw''⟩ := hw'
                  subst hw''
                  have HBF5 := Lib.hid (below_then HBF.out HBF.out.size (below_regrown wr dq osq))
                  go_wp2_with fail
                  go_roundw
                  case rel =>
                    refine ⟨i + 1, ?_, by go_num, Lib.hid (by have := HJL.out; omega), HBF5⟩
                    refine congrArg Value.bool ?_
                    have h1 := of_decide_eq_true HFB.out.symm
                    rw [HTK.out]
                    cases hk : (kx != ko) with
                    | true => exact (decide_eq_true (by rw [List.mem_append, List.mem_singleton]; rintro (h | h); exact h1 h; exact (bne_iff_ne.1 hk) h.symm)).symm
                    | false => exact (decide_eq_false (by rw [List.mem_append, List.mem_singleton]; intro h; exact h (.inr (by have := bne_eq_false_iff_eq.1 hk; exact this.symm)))).symm
                  case measure => have := HJL.out; simp only [intOf]; omega
                | false =>
                  go_wp2_with fail
                  refine wp_region_quiet_below (by kernel_rfl) (by kernel_rfl) ?_
                  repeat (go_big_quiet_step ((fail)))
                  refine wpQuiet_nil ?_
                  intro _ hw'
                  obtain ⟨⟨dq, osq⟩, hw''⟩ := hw'
                  subst hw''
                  have HBF5 := Lib.hid (below_then HBF.out HBF.out.size (below_regrown wr dq osq))
                  go_wp2_with fail
                  go_roundw
                  case rel =>
                    refine ⟨i + 1, ?_, by go_num, Lib.hid (by have := HJL.out; omega), HBF5⟩
                    refine congrArg Value.bool ?_
                    have h1 := of_decide_eq_false HFB.out.symm
                    rw [HTK.out]
                    exact (decide_eq_false (fun h => h1 (fun h2 => h (List.mem_append_left _ h2)))).symm
                  case measure => have := HJL.out; simp only [intOf]; omega
              · obtain rfl : i = tk2.length := by omega
                have hli : decide (tk2.length < tk2.length) = false := decide_eq_false (by omega)
                rw [List.take_length]
                clear hi
                have HBZ := Lib.hid (below_then HB6.out HB6.out.size HBF.out)
                have HIZ := Lib.hid (HI6.out.below HBF.out)
                have HQZ := Lib.hid (blk_below HQ6.out HBF.out)
                by_cases hin : ko ∈ tk2
                · have hd : decide (ko ∉ tk2) = false := decide_eq_false (fun h => h hin)
                  have HIN : Hid (ko ∈ taken) := Lib.hid ((HMM.out.1 ko).1 hin)
                  rw [hd]
                  clear hin hd
                  go_wp2_with fail
                  go_roundw
                  case rel =>
                    have e := HTR2.out
                    rw [if_pos HIN.out] at e
                    exact ⟨t + 1, -1, tk2, rfl, by go_num, Lib.hid HT50.out, Lib.hid (.inl ⟨rfl, rfl, e.symm.trans HTT.out.2⟩), HIZ, HBZ⟩
                  case measure => have := HT50.out; simp only [intOf]; omega
                · have hd : decide (ko ∉ tk2) = true := decide_eq_true hin
                  have HIN : Hid (ko ∉ taken) := Lib.hid (fun h => hin ((HMM.out.1 ko).2 h))
                  rw [hd]
                  clear hin hd
                  obtain ⟨b0, b1, b2, b3, b4, b5, b6, b7⟩ := blkO HQZ.out
                  have bu := blk_cell (blk_below HU2.out HBZ.out) 0
                  have hB0 := Lib.hid (below_drew (Below.refl wr.heap.size wr))
                  go_wp2_with fail
                  refine start_ (n := 9) (S := fun w' => Below wr.heap.size wr w') (ds := [7]) #[false, false, false, false, false, false, false, false, false] (by kernel_rfl) rfl rfl hB0.out (fun hHeld => ?_)
                  generalize wr.drew = wd at hB0 hHeld ⊢
                  refine pure_ (i := 0) (N := some 94) (v := ?_) (a' := ?_) #[true, false, false, false, false, false, false, false, false] rfl rfl (by kernel_rfl) (fun _ _ _ h => h) (Or.inl ⟨by rfl, ?_⟩) ?_ ?_
                  rotate_left
                  · intro w'
                    go_simp
                    with_reducible rfl
                  rotate_left
                  · simp only [Act.put, List.setIfInBounds_toArray, List.set_cons_zero, List.set_cons_succ, i64_w, i32_w]
                    rfl
                  refine pure_ (i := 2) (N := some 96) (v := ?_) (a' := ?_) #[true, false, true, false, false, false, false, false, false] rfl rfl (by kernel_rfl) (fun _ _ _ h => h) (Or.inl ⟨by rfl, ?_⟩) ?_ ?_
                  rotate_left
                  · intro w'
                    go_simp
                    with_reducible rfl
                  rotate_left
                  · simp only [Act.put, List.setIfInBounds_toArray, List.set_cons_zero, List.set_cons_succ, i64_w, i32_w]
                    rfl
                  refine take_ (i := 1) (N := some 95) (v := ?_) (a' := ?_) #[true, true, true, false, false, false, false, false, false] rfl rfl (by kernel_rfl) (fun _ _ _ h => h) (Or.inl ⟨by rfl, ?_⟩) hHeld ?_ ?_
                  rotate_left
                  · rintro w' hS
                    have y0 := (hS.cell (World.block_lt_of_cell? _ _ b0)).trans b0
                    have y1 := (hS.cell (World.block_lt_of_cell? _ _ b1)).trans b1
                    have y2 := (hS.cell (World.block_lt_of_cell? _ _ b2)).trans b2
                    have y3 := (hS.cell (World.block_lt_of_cell? _ _ b3)).trans b3
                    have y4 := (hS.cell (World.block_lt_of_cell? _ _ b4)).trans b4
                    have y5 := (hS.cell (World.block_lt_of_cell? _ _ b5)).trans b5
                    have y6 := (hS.cell (World.block_lt_of_cell? _ _ b6)).trans b6
                    have y7 := (hS.cell (World.block_lt_of_cell? _ _ b7)).trans b7
                    go_simp
                    with_reducible rfl
                  rotate_left
                  · simp only [Act.put, List.setIfInBounds_toArray, List.set_cons_zero, List.set_cons_succ, i64_w, i32_w]
                    rfl
                  refine take_ (i := 3) (N := some 97) (v := ?_) (a' := ?_) #[true, true, true, true, false, false, false, false, false] rfl rfl (by kernel_rfl) (fun _ _ _ h => h) (Or.inl ⟨by rfl, ?_⟩) hHeld ?_ ?_
                  rotate_left
                  · rintro w' hS
                    have y8 := (hS.cell (World.block_lt_of_cell? _ _ bu)).trans bu
                    go_simp
                    with_reducible rfl
                  rotate_left
                  · simp only [Act.put, List.setIfInBounds_toArray, List.set_cons_zero, List.set_cons_succ, i64_w, i32_w]
                    rfl
                  refine one_ (i := 4) (N := some 98) #[true, true, true, true, true, false, false, false, false] rfl rfl (by kernel_rfl) (by decide) (fun K hK => ?_)
                  refine goes_ Try.func45 (by kernel_rfl) rfl #[.int .i64 dm] (by rfl) rfl rfl (by (try simp only [List.map_toArray, List.map_cons, List.map_nil]); first | done | rfl | (go_simp; done) | (go_simp; rfl)) ?_
                  refine (domain_calls dm _).mono ?_
                  rintro e w98 ⟨rfl, hb⟩
                  refine ⟨_, rfl, ?_⟩
                  rw [← HLVD.out]
                  have hB1 := Lib.hid (below_then hB0.out hB0.out.size hb)
                  clear hb hB0
                  refine hK.out _ _ hB1.out (fun hHeld => ?_)
                  clear hK K
                  refine norm_ (a' := ?_) ?_ ?_
                  rotate_left
                  · show Act.put _ (some 98) _ = _
                    simp only [Act.put, List.setIfInBounds_toArray, List.set_cons_zero, List.set_cons_succ, i64_w, i32_w]
                    rfl
                  refine one_ (i := 5) (N := some 99) #[true, true, true, true, true, true, false, false, false] rfl rfl (by kernel_rfl) (by decide) (fun K hK => ?_)
                  refine goes_ Try.func44 (by kernel_rfl) rfl #[.agg #[.int .i64 o.f0, .bool o.f1, .bool o.f2, .int .i64 o.f3, .int .i64 o.f4, .int .i64 o.f5, .int .i64 o.f6, .int .i64 o.f7], .int .i64 (lv : Nat)] (by rfl) rfl rfl (by (try simp only [List.map_toArray, List.map_cons, List.map_nil]); first | done | rfl | (go_simp; done) | (go_simp; rfl)) ?_
                  refine (key_calls lv HLV.out o _).mono ?_
                  rintro e w99 ⟨rfl, hb⟩
                  refine ⟨_, rfl, ?_⟩
                  rw [← HKO.out]
                  have hB2 := Lib.hid (below_then hB1.out hB1.out.size hb)
                  clear hb hB1
                  refine hK.out _ _ hB2.out (fun hHeld => ?_)
                  clear hK K
                  refine norm_ (a' := ?_) ?_ ?_
                  rotate_left
                  · show Act.put _ (some 99) _ = _
                    simp only [Act.put, List.setIfInBounds_toArray, List.set_cons_zero, List.set_cons_succ, i64_w, i32_w]
                    rfl
                  refine one_ (i := 6) (N := some 100) #[true, true, true, true, true, true, true, false, false] rfl rfl (by kernel_rfl) (by decide) (fun K hK => ?_)
                  refine value_ (w1 := ?_) (v := ?_) (by rfl) rfl ?_ ?_
                  rotate_left 2
                  · go_simp
                    constructor
                    · rfl
                    · rfl
                  refine hK.out _ _ (below_alloc hB2.out _) (fun hHeld => ?_)
                  clear hK K
                  refine norm_ (a' := ?_) ?_ ?_
                  rotate_left
                  · show Act.put _ (some 100) _ = _
                    simp only [Act.put, List.setIfInBounds_toArray, List.set_cons_zero, List.set_cons_succ, i64_w, i32_w]
                    rfl
                  have HI5 := Lib.hid (HIZ.out.below hB2.out)
                  have hBB := Lib.hid (below_then HBZ.out HBZ.out.size hB2.out)
                  refine last_ (i := 7) (N := some 101) #[true, true, true, true, true, true, true, true, false] rfl rfl (by kernel_rfl) (by decide) (fun K hK => ?_)
                  refine Kd.R_append_step kI (w0 := w1) w1.heap.size (by rfl) (.tmp 94) (.tmp 100) 33 3 (.int .i64 0) 8 rfl Try.underlying33 infoI rfl (by decide) (by omega) (.slice (TA) tk2.length tc) tk2 ko [.int .i64 ko] (fun k => True ∧ some k ≠ u8.ownBlock) (fun _ => False) rfl rfl rfl (fun _ hk => hk.elim) (own_fresh HI5.out.1) HI5.out.2 hBB.out hBB.out.size ?aL ?_
                  (case aL => have := HTL.out; have := HPN.out; have := HN2.out; omega)
                  intro v101 w101 ho hb hg hat
                  have HI9 := Lib.hid (HI5.out.more2 hg hat ho)
                  have HB9 := Lib.hid hb
                  clear ho hb hg hat hB2 HI5 hBB
                  refine hK.out _ _ ?_
                  clear hK K
                  refine norm_ (a' := ?_) ?_ ?_
                  rotate_left
                  · show Act.put _ (some 101) _ = _
                    simp only [Act.put, List.setIfInBounds_toArray, List.set_cons_zero, List.set_cons_succ, i64_w, i32_w]
                    rfl
                  refine pure_ (i := 8) (N := some 9) (v := ?_) (a' := ?_) #[true, true, true, true, true, true, true, true, true] rfl rfl (by kernel_rfl) (fun _ _ _ h => h) (Or.inl ⟨by rfl, ?_⟩) ?_ ?_
                  rotate_left
                  · intro w'
                    go_simp
                    with_reducible rfl
                  rotate_left
                  · simp only [Act.put, List.setIfInBounds_toArray, List.set_cons_zero, List.set_cons_succ, i64_w, i32_w]
                    rfl
                  refine done_ (by kernel_rfl) ?_
                  go_wp2_with fail
                  go_roundw
                  case rel =>
                    have e := HTR2.out
                    rw [if_neg HIN.out] at e
                    exact ⟨t + 1, o.f0, tk2 ++ [ko], rfl, by go_num, Lib.hid HT50.out, Lib.hid (.inr ⟨o, HO0.out, rfl, by rw [← HKO.out], HTT.out.2.symm.trans e⟩), HI9, HB9⟩
                  case measure => have := HT50.out; simp only [intOf]; omega
        · obtain ⟨taken2, h1, h2, h3⟩ := hexit hq
          have HCH2 := Lib.hid h1
          have HMM2 := Lib.hid (And.intro h2 h3)
          clear hexit h1 h2 h3
          by_cases hq1 : t < 50
          · have hl3 : decide ((t : Int) < 50) = true := decide_eq_true (by omega)
            have hl4 : (wv == -1) = false := beq_eq_false_iff_ne.2 (fun e => hq ⟨hq1, e⟩)
            clear hq hq1 HS
            go_wp2_with (first | (at_builtin; go_must (refine Kd.R_append kI (w0 := w1) w1.heap.size rfl _ _ 33 3 (.int .i64 0) 8 rfl Try.underlying33 infoI rfl (by decide) (by decide) _ _ wv [.int .i64 wv] (fun k => True ∧ some k ≠ u9.ownBlock) (fun _ => False) rfl rfl rfl (fun _ hk => hk.elim) (own_fresh (by exact HI.out.2)) (by exact HI.out.1) (by exact HBQ.out) (by exact HBQ.out.size) ?hl ?_; (case hl => have := HLE.out; have := HPN.out; have := HN2.out; omega); intro v2 w6 ho hb hg hat; have HI6 := Lib.hid (HI.out.more1 hg hat ho); have HB6 := Lib.hid hb; clear ho hb hg hat HI HBQ)))
            go_roundw
            case rel => exact ⟨pl + 1, outs ++ [wv], tk2, taken2, by go_num, HCH2, HMM2, HI6, HB6⟩
            case measure => have := HPN.out; simp only [intOf]; omega
          · have hl3 : decide ((t : Int) < 50) = false := decide_eq_false (by omega)
            clear hq hq1 HS
            go_wp2_with (first | (at_builtin; go_must (refine Kd.R_append kI (w0 := w1) w1.heap.size rfl _ _ 33 3 (.int .i64 0) 8 rfl Try.underlying33 infoI rfl (by decide) (by decide) _ _ wv [.int .i64 wv] (fun k => True ∧ some k ≠ u9.ownBlock) (fun _ => False) rfl rfl rfl (fun _ hk => hk.elim) (own_fresh (by exact HI.out.2)) (by exact HI.out.1) (by exact HBQ.out) (by exact HBQ.out.size) ?hl ?_; (case hl => have := HLE.out; have := HPN.out; have := HN2.out; omega); intro v2 w6 ho hb hg hat; have HI6 := Lib.hid (HI.out.more1 hg hat ho); have HB6 := Lib.hid hb; clear ho hb hg hat HI HBQ)))
            go_roundw
            case rel => exact ⟨pl + 1, outs ++ [wv], tk2, taken2, by go_num, HCH2, HMM2, HI6, HB6⟩
            case measure => have := HPN.out; simp only [intOf]; omega
    · obtain rfl : pl = n := by omega
      have hlt : decide ((pl : Int) < (pl : Int)) = false := decide_eq_false (by omega)
      have hlt2 : decide (pl < pl) = false := decide_eq_false (by omega)
      go_wp2_with fail
      go_ret2
      have e := HCH.out.all
      rw [Nat.sub_self] at e
      simp only [places, List.append_nil] at e
      refine ⟨_, rfl, ?_, below_then HB2.out HB2.out.size HBO.out⟩
      rw [← e]
      exact Kd.R_lower (Kd.R_mono HI.out.1 (fun _ _ => trivial)) HB2.out.size
theorem rChoose_calls (HWE : Weighs) (ep k m p d : Int) (A : Option Addr) (c : Nat) (l : List Od) (dm want x : Int) (w : World) (hx : kO.C w A l.length l) (hcap : l.length ≤ c) :
    Calls Try.prog 16 #[.agg (boxM ep k m p d A c l), .agg #[.int .i64 dm, .int .i64 want], .int .u32 x] w fun e w' => ((choB (mayB ep k m p d l) dm want = true ∧ ∃ (n : Nat) (v : Value), want = n ∧ 1 ≤ n ∧ n ≤ 32 ∧ e = .returned (.tuple #[v, .int .i64 0]) ∧ kI.R 3 w' w.heap.size (fun _ => True) v (places l x n (domL dm) n 0 [])) ∨ (choB (mayB ep k m p d l) dm want = false ∧ e = .returned (.tuple #[.slice none 0 0, .int .i64 1]))) ∧ Below w.heap.size w w' := by
  cases h : choB (mayB ep k m p d l) dm want with
  | false =>
    refine (rChoose_bad ep k m p d A c l dm want x w hx hcap h).mono ?_
    rintro e w1 ⟨rfl, hb⟩
    exact ⟨.inr ⟨rfl, rfl⟩, hb⟩
  | true =>
    unfold choB at h
    simp only [Bool.and_eq_true, decide_eq_true_eq] at h
    obtain ⟨n, hn⟩ := Int.eq_ofNat_of_zero_le (show 0 ≤ want by omega)
    subst hn
    refine (rChoose_ok HWE ep k m p d A c l dm x n w hx hcap h.1 h.2.1 (by omega) (by omega)).mono ?_
    rintro e w1 ⟨v, rfl, hr, hb⟩
    exact ⟨.inl ⟨rfl, n, v, rfl, by omega, by omega, rfl, hr⟩, hb⟩
end Go.Proofs.Ytnpphmgibgfjoaa.Chr
/- Ints of any two rows. -/
namespace Go.Proofs.Ytnpphmgibgfjoaa.IntG
open Go Go.RowKit Go.Proofs.YtnpphmgibgfjoaaW.PrintWords Go.Proofs.YtnpphmgibgfjoaaW.PrintLast Go.Proofs.YtnpphmgibgfjoaaW.PrintMore PAll Chr UpsP MayP Cho
theorem rd_get {l : List Int} {i : Nat} (h : i < l.length) : rd l (i : Int) = l[i] := by
  unfold rd
  simp [List.getD_eq_getElem?_getD, List.getElem?_eq_getElem h]
theorem ints_l0g (xs ys : List Int) (he : xs.length = ys.length) (hl : xs.length ≤ 9223372036854775807) : ∀ r i : Nat, i + r = xs.length → ∃ K, mooringref17_Ints.l0 K xs ys (i : Int) = some (decide (xs.drop i = ys.drop i))
  | 0, i, hi => ⟨1, by rw [mooringref17_Ints.l0, if_neg (by omega), List.drop_eq_nil_of_le (by omega), List.drop_eq_nil_of_le (by omega)]; rfl⟩
  | r + 1, i, hi => by
    obtain ⟨K, hK⟩ := ints_l0g xs ys he hl r (i + 1) (by omega)
    refine ⟨K + 1, ?_⟩
    have h1 : i < xs.length := by omega
    have h2 : i < ys.length := by omega
    rw [mooringref17_Ints.l0, if_pos (by omega), if_pos (by omega), if_pos (by omega), rd_get h1, rd_get h2, List.drop_eq_getElem_cons h1, List.drop_eq_getElem_cons h2]
    by_cases e : xs[i] = ys[i]
    · rw [if_pos e, w64 (by omega) (by omega), show ((i : Int) + 1) = ((i + 1 : Nat) : Int) by omega, hK]
      rw [e]
      exact congrArg some (decide_eq_decide.2 ⟨fun h => by rw [h], fun h => (List.cons.inj h).2⟩)
    · rw [if_neg e]
      refine congrArg some (decide_eq_false (fun h => e ?_)).symm
      injection h
theorem ints_gen (xs ys : List Int) (hl : xs.length ≤ 9223372036854775807) : ∃ K, mooringref17_Ints.f K xs ys = some (decide (xs = ys)) := by
  by_cases he : xs.length = ys.length
  · obtain ⟨K, hK⟩ := ints_l0g xs ys he hl xs.length 0 (by omega)
    exact ⟨K, by unfold mooringref17_Ints.f; rw [if_pos (by omega)]; exact hK⟩
  · refine ⟨1, ?_⟩
    unfold mooringref17_Ints.f
    rw [if_neg (by omega)]
    exact congrArg some (decide_eq_false (fun h => he (by rw [h]))).symm
/-- Are rows alike? -/
theorem ints_any (A B : Option Addr) (c c' : Nat) (xs ys : List Int) (w : World) (h : kI.C w A xs.length xs) (hc : xs.length ≤ c) (h' : kI.C w B ys.length ys) (hc' : ys.length ≤ c') :
    Calls Try.prog 17 #[.slice A xs.length c, .slice B ys.length c'] w fun e w' => e = .returned (.bool (decide (xs = ys))) ∧ Below w.heap.size w w' := by
  obtain ⟨K, hK⟩ := ints_gen xs ys h.2.1
  refine (mooringref17_Ints.calls K A c xs B c' ys _ w h hc h' hc' hK).mono ?_
  rintro e w1 ⟨rfl, hd⟩
  exact ⟨rfl, hd.below⟩
end Go.Proofs.Ytnpphmgibgfjoaa.IntG
/- CrushUps: the walk. -/
namespace Go.Proofs.Ytnpphmgibgfjoaa.Ups
open Go Go.RowKit Go.Proofs.YtnpphmgibgfjoaaW.PrintWords Go.Proofs.YtnpphmgibgfjoaaW.PrintMore Mem PAll KW MixP MixW StrP StrW AtA Srt Grp Sl Dsc AtB Roo Rep Cho MayP Awk UpsP
open CrP hiding Od
theorem row_cells {w : World} {base g n cap i : Nat} {ok : Nat → Prop} {xs : List Od} {o : Od} (h : kO.R 40 w base ok (.slice (some ⟨g, 0, none⟩) n cap) xs) (ho : xs[i]? = some o) :
    ∀ (jj : Nat) u, [Value.int .i64 o.f0, .bool o.f1, .bool o.f2, .int .i64 o.f3, .int .i64 o.f4, .int .i64 o.f5, .int .i64 o.f6, .int .i64 o.f7][jj]? = some u → w.cell? ⟨g, (i : Int).toNat * kO.sz + jj, none⟩ = some u := by
  have hi := (List.getElem?_eq_some_iff.1 ho).1
  have hn := (Kd.R_reads' h).1
  obtain ⟨ad2, o2, ho2, hA2, b0, b1, b2, b3, b4, b5, b6, b7⟩ := at_O (Kd.R_reads' h).2.2 i (by omega)
  injection hA2 with hA2
  subst hA2
  obtain rfl : o = o2 := Option.some.inj (ho.symm.trans ho2)
  rw [add_plain] at b0 b1 b2 b3 b4 b5 b6 b7
  intro jj u hu
  rw [show (i : Int).toNat * kO.sz + jj = i * 8 + jj from rfl]
  match jj, hu with
  | 0, hu => obtain rfl := Option.some.inj hu; exact b0
  | 1, hu => obtain rfl := Option.some.inj hu; exact b1
  | 2, hu => obtain rfl := Option.some.inj hu; exact b2
  | 3, hu => obtain rfl := Option.some.inj hu; exact b3
  | 4, hu => obtain rfl := Option.some.inj hu; exact b4
  | 5, hu => obtain rfl := Option.some.inj hu; exact b5
  | 6, hu => obtain rfl := Option.some.inj hu; exact b6
  | 7, hu => obtain rfl := Option.some.inj hu; exact b7
  | jj + 8, hu => cases hu
theorem ints_calls (g g' n : Nat) (ps : List Int) (w : World) (h : w.heap[g]? = some (.cells (outA n ps) 3 (0, 0))) (h' : w.heap[g']? = some (.cells (outA n ps) 3 (0, 0))) (hn : ps.length = n) (hs : n ≤ 64) :
    Calls Try.prog 17 #[.slice (some ⟨g, 0, none⟩) n n, .slice (some ⟨g', 0, none⟩) n n] w fun e w' => e = .returned (.bool true) ∧ Below w.heap.size w w' := by
  obtain ⟨K, hK⟩ := ints_self ps (by omega)
  have c1 := ints_C h hn hs
  have c2 := ints_C h' hn hs
  subst hn
  refine (mooringref17_Ints.calls K (some ⟨g, 0, none⟩) ps.length ps (some ⟨g', 0, none⟩) ps.length ps true w c1 (Nat.le_refl _) c2 (Nat.le_refl _) hK).mono ?_
  rintro e w1 ⟨rfl, hd⟩
  exact ⟨rfl, hd.below⟩
theorem ints_nil (w : World) : Calls Try.prog 17 #[.slice none 0 0, .slice none 0 0] w fun e w' => e = .returned (.bool true) ∧ Below w.heap.size w w' := by
  obtain ⟨K, hK⟩ := ints_self [] (by decide)
  have c : Kd.C (Kd.int .i64) w none ([] : List Int).length [] := ⟨rfl, by decide, fun h => absurd h (Nat.lt_irrefl _)⟩
  refine (mooringref17_Ints.calls K none 0 [] none 0 [] true w c (Nat.le_refl _) c (Nat.le_refl _) hK).mono ?_
  rintro e w1 ⟨rfl, hd⟩
  exact ⟨rfl, hd.below⟩
set_option maxHeartbeats 8000000 in
set_option maxRecDepth 100000 in
theorem ups_calls (ep k m p d : Int) (A : Option Addr) (c : Nat) (l : List Od) (dm want x : Int) (w : World) (hx : kO.C w A l.length l) (hcap : l.length ≤ c) (hwf : WfL l) :
    Calls Try.prog 5 #[.agg (boxM ep k m p d A c l), .agg #[.int .i64 dm, .int .i64 want], .int .u32 x] w fun e w' => e = .returned (.bool true) ∧ Below w.heap.size w w' := by
  have HX := Lib.hid hx
  have HWF := Lib.hid hwf
  have hml : l.length ≤ 9223372036854775807 := hx.2.1
  have HBA := Lib.hid (below_alloc (below_alloc (Below.refl w.heap.size w) (.cells (boxM ep k m p d A c l) 26)) (.cells #[.int .i64 dm, .int .i64 want] 28))
  have HM1 : Hid (((w.alloc (.cells (boxM ep k m p d A c l) 26)).alloc (.cells #[.int .i64 dm, .int .i64 want] 28)).heap[w.heap.size]? = some (.cells (boxM ep k m p d A c l) 26 (0, 0))) := Lib.hid (blk_below (blk_new _ _) (below_alloc (Below.refl _ _) _))
  have HU1 : Hid (((w.alloc (.cells (boxM ep k m p d A c l) 26)).alloc (.cells #[.int .i64 dm, .int .i64 want] 28)).heap[w.heap.size + 1]? = some (.cells #[.int .i64 dm, .int .i64 want] 28 (0, 0))) := Lib.hid (by have h := blk_new (w.alloc (.cells (boxM ep k m p d A c l) 26)) (.cells #[.int .i64 dm, .int .i64 want] 28); simp only [World.alloc, Array.size_push] at h ⊢; exact h)
  have T := Lib.hid (may_calls ep k m p d A c l _ (Kd.C_below hx HBA.out) hcap)
  have TL := Lib.hid (fun w1 h => light_calls ep k m p d A c l dm want w1 h)
  have TC := Lib.hid (fun w1 h => Choose_calls ep k m p d A c l dm want x w1 h hwf)
  have HMB : Hid (mayB ep k m p d l = true → l.length ≤ 64) := Lib.hid (fun h => (may_good h).1)
  have HDN : Hid (mayB ep k m p d l = true → ∀ xs, Downs l xs l.length → mayB 7 k m p d xs = true) := Lib.hid (fun h xs hd => hd.may h)
  obtain ⟨mb, hmb⟩ : ∃ mb, mb = mayB ep k m p d l := ⟨_, rfl⟩
  rw [← hmb] at T TC HMB HDN
  have HSZ : Hid (w.heap.size + 2 ≤ ((w.alloc (.cells (boxM ep k m p d A c l) 26)).alloc (.cells #[.int .i64 dm, .int .i64 want] 28)).heap.size) := Lib.hid (by simp only [World.alloc, Array.size_push]; omega)
  clear hx hcap hwf hmb
  unfold boxM at *
  cases mb with
  | false =>
    go_enter Try.func5, Try.ntmps5
    go_wp2_with fail
    refine T.out.mono ?_
    rintro e w2 ⟨rfl, hb⟩
    have HB2 := Lib.hid (below_then HBA.out HBA.out.size hb)
    clear hb
    go_wp2_with fail
    refine (awake_calls _).mono ?_
    rintro e w3 ⟨rfl, hb⟩
    have HB3 := Lib.hid (below_then HB2.out HB2.out.size hb)
    clear hb
    go_wp2_with fail
    go_ret
    exact ⟨rfl, HB3.out⟩
  | true =>
    have HLN := Lib.hid (HMB.out rfl)
    have HDN2 := Lib.hid (HDN.out rfl)
    obtain ⟨lb, hlb⟩ : ∃ lb, lb = (decide (l.length ≤ 24) && decide (want ≤ 12)) := ⟨_, rfl⟩
    rw [← hlb] at TL
    clear hlb
    go_enter Try.func5, Try.ntmps5
    go_wp2_with fail
    refine T.out.mono ?_
    rintro e w2 ⟨rfl, hb⟩
    have HB2 := Lib.hid (below_then HBA.out HBA.out.size hb)
    have HM2 := Lib.hid (blk_below HM1.out hb)
    have HU2 := Lib.hid (blk_below HU1.out hb)
    have HS2 : Hid (w.heap.size + 2 ≤ w2.heap.size) := Lib.hid (Nat.le_trans HSZ.out hb.size)
    clear hb T HM1 HU1 HBA HSZ HMB HDN
    have m0 := blk_cell HM2.out 0
    have m1 := blk_cell HM2.out 1
    have m2 := blk_cell HM2.out 2
    have m3 := blk_cell HM2.out 3
    have m4 := blk_cell HM2.out 4
    have m5 := blk_cell HM2.out 5
    have u0 := blk_cell HU2.out 0
    have u1 := blk_cell HU2.out 1
    go_wp2_with fail
    refine (TL.out _ (Kd.C_below HX.out HB2.out)).mono ?_
    rintro e w3 ⟨rfl, hb⟩
    have HB3 := Lib.hid (below_then HB2.out HB2.out.size hb)
    have HM3 := Lib.hid (blk_below HM2.out hb)
    have HU3 := Lib.hid (blk_below HU2.out hb)
    have HS3 : Hid (w.heap.size + 2 ≤ w3.heap.size) := Lib.hid (Nat.le_trans HS2.out hb.size)
    clear hb TL HM2 HU2 HB2 HS2 m0 m1 m2 m3 m4 m5 u0 u1
    cases lb with
    | false =>
      go_wp2_with fail
      refine (awake_calls _).mono ?_
      rintro e w4 ⟨rfl, hb⟩
      have HB4 := Lib.hid (below_then HB3.out HB3.out.size hb)
      clear hb
      go_wp2_with fail
      go_ret
      exact ⟨rfl, HB4.out⟩
    | true =>
      have m0 := blk_cell HM3.out 0
      have m1 := blk_cell HM3.out 1
      have m2 := blk_cell HM3.out 2
      have m3 := blk_cell HM3.out 3
      have m4 := blk_cell HM3.out 4
      have m5 := blk_cell HM3.out 5
      have HBN := Lib.hid (below_alloc (Below.refl w3.heap.size w3) (.cells #[.int .i64 7, .int .i64 k, .int .i64 m, .int .i64 p, .int .i64 d, .slice A l.length c] 26))
      have HN1 : Hid ((w3.alloc (.cells #[.int .i64 7, .int .i64 k, .int .i64 m, .int .i64 p, .int .i64 d, .slice A l.length c] 26)).heap[w3.heap.size]? = some (.cells #[.int .i64 7, .int .i64 k, .int .i64 m, .int .i64 p, .int .i64 d, .slice A l.length c] 26 (0, 0))) := Lib.hid (blk_new _ _)
      have HSN : Hid ((w3.alloc (.cells #[.int .i64 7, .int .i64 k, .int .i64 m, .int .i64 p, .int .i64 d, .slice A l.length c] 26)).heap.size = w3.heap.size + 1) := Lib.hid (by simp only [World.alloc, Array.size_push])
      have e1 := HSN.out
      obtain ⟨wn, hwn⟩ : ∃ wn, wn = w3.alloc (.cells #[.int .i64 7, .int .i64 k, .int .i64 m, .int .i64 p, .int .i64 d, .slice A l.length c] 26) := ⟨_, rfl⟩
      rw [← hwn] at HBN HN1 HSN e1
      have HBE := Lib.hid (below_alloc (Below.refl wn.heap.size wn) (.cells #[] 40))
      have HMN := Lib.hid (blk_below HM3.out HBN.out)
      have HUN := Lib.hid (blk_below HU3.out HBN.out)
      have HBW := Lib.hid (below_then HB3.out HB3.out.size HBN.out)
      have HOE : Hid (kO.R 40 (wn.alloc (.cells #[] 40)) wn.heap.size (fun q => q ≠ w3.heap.size) (.slice (some ⟨wn.heap.size, 0, none⟩) 0 0) []) := Lib.hid ⟨fun q hq => by have e : wn.heap.size = q := Option.some.inj hq; omega, OwnRow.lit wn wn.heap.size (ps := []) (inner := []) (Reps.none _ _) (Nat.le_refl _) (Nat.zero_le _)⟩
      have HCE := Lib.hid (Kd.C_below HX.out (below_then HBW.out HBW.out.size HBE.out))
      have n5 := blk_cell (blk_below HMN.out HBE.out) 5
      clear m0 m1 m2 m3 m4 m5
      have m0 := blk_cell HM3.out 0
      have m1 := blk_cell HM3.out 1
      have m2 := blk_cell HM3.out 2
      have m3 := blk_cell HM3.out 3
      have m4 := blk_cell HM3.out 4
      have m5 := blk_cell HM3.out 5
      rw [hwn] at n5
      rw [show wn.alloc (.cells #[] 40) = (w3.alloc (.cells #[.int .i64 7, .int .i64 k, .int .i64 m, .int .i64 p, .int .i64 d, .slice A l.length c] 26)).alloc (.cells #[] 40) by rw [hwn]] at HOE HCE HBE
      rw [e1] at HOE HBE
      have HWN := Lib.hid hwn
      have HCN := Lib.hid e1
      clear hwn e1
      go_wp2_with (first | (at_builtin; go_must (refine Kd.R_append_rows kO (w0 := wn) (w3.heap.size + 1) rfl _ _ 24 40 (.agg #[.int .i64 0, .bool false, .bool false, .int .i64 0, .int .i64 0, .int .i64 0, .int .i64 0, .int .i64 0]) 56 rfl Try.underlying24 infoO rfl (by decide) (by decide) _ [] l A l.length c (fun q => q ≠ w3.heap.size) (fun _ => False) rfl rfl HOE.out HCE.out (fun y cs hk => by rw [k40_open hk]; exact k40_mkM _ _ _ y) (fun _ hk => hk.elim) ?hf HBE.out ?hsz ?hl ?_; (case hf => intro q hq; simp only [World.alloc, Array.size_push] at hq; omega); (case hsz => simp only [World.alloc, Array.size_push]; omega); (case hl => have := HLN.out; simp only [List.length_nil]; omega); intro v5 w5 ho hb hg hg2; rw [List.nil_append] at ho; have HO5 := Lib.hid ho; have hb2 : Below wn.heap.size wn w5 := (by rw [HCN.out]; exact hb); obtain ⟨VA, vc, hv5⟩ := Kd.R_slice ho; subst hv5; have HB5 := Lib.hid (below_then HBW.out HBW.out.size hb2); have HN5 := Lib.hid (blk_below HN1.out hb2); have HM5 := Lib.hid (blk_below HMN.out hb2); have HU5 := Lib.hid (blk_below HUN.out hb2); have nn5 := blk_cell HN5.out 5; have nf5 := blk_frozen HN5.out 5; clear ho hb hb2 hg hg2 HOE HBE HCE n5)))
      have HN6 := Lib.hid (blk_put HN5.out 5 (.slice VA l.length vc) (cs' := #[.int .i64 7, .int .i64 k, .int .i64 m, .int .i64 p, .int .i64 d, .slice VA l.length vc]) rfl)
      have HS := HS3.out
      have HM6 := Lib.hid (blk_far HM5.out (p := ⟨w3.heap.size, 5, none⟩) (by show w.heap.size ≠ w3.heap.size; omega) (.slice VA l.length vc))
      have HU6 := Lib.hid (blk_far HU5.out (p := ⟨w3.heap.size, 5, none⟩) (by show w.heap.size + 1 ≠ w3.heap.size; omega) (.slice VA l.length vc))
      have HB6 := Lib.hid (HB5.out.setCell (p := ⟨w3.heap.size, 5, none⟩) (show w.heap.size ≤ w3.heap.size by omega) (.slice VA l.length vc))
      have HO6 := Lib.hid (Kd.R_far HO5.out (p := ⟨w3.heap.size, 5, none⟩) (fun q hq => hq) (.slice VA l.length vc))
      obtain ⟨w6, hw6⟩ : ∃ w6, w6 = w5.setCell ⟨w3.heap.size, 5, none⟩ (.slice VA l.length vc) := ⟨_, rfl⟩
      rw [← hw6] at HN6 HM6 HU6 HB6 HO6 ⊢
      clear hw6 HN5 HM5 HU5 HB5 HO5 nn5 nf5 m0 m1 m2 m3 m4 m5 HWN HCN HBN HN1 HSN HMN HUN HBW
      go_wp2_with fail
      go_loopw [8] (fun i' wr => ∃ (i : Nat) (xs : List Od), i' = .int .i64 i ∧ Hid (i ≤ l.length) ∧ Hid (Downs l xs i) ∧ Hid (kO.R 40 wr (w3.heap.size + 1) (fun q => q ≠ w3.heap.size) (.slice VA l.length vc) xs) ∧ Hid (wr.heap[w3.heap.size]? = some (.cells #[.int .i64 7, .int .i64 k, .int .i64 m, .int .i64 p, .int .i64 d, .slice VA l.length vc] 26 (0, 0))) ∧ Hid (wr.heap[w.heap.size]? = some (.cells #[.int .i64 ep, .int .i64 k, .int .i64 m, .int .i64 p, .int .i64 d, .slice A l.length c] 26 (0, 0))) ∧ Hid (wr.heap[w.heap.size + 1]? = some (.cells #[.int .i64 dm, .int .i64 want] 28 (0, 0))) ∧ Hid (Below w.heap.size w wr)) (fun i' _ => (l.length - intOf i').toNat)
      case atStart => exact ⟨0, l, rfl, Lib.hid (Nat.zero_le _), Lib.hid (Downs.start l), HO6, HN6, HM6, HU6, HB6⟩
      case round =>
        obtain ⟨i, xs, rfl, HI, HD, HO, HN, HM, HU, HB⟩ := hrel
        clear HO6 HN6 HM6 HU6 HB6
        have hi := HI.out
        have n5 := blk_cell HN.out 5
        have hxl := HD.out.len
        by_cases h : i < l.length
        · have hlt : decide (i < l.length) = true := decide_eq_true h
          have i0 : (0 : Int) ≤ i := by omega
          have i1 : (i : Int) < l.length := by omega
          obtain ⟨g, cap, hv, hbg, _, _⟩ := Kd.R_form HO.out (by omega)
          injection hv with hA hlen hcp
          subst hA
          obtain ⟨c', hc'⟩ : ∃ c', c' = vc := ⟨_, rfl⟩
          subst hcp
          rw [← hc'] at HO HN n5 ⊢
          clear hc'
          have HBG : Hid (w3.heap.size + 1 ≤ g) := Lib.hid hbg
          obtain ⟨o, hoe⟩ : ∃ o, xs[i]? = some o := ⟨xs[i]'(by omega), List.getElem?_eq_getElem _⟩
          have HXO := Lib.hid hoe
          have HQ : Hid (l[i]? = some o) := Lib.hid (by
            have e := HD.out.at_ i _ (List.getElem?_eq_getElem h)
            rw [if_neg (Nat.lt_irrefl _)] at e
            rw [List.getElem?_eq_getElem h, ← Option.some.inj (hoe.symm.trans e)])
          have HCE := Lib.hid (row_cells HO.out hoe)
          have HSET : Hid ((xs.set i { o with f1 := false })[i]? = some { o with f1 := false }) := Lib.hid (List.getElem?_set_self (by omega))
          have HST : Hid ((xs.set i { o with f1 := false }).set i (off i o) = xs.set i (off i o)) := Lib.hid (List.set_set ..)
          clear hoe h hbg hlen hxl
          go_wp2_with (first | ((with_reducible refine gate_store (t := 4) (p := 41) (v := .const (.bool false)) rfl ?_); go_must (refine Kd.R_store kO (w0 := wr) (w3.heap.size + 1) rfl rfl 4 _ _ rfl 40 (i : Int) 1 xs { o with f1 := false } (.bool false) [.bool false] [.int .i64 o.f0, .bool o.f1, .bool o.f2, .int .i64 o.f3, .int .i64 o.f4, .int .i64 o.f5, .int .i64 o.f6, .int .i64 o.f7] (fun q => q ≠ w3.heap.size) (fun _ => False) rfl rfl rfl rfl (by kernel_rfl) (by simp [Value.oneCell']) HO.out i0 i1 rfl HCE.out (by decide) (k40_mkM _ _ _ { o with f1 := false }) (fun _ hk => hk.elim) (Below.refl _ _) ?_; intro w7 ho hb hg; have HO7 := Lib.hid (show kO.R 40 w7 (w3.heap.size + 1) (fun q => q ≠ w3.heap.size) (.slice (some ⟨g, 0, none⟩) l.length c') (xs.set i { o with f1 := false }) from ho); have HC7 := Lib.hid (row_cells HO7.out HSET.out); have HN7 := Lib.hid (blk_grown HN.out hg (by intro e; injection e with e; have := HBG.out; omega)); have HM7 := Lib.hid (blk_grown HM.out hg (by intro e; injection e with e; have := HBG.out; have := HS3.out; omega)); have HU7 := Lib.hid (blk_grown HU.out hg (by intro e; injection e with e; have := HBG.out; have := HS3.out; omega)); have HB7 := Lib.hid (HB.out.grown hg HB.out.size (fun q hq => by injection hq with hq; have := HBG.out; have := HS3.out; omega)); have n57 := blk_cell HN7.out 5; clear ho hb hg HO HCE HN HM HU HB n5)) | ((with_reducible refine gate_store (t := 3) (p := 47) (v := .tmp 45) rfl ?_); go_must (refine Kd.R_store kO (w0 := w7) (w3.heap.size + 1) rfl rfl 3 _ _ rfl 40 (i : Int) 4 (xs.set i { o with f1 := false }) (off i o) (.int .i64 i) [.int .i64 i] [.int .i64 o.f0, .bool false, .bool o.f2, .int .i64 o.f3, .int .i64 o.f4, .int .i64 o.f5, .int .i64 o.f6, .int .i64 o.f7] (fun q => q ≠ w3.heap.size) (fun _ => False) rfl rfl rfl rfl (by kernel_rfl) (by simp [Value.oneCell']) HO7.out i0 i1 rfl HC7.out (by show 4 + 1 ≤ 8; decide) (k40_mkM _ _ _ (off i o)) (fun _ hk => hk.elim) (Below.refl _ _) ?_; intro w8 ho hb hg; have HO8 := Lib.hid (show kO.R 40 w8 (w3.heap.size + 1) (fun q => q ≠ w3.heap.size) (.slice (some ⟨g, 0, none⟩) l.length c') (xs.set i (off i o)) from (by rw [← HST.out]; exact ho)); have HN8 := Lib.hid (blk_grown HN7.out hg (by intro e; injection e with e; have := HBG.out; omega)); have HM8 := Lib.hid (blk_grown HM7.out hg (by intro e; injection e with e; have := HBG.out; have := HS3.out; omega)); have HU8 := Lib.hid (blk_grown HU7.out hg (by intro e; injection e with e; have := HBG.out; have := HS3.out; omega)); have HB8 := Lib.hid (HB7.out.grown hg HB7.out.size (fun q hq => by injection hq with hq; have := HBG.out; have := HS3.out; omega)); clear ho hb hg HO7 HC7 HN7 HM7 HU7 HB7 n57)))
          go_roundw
          case rel => exact ⟨i + 1, _, by go_num, Lib.hid (by omega), Lib.hid (HD.out.more HQ.out), HO8, HN8, HM8, HU8, HB8⟩
          case measure => simp only [intOf]; omega
        · obtain rfl : i = l.length := by omega
          have hlt : decide (l.length < l.length) = false := decide_eq_false (by omega)
          have m0 := blk_cell HM.out 0
          have m1 := blk_cell HM.out 1
          have m2 := blk_cell HM.out 2
          have m3 := blk_cell HM.out 3
          have m4 := blk_cell HM.out 4
          have m5 := blk_cell HM.out 5
          have u0 := blk_cell HU.out 0
          have u1 := blk_cell HU.out 1
          clear hxl
          go_wp2_with fail
          refine (TC.out _ (Kd.C_below HX.out HB.out)).mono ?_
          rintro e w8 ⟨hres, hb⟩
          have HN8 := Lib.hid (blk_below HN.out hb)
          have HU8 := Lib.hid (blk_below HU.out hb)
          have HB8 := Lib.hid (below_then HB.out HB.out.size hb)
          have hlen := HD.out.len
          have TC2 := Choose_calls 7 k m p d VA vc xs dm want x w8 (Kd.C_below (Kd.R_reads' HO.out).2.2 hb) (HD.out.wf HWF.out)
          rw [HDN2.out xs HD.out] at TC2
          unfold boxM at TC2
          rw [hlen] at TC2
          have T2 := Lib.hid TC2
          have HRES := Lib.hid hres
          clear hres hb hlen TC2 m0 m1 m2 m3 m4 m5 u0 u1 n5 HN HM HU HB TC
          have n0 := blk_cell HN8.out 0
          have n1 := blk_cell HN8.out 1
          have n2 := blk_cell HN8.out 2
          have n3 := blk_cell HN8.out 3
          have n4 := blk_cell HN8.out 4
          have n5 := blk_cell HN8.out 5
          have u0 := blk_cell HU8.out 0
          have u1 := blk_cell HU8.out 1
          rcases HRES.out with ⟨hc, n, g1, hwn, hn1, hn2, hg1, rfl, hh1⟩ | ⟨hc, rfl⟩
          · have HC := Lib.hid hc
            have HWN := Lib.hid hwn
            have HN1 := Lib.hid hn1
            have HN2 := Lib.hid hn2
            have HH1 := Lib.hid hh1
            clear HRES hc hwn hn1 hn2 hg1 hh1
            go_wp2_with fail
            refine T2.out.mono ?_
            rintro e w9 ⟨hres, hb⟩
            have HB9 := Lib.hid (below_then HB8.out HB8.out.size hb)
            have HH19 := Lib.hid (blk_below HH1.out hb)
            rcases hres with ⟨_, n', g2, hnn, _, _, _, rfl, hh2⟩ | ⟨hc2, _⟩
            · obtain rfl : n = n' := by have := HWN.out; omega
              rw [HD.out.places] at hh2
              have HH2 := Lib.hid hh2
              clear hnn hh2 hb n0 n1 n2 n3 n4 n5 u0 u1 HH1 HB8
              go_wp2_with fail
              refine (ints_calls g1 g2 n _ _ HH19.out HH2.out (places_len _ _ _ _ _ _ _) (by have := HN2.out; omega)).mono ?_
              rintro e w10 ⟨rfl, hb⟩
              have HB10 := Lib.hid (below_then HB9.out HB9.out.size hb)
              clear hb
              go_wp2_with fail
              refine (awake_calls _).mono ?_
              rintro e w11 ⟨rfl, hb⟩
              have HB11 := Lib.hid (below_then HB10.out HB10.out.size hb)
              clear hb
              go_wp2_with fail
              go_ret
              exact ⟨rfl, HB11.out⟩
            · rw [HC.out] at hc2; cases hc2
          · have HC := Lib.hid hc
            clear HRES hc
            go_wp2_with fail
            refine T2.out.mono ?_
            rintro e w9 ⟨hres, hb⟩
            have HB9 := Lib.hid (below_then HB8.out HB8.out.size hb)
            rcases hres with ⟨hc2, _⟩ | ⟨_, rfl⟩
            · rw [HC.out] at hc2; cases hc2
            · clear hb n0 n1 n2 n3 n4 n5 u0 u1 HB8
              go_wp2_with fail
              refine (ints_nil _).mono ?_
              rintro e w10 ⟨rfl, hb⟩
              have HB10 := Lib.hid (below_then HB9.out HB9.out.size hb)
              clear hb
              go_wp2_with fail
              refine (awake_calls _).mono ?_
              rintro e w11 ⟨rfl, hb⟩
              have HB11 := Lib.hid (below_then HB10.out HB10.out.size hb)
              clear hb
              go_wp2_with fail
              go_ret
              exact ⟨rfl, HB11.out⟩
end Go.Proofs.Ytnpphmgibgfjoaa.Ups
/- CrushUps: what the row asks for. -/
namespace Go.Proofs.Ytnpphmgibgfjoaa.UpsO
open Go Go.RowKit Go.Proofs.YtnpphmgibgfjoaaW.PrintWords Opns PAll KW AtA Grp AtB Ups
abbrev wfI (n : Int) : Prop := (Lit.int .i64 n).wf = true
theorem op_i : Opens 3 (Kd.int .i64) (fun n => wfI n) (fun _ => 1) := opens_int Try.underlying3
theorem op_b : Opens 4 Kd.bool (fun _ => True) (fun _ => 1) := opens_bool Try.underlying4
instance : Inhabited S40 := ⟨⟨0, false, false, 0, 0, 0, 0, 0⟩⟩
def goodO (x : S40) : Prop := wfI x.f0 ∧ True ∧ True ∧ wfI x.f3 ∧ wfI x.f4 ∧ wfI x.f5 ∧ wfI x.f6 ∧ wfI x.f7
theorem opens_O : Opens 40 k40 goodO (fun _ => 1) :=
  (opens_struct (g := fun x : S40 => (x.f0, x.f1, x.f2, x.f3, x.f4, x.f5, x.f6, x.f7)) (gi := fun p => ⟨p.1, p.2.1, p.2.2.1, p.2.2.2.1, p.2.2.2.2.1, p.2.2.2.2.2.1, p.2.2.2.2.2.2.1, p.2.2.2.2.2.2.2⟩) (fun _ => rfl) Try.underlying40 (by kernel_rfl)
    (opensF_cons (off := 1) (by kernel_rfl) rfl op_i (opensF_cons (off := 2) (by kernel_rfl) rfl op_b (opensF_cons (off := 3) (by kernel_rfl) rfl op_b (opensF_cons (off := 4) (by kernel_rfl) rfl op_i (opensF_cons (off := 5) (by kernel_rfl) rfl op_i (opensF_cons (off := 6) (by kernel_rfl) rfl op_i (opensF_cons (off := 7) (by kernel_rfl) rfl op_i (opensF_one (by kernel_rfl) op_i))))))))).imp (fun _ h => h) (fun _ => by omega)
theorem opens_Os : Opens 24 (Kd.slice 40 k40) (fun xs => (∀ x ∈ xs, goodO x) ∧ xs.length * 56 ≤ reachBytes) (fun xs => lbulk (fun _ => 1) xs + 1) := opens_slice Try.underlying24 (by kernel_rfl) (by kernel_rfl) opens_O
def goodP (x : S23) : Prop := wfI x.f0 ∧ wfI x.f1 ∧ wfI x.f2 ∧ wfI x.f3
theorem opens_P : Opens 23 k23 goodP (fun _ => 1) :=
  (opens_struct (g := fun x : S23 => (x.f0, x.f1, x.f2, x.f3)) (gi := fun p => ⟨p.1, p.2.1, p.2.2.1, p.2.2.2⟩) (fun _ => rfl) Try.underlying23 (by kernel_rfl)
    (opensF_cons (off := 1) (by kernel_rfl) rfl op_i (opensF_cons (off := 2) (by kernel_rfl) rfl op_i (opensF_cons (off := 3) (by kernel_rfl) rfl op_i (opensF_one (by kernel_rfl) op_i))))).imp (fun _ h => h) (fun _ => by omega)
def goodM (x : S26) : Prop := wfI x.f0 ∧ goodP x.f1 ∧ ((∀ o ∈ x.f2, goodO o) ∧ x.f2.length * 56 ≤ reachBytes)
theorem opens_M : Opens 26 k26 goodM (fun _ => 1) :=
  (opens_struct (g := fun x : S26 => (x.f0, x.f1, x.f2)) (gi := fun p => ⟨p.1, p.2.1, p.2.2⟩) (fun _ => rfl) Try.underlying26 (by kernel_rfl)
    (opensF_cons (off := 1) (by kernel_rfl) rfl op_i (opensF_cons (off := 5) (by kernel_rfl) rfl opens_P (opensF_one (by kernel_rfl) opens_Os)))).imp (fun _ h => h) (fun _ => by simp only [lbulk]; omega)
structure Ru where
  f0 : Int
  f1 : Int
  deriving Inhabited
def kRu : Kd Ru := Kd.iso (Kd.pair (Kd.int .i64) (Kd.int .i64)) (fun x : Ru => (x.f0, x.f1))
def goodR (x : Ru) : Prop := wfI x.f0 ∧ wfI x.f1
theorem opens_R : Opens 28 kRu goodR (fun _ => 1) :=
  (opens_struct (g := fun x : Ru => (x.f0, x.f1)) (gi := fun p => ⟨p.1, p.2⟩) (fun _ => rfl) Try.underlying28 (by kernel_rfl)
    (opensF_cons (off := 1) (by kernel_rfl) rfl op_i (opensF_one (by kernel_rfl) op_i))).imp (fun _ h => h) (fun _ => by omega)
theorem kRu_open {w : World} {x : Ru} {cs : List Value} (h : kRu.K w x cs) : cs = [.int .i64 x.f0, .int .i64 x.f1] := by
  obtain ⟨_, _, rfl, rfl, rfl⟩ := h
  exact rfl
theorem map_open {w : World} {x : S26} {cs : Array Value} (h : k26.K w x cs.toList) (g : goodM x) : ∃ A c, cs = boxM x.f0 x.f1.f0 x.f1.f1 x.f1.f2 x.f1.f3 A c x.f2 ∧ x.f2.length ≤ c ∧ kO.C w A x.f2.length x.f2 ∧ WfL x.f2 := by
  obtain ⟨A, c, e, hl, hc⟩ := k26_open h
  refine ⟨A, c, ?_, hl, hc, fun o ho => ?_⟩
  · rw [← Array.toArray_toList (xs := cs), e]
    rfl
  · have h1 := g.2.2.1 o ho
    exact ⟨h1.1, h1.2.2.2.2.2.2.1, h1.2.2.2.2.2.2.2⟩
theorem rule_open {w : World} {x : Ru} {cs : Array Value} (h : kRu.K w x cs.toList) : cs = #[.int .i64 x.f0, .int .i64 x.f1] := by
  rw [← Array.toArray_toList (xs := cs), kRu_open h]
theorem walkUps (cs0 : Array Value) (x0 : S26) (cs1 : Array Value) (x1 : Ru) (a2 : Int) (w : World) (c0 : k26.K w x0 cs0.toList) (g0 : goodM x0) (c1 : kRu.K w x1 cs1.toList) (_ : goodR x1) (_ : (Lit.int .u32 a2).wf = true) :
    Calls Try.prog 5 #[.agg cs0, .agg cs1, .int .u32 a2] w fun e w' => e = .returned (.bool true) ∧ Below w.heap.size w w' := by
  obtain ⟨A, c, rfl, hl, hc, hw⟩ := map_open c0 g0
  rw [rule_open c1]
  exact ups_calls _ _ _ _ _ A c x0.f2 _ _ a2 w hc hl hw
end Go.Proofs.Ytnpphmgibgfjoaa.UpsO
/- CrushDescends: the walk, given what weighed answers. -/
namespace Go.Proofs.Ytnpphmgibgfjoaa.LDe
open Go Go.RowKit Go.Proofs.YtnpphmgibgfjoaaW.PrintWords Go.Proofs.YtnpphmgibgfjoaaW.PrintMore Mem PAll KW MixP MixW StrP StrW AtA Srt Grp Sl Dsc AtB Roo Rep Cho MayP Awk Rds
open CrP hiding Od
set_option maxHeartbeats 4000000 in
set_option maxRecDepth 100000 in
theorem law_calls (HWE : Weighs) (ep k m p d : Int) (A : Option Addr) (c : Nat) (l : List Od) (x r0 r1 : Int) (w : World) (hx : kO.C w A l.length l) (hcap : l.length ≤ c) (hwf : WfL l) :
    Calls Try.prog 6 #[.agg (boxM ep k m p d A c l), .int .u32 x, .agg #[.int .i64 r0, .int .i64 r1]] w fun e w' => e = .returned (.bool true) ∧ Below w.heap.size w w' := by
  have HBA := Lib.hid (below_alloc (below_alloc (Below.refl w.heap.size w) (.cells (boxM ep k m p d A c l) 26)) (.cells #[.int .i64 r0, .int .i64 r1] 44))
  have HC1 := Lib.hid (Kd.C_below hx HBA.out)
  have HM1 : Hid (((w.alloc (.cells (boxM ep k m p d A c l) 26)).alloc (.cells #[.int .i64 r0, .int .i64 r1] 44)).heap[w.heap.size]? = some (.cells (boxM ep k m p d A c l) 26 (0, 0))) := Lib.hid (blk_below (blk_new _ _) (below_alloc (Below.refl _ _) _))
  have HU1 : Hid (((w.alloc (.cells (boxM ep k m p d A c l) 26)).alloc (.cells #[.int .i64 r0, .int .i64 r1] 44)).heap[w.heap.size + 1]? = some (.cells #[.int .i64 r0, .int .i64 r1] 44 (0, 0))) := Lib.hid (by have h := blk_new (w.alloc (.cells (boxM ep k m p d A c l) 26)) (.cells #[.int .i64 r0, .int .i64 r1] 44); simp only [World.alloc, Array.size_push] at h ⊢; exact h)
  obtain ⟨w1, hw1⟩ : ∃ w1, w1 = (w.alloc (.cells (boxM ep k m p d A c l) 26)).alloc (.cells #[.int .i64 r0, .int .i64 r1] 44) := ⟨_, rfl⟩
  have HWN := Lib.hid hw1
  rw [← hw1] at HBA HC1 HM1 HU1
  clear hw1
  obtain ⟨a, ha⟩ : ∃ a, a = descI (mayB ep k m p d l) x (r0 % 4294967296) l := ⟨_, rfl⟩
  obtain ⟨b, hb⟩ : ∃ b, b = roomI (mayB ep k m p d l) r1 l := ⟨_, rfl⟩
  have T1 : Hid (∀ dd os, Calls Try.prog 20 #[.agg (boxM ep k m p d A c l), .int .u32 x, .int .u32 (r0 % 4294967296)] (Sort.grow (redrawn w1 dd) os) fun e w' => e = .returned (.int .i64 a) ∧ Below (Sort.grow (redrawn w1 dd) os).heap.size (Sort.grow (redrawn w1 dd) os) w') := Lib.hid (fun dd os => by rw [ha]; exact Descend_calls ep k m p d A c l x _ _ (Kd.C_below HC1.out (below_regrown w1 dd os)) hwf)
  have T2 : Hid (∀ dd os, Calls Try.prog 21 #[.agg (boxM ep k m p d A c l), .int .u32 x, .int .u32 (r0 % 4294967296)] (Sort.grow (redrawn w1 dd) os) fun e w' => e = .returned (.int .i64 a) ∧ Below (Sort.grow (redrawn w1 dd) os).heap.size (Sort.grow (redrawn w1 dd) os) w') := Lib.hid (fun dd os => by rw [ha]; exact rDescend_calls HWE ep k m p d A c l x _ _ (Kd.C_below HC1.out (below_regrown w1 dd os)) hcap)
  have T3 : Hid (∀ dd os, Calls Try.prog 22 #[.agg (boxM ep k m p d A c l), .int .i64 r1] (Sort.grow (redrawn w1 dd) os) fun e w' => e = .returned (.int .i64 b) ∧ Below (Sort.grow (redrawn w1 dd) os).heap.size (Sort.grow (redrawn w1 dd) os) w') := Lib.hid (fun dd os => by rw [hb]; exact Room_calls ep k m p d A c l r1 _ (Kd.C_below HC1.out (below_regrown w1 dd os)) hwf)
  have T4 : Hid (∀ dd os, Calls Try.prog 19 #[.agg (boxM ep k m p d A c l), .int .i64 r1] (Sort.grow (redrawn w1 dd) os) fun e w' => e = .returned (.int .i64 b) ∧ Below (Sort.grow (redrawn w1 dd) os).heap.size (Sort.grow (redrawn w1 dd) os) w') := Lib.hid (fun dd os => by rw [hb]; exact rRoom_calls HWE ep k m p d A c l r1 _ (Kd.C_below HC1.out (below_regrown w1 dd os)) hcap)
  have T5 : Hid (∀ dd os, Calls Try.prog 14 #[] (Sort.grow (redrawn w1 dd) os) fun e w' => e = .returned (.bool true) ∧ Below (Sort.grow (redrawn w1 dd) os).heap.size (Sort.grow (redrawn w1 dd) os) w') := Lib.hid (fun dd os => awake_calls _)
  unfold boxM at *
  have z0 := cell_regrown (blk_cell HM1.out 0)
  have z1 := cell_regrown (blk_cell HM1.out 1)
  have z2 := cell_regrown (blk_cell HM1.out 2)
  have z3 := cell_regrown (blk_cell HM1.out 3)
  have z4 := cell_regrown (blk_cell HM1.out 4)
  have z5 := cell_regrown (blk_cell HM1.out 5)
  have v0 := cell_regrown (blk_cell HU1.out 0)
  have v1 := cell_regrown (blk_cell HU1.out 1)
  clear hx hcap hwf ha hb HC1 HM1 HU1
  go_enter Try.func6, Try.ntmps6
  go_wp2_with fail
  rw [← HWN.out]
  refine wp_region_quiet_below (by kernel_rfl) (by kernel_rfl) ?_
  repeat (go_big_quiet_step ((first | (go_at_call 20; exact Calls.regrown_of (T1.out _ _)) | (go_at_call 21; exact Calls.regrown_of (T2.out _ _)) | (go_at_call 22; exact Calls.regrown_of (T3.out _ _)) | (go_at_call 19; exact Calls.regrown_of (T4.out _ _)) | (go_at_call 14; exact Calls.regrown_of (T5.out _ _)))))
  refine wpQuiet_nil ?_
  intro _ hw'
  obtain ⟨⟨dq, osq⟩, hw''⟩ := hw'
  subst hw''
  have HB2 := Lib.hid (below_then HBA.out HBA.out.size (below_regrown w1 dq osq))
  go_wp2_with fail
  go_ret
  exact ⟨rfl, HB2.out⟩
end Go.Proofs.Ytnpphmgibgfjoaa.LDe
/- CrushDescends: the walk, by its arguments' readings. -/
namespace Go.Proofs.Ytnpphmgibgfjoaa.DeO
open Go Go.RowKit Go.Proofs.YtnpphmgibgfjoaaW.PrintWords Opns PAll AtA AtB Rds Wgh UpsO
theorem weighs : Weighs := fun lv A c l w hlv hx hg => weighed_calls lv A c l w hlv hx hg
abbrev kI2 : Kd (Int × Int) := Kd.pair (Kd.int .i64) (Kd.int .i64)
theorem opens_r : Opens 44 kI2 (fun x => wfI x.1 ∧ wfI x.2) (fun _ => 1 + 1 + 1) := opens_array2 Try.underlying44 (by kernel_rfl) (by kernel_rfl) op_i
theorem two_open {w : World} {x : Int × Int} {cs : Array Value} (h : kI2.K w x cs.toList) : cs = #[.int .i64 x.1, .int .i64 x.2] := by
  rw [← Array.toArray_toList (xs := cs)]
  obtain ⟨_, _, e, rfl, rfl⟩ := h
  rw [e]
  rfl
theorem walkDe (cs0 : Array Value) (x0 : S26) (a1 : Int) (cs2 : Array Value) (x2 : Int × Int) (w : World) (c0 : k26.K w x0 cs0.toList) (g0 : goodM x0) (_ : (Lit.int .u32 a1).wf = true) (c2 : kI2.K w x2 cs2.toList) (_ : wfI x2.1 ∧ wfI x2.2) :
    Calls Try.prog 6 #[.agg cs0, .int .u32 a1, .agg cs2] w fun e w' => e = .returned (.bool true) ∧ Below w.heap.size w w' := by
  obtain ⟨A, c, rfl, hl, hc, hw⟩ := map_open c0 g0
  rw [two_open c2]
  exact LDe.law_calls weighs _ _ _ _ _ A c x0.f2 a1 _ _ w hc hl hw
end Go.Proofs.Ytnpphmgibgfjoaa.DeO
