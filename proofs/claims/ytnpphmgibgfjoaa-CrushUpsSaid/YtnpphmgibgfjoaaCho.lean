import Derived.Test.YtnpphmgibgfjoaaRep
import Derived.Maps.Views
import Derived.Shelf.Abstract
import Derived.Lib.BufferWrite
/- crush.Choose. -/
namespace Go.Proofs.Ytnpphmgibgfjoaa.Cho
open Go Go.RowKit Go.Proofs.YtnpphmgibgfjoaaW.PrintWords Go.Proofs.YtnpphmgibgfjoaaW.PrintMore Mem PAll KW MixP MixW StrP StrW AtA Srt Grp Sl Dsc AtB Roo Rep
open CrP hiding Od
open Go.Maps (Keyed int_keyed keyOf_int_mk)
theorem zeroBo (w : World) : (zeroValue 4).run Try.prog w = .ok (.bool false) w := by kernel_rfl
theorem plainElem_bool_inv {H : Type} {P : Program} {e : TypeId} (he : P.underlying e = some .bool) {v : Value} {z : DataW H × List MemPlace} (h : plainElem P e v = some z) : ∃ b, v = .bool b ∧ z = (.lit (.bool b), []) := by
  unfold plainElem at h
  rw [he] at h
  cases v <;> simp at h
  exact ⟨_, rfl, h.symm⟩
abbrev OB (w : World) (b n : Nat) (D : DW) : Prop := w.ownsMap Try.prog 3 (plainElem Try.prog 4) b n D
theorem look_met {w : World} {b n : Nat} {D : DW} (h : OB w b n D) (v : Int) (hv : (Lit.int .i64 v).wf = true) : ∃ c, (Instr.lookup 75 (.map (some b)) (.int .i64 v) false).run Try.prog w = .ok (.bool c) w ∧ D.atKey (.int .i64 v) (.lit (.bool false)) = .lit (.bool c) := by
  obtain ⟨y, ps, hrun, hy⟩ := h.lookup keyI Try.underlying75 (zeroBo w) (plainElem_bool Try.underlying4 false) (keyOf_int_mk Try.underlying3 hv)
  obtain ⟨c, rfl, hc⟩ := plainElem_bool_inv Try.underlying4 hy
  exact ⟨c, hrun, congrArg Prod.fst hc⟩
def Taken (met : List Int) (D : DW) : Prop := ∀ v : Int, D.atKey (.int .i64 v) (.lit (.bool false)) = .lit (.bool (decide (v ∈ met)))
theorem taken_put {met : List Int} {D : DW} {u : Int} (h : Taken met D) (hm : Go.Maps.IsMap D) : Taken (u :: met) (D.put (.int .i64 u) (.lit (.bool true))) := by
  intro v
  by_cases e : v = u
  · subst e
    rw [Go.Maps.atKey_put_same hm (by trivial)]
    simp
  · rw [Go.Maps.atKey_put_other (by intro hh; injection hh with _ hh; exact e hh), h v]
    simp [e]
theorem taken_nil : Taken [] (.map []) := fun _ => rfl
theorem look_taken {w : World} {b n : Nat} {D : DW} {met : List Int} (h : OB w b n D) (ht : Taken met D) (v : Int) (hv : (Lit.int .i64 v).wf = true) : (Instr.lookup 75 (.map (some b)) (.int .i64 v) false).run Try.prog w = .ok (.bool (decide (v ∈ met))) w := by
  obtain ⟨c, hrun, hc⟩ := look_met h v hv
  rw [ht v] at hc
  have : c = decide (v ∈ met) := by simpa using hc.symm
  rw [← this]; exact hrun
theorem ob_below {w w1 : World} {b n : Nat} {D : DW} (h : OB w b n D) (hb : Below w.heap.size w w1) : OB w1 b n D := h.kept (grown_of_below hb none) (by simp)
theorem key_any (lv : Nat) (h : lv = 1 ∨ lv = 2 ∨ lv = 3) (o : Od) (w : World) : Calls Try.prog (fnL lv) #[.agg (aggO o)] w fun e w' => e = .returned (.int .i64 (keyN lv o)) ∧ Below w.heap.size w w' := by
  rcases h with rfl | rfl | rfl
  · exact rack_calls o w
  · exact host_calls o w
  · exact self_calls o w
theorem enters_any (lv : Nat) (h : lv = 1 ∨ lv = 2 ∨ lv = 3) : ∀ args w, (callFunc (fnL lv) args).run Try.prog w = .ok (.enter (fnL lv) args) w := by
  rcases h with rfl | rfl | rfl
  · exact enters_of Try.func69 (by kernel_rfl) rfl
  · exact enters_of Try.func68 (by kernel_rfl) rfl
  · exact enters_of Try.func67 (by kernel_rfl) rfl
theorem lvl_sub {x r : Int} {lv : Nat} {l l' : List Od} (h : lvl x r lv l = some l') : ∀ o ∈ l', o ∈ l := by
  obtain ⟨v, _, _, rfl⟩ := lvl_some h
  exact fun o ho => (List.mem_filter.1 ho).1
theorem desc_mem {x r : Int} {l : List Od} {o : Od} (h : desc x r l = some o) : o ∈ l := by
  unfold desc at h
  cases h1 : lvl x r 1 l with
  | none => rw [h1] at h; cases h
  | some l1 =>
    rw [h1] at h
    change ((lvl x r 2 l1).bind (lvl x r 3)).bind List.head? = some o at h
    cases h2 : lvl x r 2 l1 with
    | none => rw [h2] at h; cases h
    | some l2 =>
      rw [h2] at h
      change (lvl x r 3 l2).bind List.head? = some o at h
      cases h3 : lvl x r 3 l2 with
      | none => rw [h3] at h; cases h
      | some l3 =>
        rw [h3] at h
        change l3.head? = some o at h
        exact lvl_sub h1 o (lvl_sub h2 o (lvl_sub h3 o (List.mem_of_head? h)))
/-! ### what has been chosen so far -/
structure Cho (l : List Od) (x want : Int) (lv n p : Nat) (outs taken : List Int) : Prop where
  hp : p ≤ n
  len : outs.length = p
  all : outs ++ places l x want lv (n - p) p taken = places l x want lv n 0 []
theorem Cho.start (l : List Od) (x want : Int) (lv n : Nat) : Cho l x want lv n 0 [] [] := ⟨Nat.zero_le _, rfl, rfl⟩
theorem Cho.some {l : List Od} {x want : Int} {lv n p : Nat} {outs taken : List Int} {o : Od} (h : Cho l x want lv n p outs taken) (hp : p < n) (ht : tries l x want p lv taken 50 0 = some o) : Cho l x want lv n (p + 1) (outs ++ [o.f0]) (keyN lv o :: taken) := by
  refine ⟨hp, by rw [List.length_append, h.len]; rfl, ?_⟩
  rw [← h.all, show n - p = (n - (p + 1)) + 1 by omega]
  simp only [places, ht, List.append_assoc, List.singleton_append]
theorem Cho.none {l : List Od} {x want : Int} {lv n p : Nat} {outs taken : List Int} (h : Cho l x want lv n p outs taken) (hp : p < n) (ht : tries l x want p lv taken 50 0 = none) : Cho l x want lv n (p + 1) (outs ++ [-1]) taken := by
  refine ⟨hp, by rw [List.length_append, h.len]; rfl, ?_⟩
  rw [← h.all, show n - p = (n - (p + 1)) + 1 by omega]
  simp only [places, ht, List.append_assoc, List.singleton_append]
abbrev outA (n : Nat) (outs : List Int) : Array Value := (outs.map (Value.int .i64) ++ List.replicate (n - outs.length) (Value.int .i64 (-1))).toArray
theorem outA_none {n : Nat} {outs : List Int} (h : outs.length < n) : outA n (outs ++ [-1]) = outA n outs := by
  refine congrArg List.toArray ?_
  rw [List.map_append, List.append_assoc, List.length_append, show n - outs.length = (n - (outs.length + [(-1 : Int)].length)) + 1 by simp only [List.length_singleton]; omega, List.replicate_succ]
  rfl
theorem outA_set {n : Nat} {outs : List Int} (h : outs.length < n) (v : Int) : (outA n outs).setIfInBounds outs.length (.int .i64 v) = outA n (outs ++ [v]) := by
  rw [List.setIfInBounds_toArray]
  refine congrArg List.toArray ?_
  rw [List.set_append_right _ _ (by simp), List.length_map, Nat.sub_self, show n - outs.length = (n - (outs.length + 1)) + 1 by omega, List.replicate_succ, List.set_cons_zero, List.map_append, List.append_assoc, List.length_append]
  rfl
theorem outA_size {n : Nat} {outs : List Int} (h : outs.length ≤ n) : (outA n outs).size = n := by simp; omega
theorem outA_get {n : Nat} {outs : List Int} (h : outs.length < n) : (outA n outs)[outs.length]? = some (.int .i64 (-1)) := by
  rw [List.getElem?_toArray, List.getElem?_append_right (by simp), List.length_map, Nat.sub_self, List.getElem?_replicate, if_pos (by omega)]
set_option maxHeartbeats 8000000 in
set_option maxRecDepth 100000 in
theorem Choose_ok (ep k m p d : Int) (A : Option Addr) (c : Nat) (l : List Od) (dm x : Int) (n : Nat) (w : World) (hx : kO.C w A l.length l) (hwf : WfL l) (hm : mayB ep k m p d l = true) (hd : domB dm = true) (h1 : 1 ≤ n) (h2 : n ≤ 32) :
    Calls Try.prog 15 #[.agg (boxM ep k m p d A c l), .agg #[.int .i64 dm, .int .i64 n], .int .u32 x] w fun e w' => ∃ g, e = .returned (.tuple #[.slice (some ⟨g, 0, none⟩) n n, .int .i64 0]) ∧ w.heap.size ≤ g ∧ w'.heap[g]? = some (.cells (outA n (places l x n (domL dm) n 0 [])) 3 (0, 0)) ∧ Below w.heap.size w w' := by
  have HX := Lib.hid hx
  have HN1 := Lib.hid h1
  have HN2 := Lib.hid h2
  have HGL := Lib.hid (may_goodL hm)
  have HBA := Lib.hid (below_alloc (below_alloc (Below.refl w.heap.size w) (.cells (boxM ep k m p d A c l) 26)) (.cells #[.int .i64 dm, .int .i64 n] 28))
  have HC1 := Lib.hid (Kd.C_alloc (Kd.C_alloc hx (.cells (boxM ep k m p d A c l) 26)) (.cells #[.int .i64 dm, .int .i64 n] 28))
  have HM1 : Hid (((w.alloc (.cells (boxM ep k m p d A c l) 26)).alloc (.cells #[.int .i64 dm, .int .i64 n] 28)).heap[w.heap.size]? = some (.cells (boxM ep k m p d A c l) 26 (0, 0))) := Lib.hid (blk_below (blk_new _ _) (below_alloc (Below.refl _ _) _))
  have HU1 : Hid (((w.alloc (.cells (boxM ep k m p d A c l) 26)).alloc (.cells #[.int .i64 dm, .int .i64 n] 28)).heap[w.heap.size + 1]? = some (.cells #[.int .i64 dm, .int .i64 n] 28 (0, 0))) := Lib.hid (by have h := blk_new (w.alloc (.cells (boxM ep k m p d A c l) 26)) (.cells #[.int .i64 dm, .int .i64 n] 28); simp only [World.alloc, Array.size_push] at h ⊢; exact h)
  have T := Lib.hid (fun c0 w0 h0 => check_calls ep k m p d A c0 l w0 h0 hwf)
  have TO := Lib.hid (of_calls dm)
  obtain ⟨lv, hlv⟩ : ∃ lv, lv = domL dm := ⟨_, rfl⟩
  have HLV : Hid (lv = 1 ∨ lv = 2 ∨ lv = 3) := Lib.hid (by rw [hlv]; exact domL_any dm)
  obtain ⟨kf, hkf⟩ : ∃ kf, kf = fnL lv := ⟨_, rfl⟩
  have HOF : Hid (ofV dm = .func (.func kf) #[] #[]) := Lib.hid (by unfold ofV; rw [hd, if_pos rfl, ← hlv, hkf])
  have HMB := Lib.hid hm
  rw [← hlv]
  have HKF := Lib.hid hkf
  have hef : ∀ args w, (callFunc kf args).run Try.prog w = .ok (.enter kf args) w := by rw [hkf]; exact enters_any lv HLV.out
  have hq1 := eql_func_nil
  have b1 : decide ((n : Int) < 1) = false := decide_eq_false (by omega)
  have b2 : decide ((32 : Int) < (n : Int)) = false := decide_eq_false (by omega)
  have hmm := @run_makeMap Try.prog
  clear hx hwf hm hd h1 h2 hlv hkf
  unfold boxM at *
  go_enter Try.func15, Try.ntmps15
  go_wp2_with fail
  refine (TO.out _).mono ?_
  rintro e w0 ⟨rfl, rfl⟩
  rw [HOF.out]
  go_wp2_with fail
  refine (T.out c _ HC1.out).mono ?_
  rintro e w1 ⟨rfl, hb⟩
  rw [HMB.out]
  have HB2 := Lib.hid (below_then HBA.out HBA.out.size hb)
  have HC2 := Lib.hid (Kd.C_below HC1.out hb)
  have HM2 := Lib.hid (blk_below HM1.out hb)
  have HU2 := Lib.hid (blk_below HU1.out hb)
  have HW2 : Hid (w.heap.size + 2 ≤ w1.heap.size) := Lib.hid (by have := hb.size; simp only [World.alloc, Array.size_push] at this; omega)
  clear hb T TO HOF HBA HC1 HM1 HU1
  have u1 := blk_cell HU2.out 1
  have HBB := Lib.hid (below_alloc (below_alloc (Below.refl w1.heap.size w1) (.map #[] 0)) (.cells #[.int .i64 (-1)] 3))
  have u2 := (blk_cell (blk_below HU2.out HBB.out) 1)
  have HO1 : Hid (OB ((w1.alloc (.map #[] 0)).alloc (.cells #[.int .i64 (-1)] 3)) w1.heap.size 0 (.map [])) := Lib.hid (ob_below (World.ownsMap_made w1 Try.prog _ _) (below_alloc (Below.refl _ _) _))
  have HG1 : Hid (((w1.alloc (.map #[] 0)).alloc (.cells #[.int .i64 (-1)] 3)).heap[w1.heap.size + 1]? = some (.cells #[.int .i64 (-1)] 3 (0, 0))) := Lib.hid (by have h := blk_new (w1.alloc (.map #[] 0)) (.cells #[.int .i64 (-1)] 3); simp only [World.alloc, Array.size_push] at h ⊢; exact h)
  have HB3 := Lib.hid (below_then HB2.out HB2.out.size HBB.out)
  have HC3 := Lib.hid (Kd.C_below HC2.out HBB.out)
  have HM3 := Lib.hid (blk_below HM2.out HBB.out)
  have HU3 := Lib.hid (blk_below HU2.out HBB.out)
  have HLT : Hid (w1.heap.size < ((w1.alloc (.map #[] 0)).alloc (.cells #[.int .i64 (-1)] 3)).heap.size) := Lib.hid (by simp only [World.alloc, Array.size_push]; omega)
  have T := Lib.hid (repeat_calls (w1.heap.size + 1) n ((w1.alloc (.map #[] 0)).alloc (.cells #[.int .i64 (-1)] 3)) HG1.out HN1.out HN2.out)
  have HMG : Hid (w.heap.size + 2 ≤ w1.heap.size) := HW2
  go_wp2_with fail
  obtain ⟨w2, hw2⟩ : ∃ w2, w2 = (w1.alloc (.map #[] 0)).alloc (.cells #[.int .i64 (-1)] 3) := ⟨_, rfl⟩
  rw [← hw2] at HO1 HB3 HC3 HM3 HU3 T HLT ⊢
  obtain ⟨b, hb⟩ : ∃ b, b = w1.heap.size := ⟨_, rfl⟩
  rw [← hb] at HO1 HLT HMG T ⊢
  clear hw2 hb HW2 HBB HG1 HB2 HC2 HM2 HU2 u1 u2 hmm hq1 b1 b2
  refine T.out.mono ?_
  rintro e w3 ⟨g, rfl, hg, hgh, hb⟩
  have HO4 := Lib.hid (ob_below HO1.out hb)
  have HB4 := Lib.hid (below_then HB3.out HB3.out.size hb)
  have HC4 := Lib.hid (Kd.C_below HC3.out hb)
  have HM4 := Lib.hid (blk_below HM3.out hb)
  have HU4 := Lib.hid (blk_below HU3.out hb)
  have HG4 : Hid (w3.heap[g]? = some (.cells (outA n []) 3 (0, 0))) := Lib.hid (by rw [hgh, show Array.replicate n (Value.int .i64 (-1)) = outA n [] by simp [outA]])
  have HGB : Hid (b < g ∧ w.heap.size ≤ g) := Lib.hid (by have := HLT.out; have := HMG.out; omega)
  clear hgh hb hg T HO1 HB3 HC3 HM3 HU3 HLT HC4
  go_wp2_with fail
  go_loopw [42] (fun i' wr => ∃ (pl cnt : Nat) (outs taken : List Int) (D : DW), i' = .int .i64 pl ∧ Hid (Cho l x n lv n pl outs taken) ∧ Hid (cnt ≤ pl) ∧ Hid (OB wr b cnt D) ∧ Hid (Taken taken D) ∧ Hid (wr.heap[g]? = some (.cells (outA n outs) 3 (0, 0))) ∧ Hid (wr.heap[w.heap.size]? = some (.cells #[.int .i64 ep, .int .i64 k, .int .i64 m, .int .i64 p, .int .i64 d, .slice A l.length c] 26 (0, 0))) ∧ Hid (wr.heap[w.heap.size + 1]? = some (.cells #[.int .i64 dm, .int .i64 n] 28 (0, 0))) ∧ Hid (Below w.heap.size w wr)) (fun i' _ => (n - intOf i').toNat)
  case atStart => exact ⟨0, 0, [], [], .map [], rfl, Lib.hid (Cho.start _ _ _ _ _), Lib.hid (Nat.le_refl _), HO4, Lib.hid taken_nil, HG4, HM4, HU4, HB4⟩
  case round =>
    obtain ⟨pl, cnt, outs, taken, D, rfl, HCH, HCN, HO, HTK, HG, HM, HU, HB⟩ := hrel
    clear HO4 HG4 HM4 HU4 HB4
    have hpn := HCH.out.hp
    have HLE := Lib.hid HCH.out.len
    by_cases h : pl < n
    · have hlt : decide ((pl : Int) < (n : Int)) = true := decide_eq_true (by omega)
      have hlt2 : decide (pl < n) = true := decide_eq_true h
      have HPN := Lib.hid h
      have hpl32 : pl ≤ 31 := by have := HN2.out; omega
      obtain ⟨wo, hwo⟩ : ∃ wo, wo = wr := ⟨_, rfl⟩
      rw [← hwo] at HO HG HM HU HB ⊢
      have HB0 := Lib.hid (Below.refl wo.heap.size wo)
      clear h hwo
      go_wp2_with fail
      go_loopw [45] (fun t' wq => ∃ t : Nat, t' = .int .i64 t ∧ Hid (t ≤ 50 ∧ tries l x n pl lv taken (50 - t) t = tries l x n pl lv taken 50 0) ∧ Hid (Below wo.heap.size wo wq)) (fun t' _ => (50 - intOf t').toNat)
      case atStart => exact ⟨0, rfl, Lib.hid ⟨by omega, rfl⟩, HB0⟩
      case round =>
        obtain ⟨t, rfl, HT, HBQ⟩ := hrel
        clear HB0
        have ht50 := HT.out.1
        have HBW := Lib.hid (below_then HB.out HB.out.size HBQ.out)
        by_cases h : t < 50
        · have hl3 : decide ((t : Int) < 50) = true := decide_eq_true (by omega)
          have m5 := blk_cell (blk_below HM.out HBQ.out) 5
          have u1 := blk_cell (blk_below HU.out HBQ.out) 1
          obtain ⟨tn, htn⟩ : ∃ tn : Nat, tn = t * n := ⟨_, rfl⟩
          have htn2 : tn ≤ 1600 := by rw [htn]; exact Nat.le_trans (Nat.mul_le_mul (show t ≤ 50 by omega) HN2.out) (by decide)
          have k1 : IntKind.i64.wrap ((t : Int) * (n : Int)) = (tn : Int) := by
            rw [show ((t : Int) * (n : Int)) = (tn : Int) by rw [htn]; exact (Int.natCast_mul t n).symm]
            exact IntWalk.i64_in _ (by omega)
          have k2 : IntKind.i64.wrap ((pl : Int) + (tn : Int)) = (pl : Int) + tn := IntWalk.i64_in _ (by omega)
          have k3 : IntKind.u32.wrap ((pl : Int) + (tn : Int)) = (pl : Int) + tn := by rw [IntKind.wrap_u32]; omega
          have T := Lib.hid (descend_calls A c l x ((pl : Int) + tn) wr (Kd.C_below HX.out HBW.out) HGL.out)
          have HTR : Hid (tries l x n pl lv taken (50 - t) t = match desc x ((pl : Int) + tn) l with | some o => (if keyN lv o ∈ taken then tries l x n pl lv taken (50 - (t + 1)) (t + 1) else some o) | none => tries l x n pl lv taken (50 - (t + 1)) (t + 1)) := Lib.hid (by
            rw [show 50 - t = (50 - (t + 1)) + 1 by omega]
            rw [show ((pl : Int) + tn) = (pl : Int) + (t : Nat) * (n : Int) by rw [htn, Int.natCast_mul]]
            rfl)
          have HT50 := Lib.hid h
          clear htn htn2 h
          go_wp2_with fail
          refine T.out.mono ?_
          rintro e w5 ⟨rfl, hb⟩
          have HBQ5 := Lib.hid (below_then HBQ.out HBQ.out.size hb)
          clear hb T m5 u1 k1 k2 k3 HBQ HBW
          cases hd : desc x ((pl : Int) + tn) l with
          | none =>
            rw [hd] at HTR
            unfold descV zeroA
            clear hd
            have HB6 := Lib.hid (below_alloc HBQ5.out (.cells #[.int .i64 0, .bool false, .bool false, .int .i64 0, .int .i64 0, .int .i64 0, .int .i64 0, .int .i64 0] 40))
            go_wp2_with fail
            go_roundw
            case rel => exact ⟨t + 1, by go_num, Lib.hid ⟨HT50.out, HTR.out.symm.trans HT.out.2⟩, HB6⟩
            case measure => have := HT50.out; simp only [intOf]; omega
          | some o =>
            rw [hd] at HTR
            have HTR2 : Hid (tries l x n pl lv taken (50 - t) t = if keyN lv o ∈ taken then tries l x n pl lv taken (50 - (t + 1)) (t + 1) else some o) := Lib.hid HTR.out
            clear HTR
            unfold descV
            have HWF := Lib.hid (HGL.out.wf o (desc_mem hd) lv)
            clear hd
            obtain ⟨ko, hko⟩ : ∃ ko, ko = keyN lv o := ⟨_, rfl⟩
            have TK : Hid (∀ w, Calls Try.prog kf #[.agg (aggO o)] w fun e w' => e = .returned (.int .i64 ko) ∧ Below w.heap.size w w') := Lib.hid (fun w => by rw [HKF.out, hko]; exact key_any lv HLV.out o w)
            have HKO := Lib.hid hko
            rw [← hko] at HTR2 HWF
            clear hko
            have HB6 := Lib.hid (below_alloc HBQ5.out (.cells (aggO o) 40))
            have HQ6 : Hid ((w5.alloc (.cells (aggO o) 40)).heap[w5.heap.size]? = some (.cells (aggO o) 40 (0, 0))) := Lib.hid (blk_new _ _)
            go_wp2_with fail
            obtain ⟨w6, hw6⟩ : ∃ w6, w6 = w5.alloc (.cells (aggO o) 40) := ⟨_, rfl⟩
            rw [← hw6] at HB6 HQ6 ⊢
            obtain ⟨q, hq⟩ : ∃ q, q = w5.heap.size := ⟨_, rfl⟩
            have HQG : Hid (wo.heap.size ≤ q) := Lib.hid (by rw [hq]; exact HBQ5.out.size)
            rw [← hq] at HQ6 ⊢
            clear hw6 hq HBQ5
            refine (TK.out _).mono ?_
            rintro e w7 ⟨rfl, hb⟩
            have HB7 := Lib.hid (below_then HB6.out HB6.out.size hb)
            have HQ7 := Lib.hid (blk_below HQ6.out hb)
            have HO7 := Lib.hid (ob_below HO.out HB7.out)
            clear hb HB6 HQ6
            obtain ⟨tk, htk⟩ : ∃ tk, tk = decide (ko ∈ taken) := ⟨_, rfl⟩
            have hrun := look_taken HO7.out HTK.out ko HWF.out
            rw [← htk] at hrun
            cases tk with
            | true =>
              have HIN : Hid (ko ∈ taken) := Lib.hid (of_decide_eq_true htk.symm)
              clear htk
              go_wp2_with fail
              go_roundw
              case rel =>
                have e := HTR2.out
                simp only [if_pos HIN.out] at e
                exact ⟨t + 1, by go_num, Lib.hid ⟨HT50.out, e.symm.trans HT.out.2⟩, HB7⟩
              case measure => have := HT50.out; simp only [intOf]; omega
            | false =>
              have HIN : Hid (ko ∉ taken) := Lib.hid (of_decide_eq_false htk.symm)
              clear htk
              obtain ⟨y0, y1, y2, y3, y4, y5, y6, y7⟩ := blkO HQ7.out
              go_wp2_with fail
              refine (TK.out _).mono ?_
              rintro e w8 ⟨rfl, hb⟩
              have HB8 := Lib.hid (below_then HB7.out HB7.out.size hb)
              have HQ8 := Lib.hid (blk_below HQ7.out hb)
              have HO8 := Lib.hid (ob_below HO7.out hb)
              clear hb HB7 HQ7 HO7 y0 y1 y2 y3 y4 y5 y6 y7 hrun
              have HIM := Lib.hid HO8.out.isMap
              have HBW8 := Lib.hid (below_then HB.out HB.out.size HB8.out)
              have HG8 := Lib.hid (blk_below HG.out HB8.out)
              have HM8 := Lib.hid (blk_below HM.out HB8.out)
              have HU8 := Lib.hid (blk_below HU.out HB8.out)
              have HBO : Hid (b < wo.heap.size) := Lib.hid HO.out.lt
              have HPL : Hid (pl < 32) := Lib.hid (by have := HN2.out; have := HPN.out; omega)
              have p0 : (0 : Int) ≤ pl := by omega
              have p1 : (pl : Int) < n := by have := HPN.out; omega
              go_wp2_with (first | (at_mapUpdate; go_must (refine wpList_mapUpdate_own _ rfl _ _ _ 75 rfl 3 4 keyI Try.underlying75 _ b cnt D rfl (by exact HO8.out) ?hn _ _ (.int .i64 ko) rfl rfl (keyOf_int_mk Try.underlying3 HWF.out) (.lit (.bool true)) [] (plainElem_bool Try.underlying4 true) ?_; (case hn => have := HCN.out; have := HPL.out; simp only [maxLen]; omega)); intro w9 ho hg; have HO9 := Lib.hid ho; have HB9 := Lib.hid (HBW8.out.grown hg HBW8.out.size (fun k hk => by injection hk with hk; have := HMG.out; omega)); have HG9 := Lib.hid (blk_grown HG8.out hg (by intro e; injection e with e; have := HGB.out; omega)); have HM9 := Lib.hid (blk_grown HM8.out hg (by intro e; injection e with e; have := HMG.out; omega)); have HU9 := Lib.hid (blk_grown HU8.out hg (by intro e; injection e with e; have := HMG.out; omega)); have HQ9 := Lib.hid (blk_grown HQ8.out hg (by intro e; injection e with e; have := HBO.out; have := HQG.out; omega)); have q0 := blk_cell HQ9.out 0; have gf := blk_frozen HG9.out pl; have gc : w9.cell? ⟨g, pl, none⟩ = some (.int .i64 (-1)) := (by rw [blk_cell HG9.out pl, ← HLE.out]; exact outA_get (by have := HLE.out; have := HPN.out; omega)); clear ho hg HO8 HB8 HQ8 HG8 HM8 HU8 HBW8))
              go_roundw
              case rel =>
                refine ⟨pl + 1, cnt + 1, outs ++ [o.f0], ko :: taken, _, by go_num, Lib.hid (by have e := HTR2.out; rw [if_neg HIN.out] at e; rw [HKO.out]; exact HCH.out.some HPN.out (HT.out.2.symm.trans e)), Lib.hid (by have := HCN.out; omega), Lib.hid (HO9.out.kept (Lib.grownBy_setCell _ g pl _) (by intro e; injection e with e; have := HGB.out; omega)), Lib.hid (taken_put HTK.out HIM.out), Lib.hid ?_, Lib.hid (blk_far HM9.out (by have := HGB.out; have := HMG.out; show w.heap.size ≠ g; omega) _), Lib.hid (blk_far HU9.out (by have := HGB.out; have := HMG.out; show w.heap.size + 1 ≠ g; omega) _), Lib.hid (HB9.out.setCell HGB.out.2 _)⟩
                exact blk_put HG9.out pl _ (by have e := outA_set (n := n) (outs := outs) (by have := HLE.out; have := HPN.out; omega) o.f0; rw [HLE.out] at e; exact e)
              case measure => have := HPN.out; simp only [intOf]; omega
        · obtain rfl : t = 50 := by omega
          have hl3 : decide ((50 : Int) < 50) = false := decide_eq_false (by omega)
          have HNO : Hid (tries l x n pl lv taken 50 0 = none) := Lib.hid HT.out.2.symm
          go_wp2_with fail
          go_roundw
          case rel =>
            exact ⟨pl + 1, cnt, outs ++ [-1], taken, D, by go_num, Lib.hid (HCH.out.none HPN.out HNO.out), Lib.hid (by have := HCN.out; omega), Lib.hid (ob_below HO.out HBQ.out), HTK, Lib.hid (by rw [outA_none (by have := HLE.out; have := HPN.out; omega)]; exact blk_below HG.out HBQ.out), Lib.hid (blk_below HM.out HBQ.out), Lib.hid (blk_below HU.out HBQ.out), HBW⟩
          case measure => have := HPN.out; simp only [intOf]; omega
    · obtain rfl : pl = n := by omega
      have hlt : decide ((pl : Int) < (pl : Int)) = false := decide_eq_false (by omega)
      have hlt2 : decide (pl < pl) = false := decide_eq_false (by omega)
      go_wp2_with fail
      go_ret2
      have e := HCH.out.all
      rw [Nat.sub_self] at e
      simp only [places, List.append_nil] at e
      refine ⟨g, rfl, HGB.out.2, ?_, HB.out⟩
      rw [← e]
      exact HG.out
end Go.Proofs.Ytnpphmgibgfjoaa.Cho
