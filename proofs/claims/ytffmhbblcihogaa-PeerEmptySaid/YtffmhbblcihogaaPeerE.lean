import Derived.Test.YtffmhbblcihogaaPeerN
/- PeerEmpty: the walk. -/
namespace Go.Proofs.Ytffmhbblcihogaa.PeerE
open Go.RowKit Go.Proofs.YtffmhbblcihogaaW.PrintWords PAll PeerP Opns Mem PeerK PeerT PeerF PeerS PeerC PeerA PeerM PeerO
open Go.Maps (Keyed int_keyed keyOf_int_mk)
theorem look_is {w : World} {b n : Nat} {D : DW} {met : List Int} (h : OM w b n D) (hd : PeerT.Met met D) (v : Int) (hv : (Lit.int .i64 v).wf = true) : (Instr.lookup 42 (.map (some b)) (.int .i64 v) false).run Try.prog w = .ok (.bool (decide (v ∈ met))) w := by
  obtain ⟨c, h1, h2⟩ := look_met h v hv
  rw [hd v] at h2
  injection h2 with h2
  injection h2 with h2
  rw [h2]
  exact h1
theorem made1 (w : World) : OM (w.alloc (.map #[] 0)) w.heap.size 0 (.map []) := World.ownsMap_made w Try.prog _ _
/-- So far: what those that were told say. -/
theorem heads_snoc (x : Iv) (acc : List Ie) (q : Ie) : heads x (acc ++ [q]) = heads x acc ++ (hasO x q.x).toList := by
  unfold heads
  rw [List.filterMap_append]
  cases h : hasO x q.x <;> simp [h]
theorem lacks_snoc (x : Iv) (acc : List Ie) (q : Ie) : anyLacks x (acc ++ [q]) = (anyLacks x acc || lacks x q.x) := by
  unfold anyLacks
  rw [List.any_append]
  simp
section
variable (A1 : Option Addr) (c1 : Nat) (l : List Xe) (A2 : Option Addr) (c2 : Nat) (es : List Ie) (w : World)
set_option maxHeartbeats 1600000 in
set_option maxRecDepth 100000 in
theorem empty_bad (k : Int) (hl : kX.C w A1 l.length l) (hbad : k < 1 ∨ falls (xs_ l) = false) :
    Calls Try.prog 5 #[.slice A1 l.length c1, .slice A2 es.length c2, .int .i64 k] w fun e w' => e = .returned (.bool true) ∧ Below w.heap.size w w' := by
  have HC := Lib.hid hl
  have HBAD := Lib.hid hbad
  clear hl hbad
  go_enter Try.func5, Try.ntmps5
  go_wp2_with fail
  refine (choose_bad A1 c1 l A2 c2 es _ k HC.out HBAD.out).mono ?_
  rintro e w5 ⟨A, c, rfl, hb⟩
  have HB6 := Lib.hid (below_alloc hb (.cells (aggC zeroCh A c) 27))
  clear hb
  go_wp2_with fail
  refine (awake_calls _).mono ?_
  rintro e w7 ⟨rfl, hb⟩
  have HB7 := Lib.hid (below_then HB6.out HB6.out.size hb)
  clear hb
  go_wp2_with fail
  go_ret
  exact ⟨rfl, HB7.out⟩
set_option maxHeartbeats 4000000 in
set_option maxRecDepth 100000 in
theorem empty_good (k : Nat) (hl : kX.C w A1 l.length l) (hgl : ∀ p ∈ l, GoodX w p) (he : kE.C w A2 es.length es) (hge : ∀ i ∈ es, GoodE w i ∧ (Lit.int .i64 i.x.osd).wf = true) (hs : es.length * 56 ≤ 140737488355328) (hk : 1 ≤ k) (hf : falls (xs_ l) = true) :
    Calls Try.prog 5 #[.slice A1 l.length c1, .slice A2 es.length c2, .int .i64 k] w fun e w' => e = .returned (.bool true) ∧ Below w.heap.size w w' := by
  have HC := Lib.hid hl
  have hm1 : l.length ≤ 9223372036854775807 := hl.2.1
  have HE := Lib.hid he
  have hm2 : es.length ≤ 9223372036854775807 := he.2.1
  have HGL := Lib.hid hgl
  have HGE := Lib.hid hge
  have HS := Lib.hid hs
  have T := Lib.hid (choose_good A1 c1 l A2 c2 es w k hl hgl he hge hs hk hf)
  have hmm := @run_makeMap Try.prog
  clear hl hgl he hge hs hk hf
  go_enter Try.func5, Try.ntmps5
  go_wp2_with fail
  refine T.out.mono ?_
  rintro e w5 ⟨A, c, rfl, hb⟩
  obtain ⟨r, hr⟩ : ∃ r, r = PeerP.choose es k (xs_ l) := ⟨_, rfl⟩
  have HR : Hid ((r.kind == 2) = (xs_ l).all (emptyB es k)) := Lib.hid (by rw [hr]; exact empties es k (xs_ l))
  rw [← hr]
  have HB6 := Lib.hid (below_alloc hb (.cells (aggC r A c) 27))
  have HCB : Hid ((w5.alloc (.cells (aggC r A c) 27)).heap[w5.heap.size]? = some (.cells (aggC r A c) 27 (0, 0))) := Lib.hid (blk_new _ _)
  obtain ⟨wg, hwg⟩ : ∃ wg, wg = w5.heap.size := ⟨_, rfl⟩
  rw [← hwg] at HCB
  clear hb hr T
  go_wp2_with fail
  rw [← hwg]
  clear hwg
  go_loopw [9, 10] (fun b' i' wr => ∃ (n : Nat) (b : Bool), i' = .int .i64 n ∧ b' = .bool b ∧ Hid (n ≤ l.length ∧ b = (xs_ (l.take n)).all (emptyB es k)) ∧ Hid (wr.heap[wg]? = some (.cells (aggC r A c) 27 (0, 0))) ∧ Hid (Below w.heap.size w wr)) (fun _ i' _ => (l.length - intOf i').toNat)
  case atStart => exact ⟨0, true, rfl, rfl, Lib.hid ⟨Nat.zero_le _, rfl⟩, HCB, HB6⟩
  case round =>
    obtain ⟨n, b, rfl, rfl, HN, HCB', HB'⟩ := hrel
    clear HCB HB6
    have HCB := Lib.hid HCB'.out
    have HB := Lib.hid HB'.out
    clear HCB' HB'
    have hn := HN.out.1
    by_cases h : n < l.length
    · have hlt : decide (n < l.length) = true := decide_eq_true h
      have i0 : (0 : Int) ≤ n := by omega
      obtain ⟨ad, p, hp, hA, a0, a1, a2, a3, a4, a5⟩ := at_X (Kd.C_below HC.out HB.out) n h
      subst hA
      have HP := Lib.hid hp
      have HGP := Lib.hid (HGL.out p (List.mem_of_getElem? hp))
      have HST : Hid ((xs_ (l.take (n + 1))).all (emptyB es k) = (b && emptyB es k p.x)) := Lib.hid (by
        rw [List.take_succ_eq_append_getElem h, (List.getElem?_eq_some_iff.1 hp).2, HN.out.2]
        simp [xs_])
      have T := Lib.hid (count_calls p wr (HGP.out.below HB.out))
      clear hp
      go_wp2_with fail
      refine T.out.mono ?_
      rintro e w7 ⟨rfl, hb⟩
      have HB7 := Lib.hid (below_then HB.out HB.out.size hb)
      have HC7 := Lib.hid (blk_below HCB.out hb)
      clear hb HB HCB T a0 a1 a2 a3 a4 a5
      by_cases hmny : many p.x.act < k
      · have hd2 : decide (many p.x.act < (k : Int)) = true := decide_eq_true hmny
        have HEB : Hid (emptyB es k p.x = true) := Lib.hid (by unfold emptyB; rw [decide_eq_false (show ¬ (k : Int) ≤ many p.x.act by omega)]; rfl)
        clear hmny
        go_wp2_with fail
        go_roundw
        case rel => exact ⟨n + 1, b, by go_num, rfl, Lib.hid ⟨by omega, by rw [HST.out, HEB.out, Bool.and_true]⟩, HC7, HB7⟩
        case measure => simp only [intOf]; omega
      · have hd2 : decide (many p.x.act < (k : Int)) = false := decide_eq_false hmny
        have HEB : Hid (emptyB es k p.x = (anyLacks p.x (told p.x [] es) && decide ((heads p.x (told p.x [] es)).length < k))) := Lib.hid (by unfold emptyB; rw [decide_eq_true (show (k : Int) ≤ many p.x.act by omega)]; rfl)
        clear hmny
        obtain ⟨wb, hwb⟩ : ∃ wb, wb = w7.heap.size := ⟨_, rfl⟩
        have HM8 : Hid (OM (w7.alloc (.map #[] 0)) wb 0 (.map [])) := Lib.hid (hwb ▸ made1 w7)
        have HB8 := Lib.hid (below_alloc HB7.out (.map #[] 0))
        have HC8 := Lib.hid (blk_alloc HC7.out (.map #[] 0))
        have HWB : Hid (w.heap.size ≤ wb) := Lib.hid (by rw [hwb]; exact HB7.out.size)
        have HWG : Hid (wg ≠ wb) := Lib.hid (by rw [hwb]; exact Nat.ne_of_lt (blk_lt HC7.out))
        go_wp2_with fail
        rw [← hwb]
        clear hwb HB7 HC7
        go_loopw [11, 12, 14] (fun b' m' i' wr => ∃ (m : Nat) (acc : List Ie) (met : List Int) (D : DW), i' = .int .i64 m ∧ b' = .bool (anyLacks p.x acc) ∧ m' = .int .i64 (heads p.x acc).length ∧ Hid (Sofar p.x es m acc met) ∧ Hid (PeerT.Met met D) ∧ Hid (OM wr wb m D) ∧ Hid (wr.heap[wg]? = some (.cells (aggC r A c) 27 (0, 0))) ∧ Hid (Below w.heap.size w wr)) (fun _ _ i' _ => (es.length - intOf i').toNat)
        case atStart => exact ⟨0, [], [], .map [], rfl, rfl, rfl, Lib.hid ⟨Nat.zero_le _, by simp, by simp⟩, Lib.hid met_nil, HM8, HC8, HB8⟩
        case round =>
          obtain ⟨m, acc, met, D, rfl, rfl, rfl, HSF, HD, HM, HCB, HB⟩ := hrel
          clear HM8 HC8 HB8
          have hj := HSF.out.hn
          have hac : (heads p.x acc).length < 9223372036854775807 := by have := heads_len p.x acc; have := HSF.out.len; have := HS.out; omega
          obtain ⟨ad1, p1, hp1, hA1, a0, a1, a2, a3, a4, a5⟩ := at_X (Kd.C_below HC.out HB.out) n h
          rw [HP.out] at hp1
          obtain rfl := Option.some.inj hp1
          injection hA1 with hA1
          subst hA1
          clear hp1
          by_cases h2 : m < es.length
          · have hlt2 : decide (m < es.length) = true := decide_eq_true h2
            have j0 : (0 : Int) ≤ m := by omega
            obtain ⟨ae, q, hq, hAe, b0, b1, b2, b3, b4⟩ := at_E (Kd.C_below HE.out HB.out) m h2
            subst hAe
            have HQ := Lib.hid hq
            have HGQ := Lib.hid (HGE.out q (List.mem_of_getElem? hq))
            have hw := HGQ.out.2
            have T9 : Hid (∀ d os, Calls Try.prog 9 #[.agg (aggX p), .agg (aggE q)] (Sort.grow (redrawn wr d) os) fun e w' => e = .returned (.bool (cnt p.x q.x)) ∧ Below (Sort.grow (redrawn wr d) os).heap.size (Sort.grow (redrawn wr d) os) w') := Lib.hid (fun d os => lcounts_calls p q _ ((HGP.out.below HB.out).below (below_regrown wr d os)) ((HGQ.out.1.below HB.out).below (below_regrown wr d os)))
            have z0 := cell_regrown a0
            have z1 := cell_regrown a1
            have z2 := cell_regrown a2
            have z3 := cell_regrown a3
            have z4 := cell_regrown a4
            have z5 := cell_regrown a5
            have u0 := cell_regrown b0
            have u1 := cell_regrown b1
            have u2 := cell_regrown b2
            have u3 := cell_regrown b3
            have u4 := cell_regrown b4
            have hrun : ∀ d os, (Instr.lookup 42 (.map (some wb)) (.int .i64 q.x.osd) false).run Try.prog (Sort.grow (redrawn wr d) os) = .ok (.bool (decide (q.x.osd ∈ met))) (Sort.grow (redrawn wr d) os) := fun d os => look_is (om_below HM.out (below_regrown wr d os)) HD.out q.x.osd hw
            clear hq hw
            cases hme : decide (q.x.osd ∈ met)
            · rw [hme] at hrun
              have HME : Hid (q.x.osd ∉ met) := Lib.hid (of_decide_eq_false hme)
              clear hme
              cases hc : cnt p.x q.x
              · have HCN := Lib.hid hc
                rw [hc] at T9
                clear hc
                go_wp2_with fail
                refine wp_region_quiet_below (by kernel_rfl) (by kernel_rfl) ?_
                repeat (go_big_quiet_step ((go_at_call 9; exact Calls.regrown_of (T9.out _ _))))
                refine wpQuiet_nil ?_
                intro _ hw'
                obtain ⟨⟨dq, osq⟩, hw''⟩ := hw'
                subst hw''
                have HB2 := Lib.hid (below_then HB.out HB.out.size (below_regrown wr dq osq))
                have HCB2 := Lib.hid (blk_below HCB.out (below_regrown wr dq osq))
                have HM2 := Lib.hid (om_below HM.out (below_regrown wr dq osq))
                go_wp2_with fail
                go_roundw
                case rel => exact ⟨m + 1, acc, met, D, by go_num, rfl, rfl, Lib.hid (HSF.out.skip HQ.out (fun h => by rw [HCN.out] at h; exact absurd h.1 (by decide))), HD, Lib.hid (HM2.out.mono (by omega)), HCB2, HB2⟩
                case measure => simp only [intOf]; omega
              · have HCN := Lib.hid hc
                rw [hc] at T9
                clear hc
                go_wp2_with fail
                refine wp_region_quiet_below (by kernel_rfl) (by kernel_rfl) ?_
                repeat (go_big_quiet_step ((go_at_call 9; exact Calls.regrown_of (T9.out _ _))))
                refine wpQuiet_nil ?_
                intro _ hw'
                obtain ⟨⟨dq, osq⟩, hw''⟩ := hw'
                subst hw''
                have HB2 := Lib.hid (below_then HB.out HB.out.size (below_regrown wr dq osq))
                have HCB2 := Lib.hid (blk_below HCB.out (below_regrown wr dq osq))
                have HM2 := Lib.hid (om_below HM.out (below_regrown wr dq osq))
                obtain ⟨w1, hw1⟩ : ∃ w1, w1 = Sort.grow (redrawn wr dq) osq := ⟨_, rfl⟩
                rw [← hw1] at HB2 HCB2 HM2 ⊢
                clear hw1 HB HCB HM a0 a1 a2 a3 a4 a5 b0 b1 b2 b3 b4 z0 z1 z2 z3 z4 z5 u0 u1 u2 u3 u4 hrun T9
                obtain ⟨ad1, p1, hp1, hA1, a0, a1, a2, a3, a4, a5⟩ := at_X (Kd.C_below HC.out HB2.out) n h
                rw [HP.out] at hp1
                obtain rfl := Option.some.inj hp1
                injection hA1 with hA1
                subst hA1
                obtain ⟨ae1, q1_, hq1, hAe1, b0, b1, b2, b3, b4⟩ := at_E (Kd.C_below HE.out HB2.out) m h2
                rw [HQ.out] at hq1
                obtain rfl := Option.some.inj hq1
                injection hAe1 with hAe1
                subst hAe1
                clear hp1 hq1
                have z0 := cell_regrown a0
                have z1 := cell_regrown a1
                have z2 := cell_regrown a2
                have z3 := cell_regrown a3
                have z4 := cell_regrown a4
                have z5 := cell_regrown a5
                have u0 := cell_regrown b0
                have u1 := cell_regrown b1
                have u2 := cell_regrown b2
                have u3 := cell_regrown b3
                have u4 := cell_regrown b4
                obtain ⟨r1, r2, hr⟩ : ∃ r1 r2, hasV (hasO p.x q.x) = (r1, r2) := ⟨_, _, rfl⟩
                have T11 : Hid (∀ d os, Calls Try.prog 11 #[.agg (aggX p), .agg (aggE q)] (Sort.grow (redrawn w1 d) os) fun e w' => e = .returned (.tuple #[.int .i64 r1, .bool r2]) ∧ Below (Sort.grow (redrawn w1 d) os).heap.size (Sort.grow (redrawn w1 d) os) w') := Lib.hid (fun d os => by
                  have := rhas_calls p q _ ((HGP.out.below HB2.out).below (below_regrown w1 d os)) ((HGQ.out.1.below HB2.out).below (below_regrown w1 d os))
                  rw [hr] at this
                  exact this)
                have HRR := Lib.hid hr
                clear hr
                go_wp2_with fail
                refine wp_region_quiet_below (by kernel_rfl) (by kernel_rfl) ?_
                repeat (go_big_quiet_step ((go_at_call 11; exact Calls.regrown_of (T11.out _ _))))
                refine wpQuiet_nil ?_
                intro _ hw'
                obtain ⟨⟨dq, osq⟩, hw''⟩ := hw'
                subst hw''
                have HB3 := Lib.hid (below_then HB2.out HB2.out.size (below_regrown w1 dq osq))
                have HCB3 := Lib.hid (blk_below HCB2.out (below_regrown w1 dq osq))
                have HM3 := Lib.hid (om_below HM2.out (below_regrown w1 dq osq))
                obtain ⟨w2, hw2⟩ : ∃ w2, w2 = Sort.grow (redrawn w1 dq) osq := ⟨_, rfl⟩
                rw [← hw2] at HB3 HCB3 HM3 ⊢
                clear hw2 HB2 HCB2 HM2 a0 a1 a2 a3 a4 a5 b0 b1 b2 b3 b4 z0 z1 z2 z3 z4 z5 u0 u1 u2 u3 u4 T11
                obtain ⟨ae1, q1_, hq1, hAe1, b0, b1, b2, b3, b4⟩ := at_E (Kd.C_below HE.out HB3.out) m h2
                rw [HQ.out] at hq1
                obtain rfl := Option.some.inj hq1
                injection hAe1 with hAe1
                subst hAe1
                clear hq1 b1 b2 b3 b4
                have HIM := Lib.hid HM3.out.isMap
                go_wp2_with (first | (at_mapUpdate; go_must (refine wpList_mapUpdate_own _ rfl _ _ _ 42 rfl 3 4 keyI Try.underlying42 _ wb m D rfl (by exact HM3.out) ?hn _ _ (.int .i64 q.x.osd) rfl rfl (keyOf_int_mk Try.underlying3 HGQ.out.2) (.lit (.bool true)) [] (plainElem_bool Try.underlying4 true) ?_; (case hn => have := HS.out; simp only [maxLen]; omega)); intro w3 ho hg; have HM4 := Lib.hid ho; have HB4 := Lib.hid (HB3.out.grown hg HB3.out.size (fun k hk => by injection hk with hk; have := HWB.out; omega)); have HCB4 := Lib.hid (blk_grown HCB3.out hg (by intro e; injection e with e; exact HWG.out e)); clear ho hg HM3 HB3 HCB3 b0))
                go_simp
                obtain ⟨ad1, p1, hp1, hA1, a0, a1, a2, a3, a4, a5⟩ := at_X (Kd.C_below HC.out HB4.out) n h
                rw [HP.out] at hp1
                obtain rfl := Option.some.inj hp1
                injection hA1 with hA1
                subst hA1
                obtain ⟨ae1, q1_, hq1, hAe1, b0, b1, b2, b3, b4⟩ := at_E (Kd.C_below HE.out HB4.out) m h2
                rw [HQ.out] at hq1
                obtain rfl := Option.some.inj hq1
                injection hAe1 with hAe1
                subst hAe1
                clear hp1 hq1
                have z0 := cell_regrown a0
                have z1 := cell_regrown a1
                have z2 := cell_regrown a2
                have z3 := cell_regrown a3
                have z4 := cell_regrown a4
                have z5 := cell_regrown a5
                have u0 := cell_regrown b0
                have u1 := cell_regrown b1
                have u2 := cell_regrown b2
                have u3 := cell_regrown b3
                have u4 := cell_regrown b4
                obtain ⟨lk, hlk⟩ : ∃ lk, lacks p.x q.x = lk := ⟨_, rfl⟩
                have T12 : Hid (∀ d os, Calls Try.prog 12 #[.agg (aggX p), .agg (aggE q)] (Sort.grow (redrawn w3 d) os) fun e w' => e = .returned (.bool lk) ∧ Below (Sort.grow (redrawn w3 d) os).heap.size (Sort.grow (redrawn w3 d) os) w') := Lib.hid (fun d os => by
                  have := rlacks_calls p q _ ((HGP.out.below HB4.out).below (below_regrown w3 d os)) ((HGQ.out.1.below HB4.out).below (below_regrown w3 d os))
                  rw [hlk] at this
                  exact this)
                cases hal : anyLacks p.x acc
                · have LN : anyLacks p.x (acc ++ [q]) = lk := by rw [lacks_snoc, hal, hlk]; rfl
                  have LN := Lib.hid LN
                  clear hlk hal
                  go_wp2_with fail
                  refine wp_region_quiet_below (by kernel_rfl) (by kernel_rfl) ?_
                  repeat (go_big_quiet_step ((go_at_call 12; exact Calls.regrown_of (T12.out _ _))))
                  refine wpQuiet_nil ?_
                  intro _ hw'
                  obtain ⟨⟨dq, osq⟩, hw''⟩ := hw'
                  subst hw''
                  have HB5 := Lib.hid (below_then HB4.out HB4.out.size (below_regrown w3 dq osq))
                  have HCB5 := Lib.hid (blk_below HCB4.out (below_regrown w3 dq osq))
                  have HM5 := Lib.hid (om_below HM4.out (below_regrown w3 dq osq))
                  cases r2
                  · have HLN : Hid ((heads p.x (acc ++ [q])).length = (heads p.x acc).length) := Lib.hid (by rw [heads_snoc, List.length_append]; have := HRR.out; cases hh : hasO p.x q.x with
                      | none => rfl
                      | some z => rw [hh] at this; injection this with _ this; cases this)
                    go_wp2_with fail
                    go_roundw
                    case rel => exact ⟨m + 1, acc ++ [q], q.x.osd :: met, _, by go_num, by rw [LN.out], by rw [HLN.out], Lib.hid (HSF.out.more HQ.out HCN.out HME.out), Lib.hid (met_put HD.out HIM.out), HM5, HCB5, HB5⟩
                    case measure => simp only [intOf]; omega
                  · have HLN : Hid ((heads p.x (acc ++ [q])).length = (heads p.x acc).length + 1) := Lib.hid (by rw [heads_snoc, List.length_append]; have := HRR.out; cases hh : hasO p.x q.x with
                      | none => rw [hh] at this; injection this with _ this; cases this
                      | some z => rfl)
                    go_wp2_with fail
                    go_roundw
                    case rel => exact ⟨m + 1, acc ++ [q], q.x.osd :: met, _, by go_num, by rw [LN.out], by rw [HLN.out]; go_num, Lib.hid (HSF.out.more HQ.out HCN.out HME.out), Lib.hid (met_put HD.out HIM.out), HM5, HCB5, HB5⟩
                    case measure => simp only [intOf]; omega
                · have LN : anyLacks p.x (acc ++ [q]) = true := by rw [lacks_snoc, hal]; rfl
                  have LN := Lib.hid LN
                  clear hlk hal
                  go_wp2_with fail
                  refine wp_region_quiet_below (by kernel_rfl) (by kernel_rfl) ?_
                  repeat (go_big_quiet_step ((go_at_call 12; exact Calls.regrown_of (T12.out _ _))))
                  refine wpQuiet_nil ?_
                  intro _ hw'
                  obtain ⟨⟨dq, osq⟩, hw''⟩ := hw'
                  subst hw''
                  have HB5 := Lib.hid (below_then HB4.out HB4.out.size (below_regrown w3 dq osq))
                  have HCB5 := Lib.hid (blk_below HCB4.out (below_regrown w3 dq osq))
                  have HM5 := Lib.hid (om_below HM4.out (below_regrown w3 dq osq))
                  cases r2
                  · have HLN : Hid ((heads p.x (acc ++ [q])).length = (heads p.x acc).length) := Lib.hid (by rw [heads_snoc, List.length_append]; have := HRR.out; cases hh : hasO p.x q.x with
                      | none => rfl
                      | some z => rw [hh] at this; injection this with _ this; cases this)
                    go_wp2_with fail
                    go_roundw
                    case rel => exact ⟨m + 1, acc ++ [q], q.x.osd :: met, _, by go_num, by rw [LN.out], by rw [HLN.out], Lib.hid (HSF.out.more HQ.out HCN.out HME.out), Lib.hid (met_put HD.out HIM.out), HM5, HCB5, HB5⟩
                    case measure => simp only [intOf]; omega
                  · have HLN : Hid ((heads p.x (acc ++ [q])).length = (heads p.x acc).length + 1) := Lib.hid (by rw [heads_snoc, List.length_append]; have := HRR.out; cases hh : hasO p.x q.x with
                      | none => rw [hh] at this; injection this with _ this; cases this
                      | some z => rfl)
                    go_wp2_with fail
                    go_roundw
                    case rel => exact ⟨m + 1, acc ++ [q], q.x.osd :: met, _, by go_num, by rw [LN.out], by rw [HLN.out]; go_num, Lib.hid (HSF.out.more HQ.out HCN.out HME.out), Lib.hid (met_put HD.out HIM.out), HM5, HCB5, HB5⟩
                    case measure => simp only [intOf]; omega
            · rw [hme] at hrun
              have HME : Hid (q.x.osd ∈ met) := Lib.hid (of_decide_eq_true hme)
              clear hme
              go_wp2_with fail
              refine wp_region_quiet_below (by kernel_rfl) (by kernel_rfl) ?_
              repeat (go_big_quiet_step ((go_at_call 9; exact Calls.regrown_of (T9.out _ _))))
              refine wpQuiet_nil ?_
              intro _ hw'
              obtain ⟨⟨dq, osq⟩, hw''⟩ := hw'
              subst hw''
              have HB2 := Lib.hid (below_then HB.out HB.out.size (below_regrown wr dq osq))
              have HCB2 := Lib.hid (blk_below HCB.out (below_regrown wr dq osq))
              have HM2 := Lib.hid (om_below HM.out (below_regrown wr dq osq))
              go_wp2_with fail
              go_roundw
              case rel => exact ⟨m + 1, acc, met, D, by go_num, rfl, rfl, Lib.hid (HSF.out.skip HQ.out (fun h => h.2 HME.out)), HD, Lib.hid (HM2.out.mono (by omega)), HCB2, HB2⟩
              case measure => simp only [intOf]; omega
          · obtain rfl : m = es.length := by omega
            have hlt2 : decide (es.length < es.length) = false := decide_eq_false (by omega)
            have HT : Hid (acc = told p.x [] es) := Lib.hid (by have := HSF.out.all; rw [List.drop_length] at this; simpa [told] using this)
            obtain ⟨al, hal⟩ : ∃ al, anyLacks p.x acc = al := ⟨_, rfl⟩
            obtain ⟨hn2, hhn⟩ : ∃ hn2, (heads p.x acc).length = hn2 := ⟨_, rfl⟩
            have HEQ : Hid (emptyB es k p.x = (al && decide (hn2 < k))) := Lib.hid (by rw [HEB.out, ← HT.out, hal, hhn])
            rw [hal, hhn]
            clear hal hhn hac h2
            cases hdk : decide (hn2 < k)
            · have HDK := Lib.hid hdk
              cases b
              · go_wp2_with fail
                go_roundw
                case rel => exact ⟨n + 1, false, by go_num, rfl, Lib.hid ⟨by omega, by rw [HST.out]; rfl⟩, HCB, HB⟩
                case measure => simp only [intOf]; omega
              · cases al
                · go_wp2_with fail
                  go_roundw
                  case rel => exact ⟨n + 1, false, by go_num, rfl, Lib.hid ⟨by omega, by rw [HST.out, HEQ.out]; rfl⟩, HCB, HB⟩
                  case measure => simp only [intOf]; omega
                · go_wp2_with fail
                  go_roundw
                  case rel => exact ⟨n + 1, false, by go_num, rfl, Lib.hid ⟨by omega, by rw [HST.out, HEQ.out, HDK.out]; rfl⟩, HCB, HB⟩
                  case measure => simp only [intOf]; omega
            · have HDK := Lib.hid hdk
              cases b
              · go_wp2_with fail
                go_roundw
                case rel => exact ⟨n + 1, false, by go_num, rfl, Lib.hid ⟨by omega, by rw [HST.out]; rfl⟩, HCB, HB⟩
                case measure => simp only [intOf]; omega
              · cases al
                · go_wp2_with fail
                  go_roundw
                  case rel => exact ⟨n + 1, false, by go_num, rfl, Lib.hid ⟨by omega, by rw [HST.out, HEQ.out]; rfl⟩, HCB, HB⟩
                  case measure => simp only [intOf]; omega
                · go_wp2_with fail
                  go_roundw
                  case rel => exact ⟨n + 1, true, by go_num, rfl, Lib.hid ⟨by omega, by rw [HST.out, HEQ.out, HDK.out]; rfl⟩, HCB, HB⟩
                  case measure => simp only [intOf]; omega
    · obtain rfl : n = l.length := by omega
      have hlt : decide (l.length < l.length) = false := decide_eq_false (by omega)
      have hb : (r.kind == 2) = b := by rw [HR.out, HN.out.2, List.take_length]
      obtain ⟨x0, x1, x2⟩ := blkC HCB.out
      clear h hn
      cases b
      · go_wp2_with fail
        refine (awake_calls _).mono ?_
        rintro e w8 ⟨rfl, hb⟩
        have HB8 := Lib.hid (below_then HB.out HB.out.size hb)
        clear hb
        go_wp2_with fail
        go_ret
        exact ⟨rfl, HB8.out⟩
      · go_wp2_with fail
        refine (awake_calls _).mono ?_
        rintro e w8 ⟨rfl, hb⟩
        have HB8 := Lib.hid (below_then HB.out HB.out.size hb)
        clear hb
        go_wp2_with fail
        go_ret
        exact ⟨rfl, HB8.out⟩
end
theorem walkEmpty (A0 : Option Addr) (c0 : Nat) (x0 : List Iv) (A1 : Option Addr) (c1 : Nat) (x1 : List In) (k : Int) (w : World) (_ : x0.length ≤ c0) (h0 : kIv.C w A0 x0.length x0) (_ : (∀ x ∈ x0, goodIv x) ∧ x0.length * 96 ≤ reachBytes)
    (_ : x1.length ≤ c1) (h1 : kIn.C w A1 x1.length x1) (g1 : (∀ x ∈ x1, goodIn x) ∧ x1.length * 56 ≤ reachBytes) (_ : (Lit.int .i64 k).wf = true) :
    Calls Try.prog 5 #[.slice A0 x0.length c0, .slice A1 x1.length c1, .int .i64 k] w fun e w' => e = .returned (.bool true) ∧ Below w.heap.size w w' := by
  obtain ⟨l, rfl, hl, hgl⟩ := C_conv (d' := kX) (f := fun y : Xe => y.x) (G := GoodX) rfl conv_Iv h0
  obtain ⟨es, rfl, he, hge⟩ := C_conv (d' := kE) (f := fun y : Ie => y.x) (G := GoodE) rfl conv_In h1
  simp only [List.length_map] at g1 ⊢
  by_cases hk : 1 ≤ k
  · obtain ⟨k, rfl⟩ := Int.eq_ofNat_of_zero_le (show 0 ≤ k by omega)
    cases hf : falls (xs_ l)
    · exact empty_bad A0 c0 l A1 c1 es w k hl (.inr hf)
    · refine empty_good A0 c0 l A1 c1 es w k hl hgl he (fun i hi => ⟨hge i hi, (g1.1 _ (List.mem_map.2 ⟨i, hi, rfl⟩)).1⟩) ?_ (by omega) hf
      have := g1.2
      simp only [reachBytes] at this
      omega
  · exact empty_bad A0 c0 l A1 c1 es w k hl (.inl (by omega))
end Go.Proofs.Ytffmhbblcihogaa.PeerE
