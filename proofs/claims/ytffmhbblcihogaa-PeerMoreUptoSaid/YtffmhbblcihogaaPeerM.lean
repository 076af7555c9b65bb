import Derived.Test.YtffmhbblcihogaaPeerA
/- PeerKeeps: the walk. -/
namespace Go.Proofs.Ytffmhbblcihogaa.PeerM
open Go.RowKit Go.Proofs.YtffmhbblcihogaaW.PrintWords PAll PeerP Opns Mem PeerK PeerT PeerF PeerS PeerC PeerA
section
variable (A1 : Option Addr) (c1 : Nat) (l : List Xe) (A2 : Option Addr) (c2 : Nat) (es : List Ie) (w : World)
set_option maxHeartbeats 1600000 in
set_option maxRecDepth 100000 in
/-- All but the loop. -/
theorem keeps_bad (at_ head k : Int) (hl : kX.C w A1 l.length l) (hbad : k < 1 ∨ falls (xs_ l) = false) :
    Calls Try.prog 3 #[.slice A1 l.length c1, .slice A2 es.length c2, .agg #[.int .i64 at_, .int .i64 head, .int .i64 k]] w fun e w' => e = .returned (.bool true) ∧ Below w.heap.size w w' := by
  have HBA := Lib.hid (below_alloc (Below.refl w.heap.size w) (.cells #[.int .i64 at_, .int .i64 head, .int .i64 k] 24))
  have hblk : (w.alloc (.cells #[.int .i64 at_, .int .i64 head, .int .i64 k] 24)).heap[w.heap.size]? = some (.cells #[.int .i64 at_, .int .i64 head, .int .i64 k] 24 (0, 0)) := blk_new _ _
  have y0 := blk_cell hblk 0
  have y1 := blk_cell hblk 1
  have y2 := blk_cell hblk 2
  have HC := Lib.hid hl
  have HBAD := Lib.hid hbad
  clear hl hbad hblk
  go_enter Try.func3, Try.ntmps3
  go_wp2_with fail
  go_quiet (fail)
  clear y0 y1 y2
  go_wp2_with fail
  have HB1 := Lib.hid (pw_below_drewN HBA.out nq)
  refine (choose_bad A1 c1 l A2 c2 es _ k (Kd.C_below HC.out HB1.out) HBAD.out).mono ?_
  rintro e w5 ⟨A, c, rfl, hb⟩
  have HB5 := Lib.hid (below_then HB1.out HB1.out.size hb)
  have HB6 := Lib.hid (below_alloc HB5.out (.cells (aggC zeroCh A c) 27))
  clear hb
  go_wp2_with fail
  refine (awake_calls _).mono ?_
  rintro e w7 ⟨rfl, hb⟩
  have HB7 := Lib.hid (below_then HB6.out HB6.out.size hb)
  clear hb
  go_wp2_with fail
  go_ret
  exact ⟨rfl, HB7.out⟩
/-- The world's part that lasts. -/
theorem blkC {w : World} {g : Nat} {r : Ch} {A : Option Addr} {c : Nat} (h : w.heap[g]? = some (.cells (aggC r A c) 27 (0, 0))) : w.cell? ⟨g, 0, none⟩ = some (.int .i64 r.kind) ∧ w.cell? ⟨g, 1, none⟩ = some (.int .i64 r.since) ∧ w.cell? ⟨g, 2, none⟩ = some (.int .i64 r.head) :=
  ⟨blk_cell h 0, blk_cell h 1, blk_cell h 2⟩
/-- So far all that count have it. -/
def AllHave (x : Iv) (head : Int) (n : Nat) : Prop := ∀ i q, i < n → es[i]? = some q → cnt x q.x = true → q.x.now = x.fr ∧ head ≤ q.x.head
theorem AllHave.all {es : List Ie} {x : Iv} {head : Int} (h : AllHave es x head es.length) : ∀ i ∈ es, cnt x i.x = true → i.x.now = x.fr ∧ head ≤ i.x.head := by
  intro i hi hc
  obtain ⟨j, hj, e⟩ := List.mem_iff_getElem.1 hi
  exact h j i hj (by rw [List.getElem?_eq_getElem hj, e]) hc
theorem AllHave.step {es : List Ie} {x : Iv} {head : Int} {n : Nat} {q : Ie} (h : AllHave es x head n) (hq : es[n]? = some q) (hc : cnt x q.x = true → q.x.now = x.fr ∧ head ≤ q.x.head) : AllHave es x head (n + 1) := by
  intro i z hi hz hz2
  rcases Nat.lt_or_ge i n with h1 | h1
  · exact h i z h1 hz hz2
  · obtain rfl : i = n := by omega
    rw [hq] at hz
    obtain rfl := Option.some.inj hz
    exact hc hz2
set_option maxHeartbeats 4000000 in
set_option maxRecDepth 100000 in
theorem keeps_good (at_ head : Int) (k : Nat) (hl : kX.C w A1 l.length l) (hgl : ∀ p ∈ l, GoodX w p) (he : kE.C w A2 es.length es) (hge : ∀ i ∈ es, GoodE w i ∧ (Lit.int .i64 i.x.osd).wf = true) (hs : es.length * 56 ≤ 140737488355328) (hk : 1 ≤ k) (hf : falls (xs_ l) = true) :
    Calls Try.prog 3 #[.slice A1 l.length c1, .slice A2 es.length c2, .agg #[.int .i64 at_, .int .i64 head, .int .i64 k]] w fun e w' => e = .returned (.bool true) ∧ Below w.heap.size w w' := by
  have HBA := Lib.hid (below_alloc (Below.refl w.heap.size w) (.cells #[.int .i64 at_, .int .i64 head, .int .i64 k] 24))
  have hblk : (w.alloc (.cells #[.int .i64 at_, .int .i64 head, .int .i64 k] 24)).heap[w.heap.size]? = some (.cells #[.int .i64 at_, .int .i64 head, .int .i64 k] 24 (0, 0)) := blk_new _ _
  have y0 := blk_cell hblk 0
  have y1 := blk_cell hblk 1
  have y2 := blk_cell hblk 2
  have HC := Lib.hid hl
  have hm1 : l.length ≤ 9223372036854775807 := hl.2.1
  have HE := Lib.hid he
  have hm2 : es.length ≤ 9223372036854775807 := he.2.1
  have HGL := Lib.hid hgl
  have HGE := Lib.hid hge
  have HS := Lib.hid hs
  have HK := Lib.hid hk
  have HF := Lib.hid hf
  clear hl hblk hgl he hge hs hk hf
  go_enter Try.func3, Try.ntmps3
  go_wp2_with fail
  go_quiet (fail)
  clear y0 y1 y2
  go_wp2_with fail
  have HB1 := Lib.hid (pw_below_drewN HBA.out nq)
  refine (choose_good A1 c1 l A2 c2 es _ k (Kd.C_below HC.out HB1.out) (fun p hp => (HGL.out p hp).below HB1.out) (Kd.C_below HE.out HB1.out) (fun i hi => ⟨(HGE.out i hi).1.below HB1.out, (HGE.out i hi).2⟩) HS.out HK.out HF.out).mono ?_
  rintro e w5 ⟨A, c, rfl, hb⟩
  obtain ⟨r, hr⟩ : ∃ r, r = PeerP.choose es k (xs_ l) := ⟨_, rfl⟩
  have HR := Lib.hid hr
  rw [← hr]
  have HB5 := Lib.hid (below_then HB1.out HB1.out.size hb)
  have HB6 := Lib.hid (below_alloc HB5.out (.cells (aggC r A c) 27))
  have HCB : Hid ((w5.alloc (.cells (aggC r A c) 27)).heap[w5.heap.size]? = some (.cells (aggC r A c) 27 (0, 0))) := Lib.hid (blk_new _ _)
  obtain ⟨wg, hwg⟩ : ∃ wg, wg = w5.heap.size := ⟨_, rfl⟩
  clear hb hr HB5
  by_cases ha0 : at_ < 0
  · have hd : decide (at_ < 0) = true := decide_eq_true ha0
    clear ha0
    go_wp2_with fail
    refine (awake_calls _).mono ?_
    rintro e w7 ⟨rfl, hb⟩
    have HB7 := Lib.hid (below_then HB6.out HB6.out.size hb)
    clear hb
    go_wp2_with fail
    go_ret
    exact ⟨rfl, HB7.out⟩
  obtain ⟨a, rfl⟩ := Int.eq_ofNat_of_zero_le (show 0 ≤ at_ by omega)
  clear ha0
  have hd : decide ((a : Int) < 0) = false := decide_eq_false (by omega)
  by_cases ha1 : a < l.length
  · have hd1 : decide (l.length ≤ a) = false := decide_eq_false (by omega)
    have i0 : (0 : Int) ≤ a := by omega
    obtain ⟨ad, p, hp, hA, a0, a1, a2, a3, a4, a5⟩ := at_X (Kd.C_below HC.out HB6.out) a ha1
    subst hA
    have HP := Lib.hid hp
    have HGP := Lib.hid (HGL.out p (List.mem_of_getElem? hp))
    clear hp
    go_wp2_with fail
    refine (count_calls p _ (HGP.out.below HB6.out)).mono ?_
    rintro e w7 ⟨rfl, hb⟩
    have HB7 := Lib.hid (below_then HB6.out HB6.out.size hb)
    have HC7 := Lib.hid (blk_below HCB.out hb)
    clear hb HB6 HCB
    rw [← hwg] at HC7 ⊢
    clear hwg
    by_cases hmny : many p.x.act < k
    · have hd2 : decide (many p.x.act < (k : Int)) = true := decide_eq_true hmny
      clear hmny
      go_wp2_with fail
      refine (awake_calls _).mono ?_
      rintro e w8 ⟨rfl, hb⟩
      have HB8 := Lib.hid (below_then HB7.out HB7.out.size hb)
      clear hb
      go_wp2_with fail
      go_ret
      exact ⟨rfl, HB8.out⟩
    · have hd2 : decide (many p.x.act < (k : Int)) = false := decide_eq_false hmny
      have HMN : Hid ((k : Int) ≤ many p.x.act) := Lib.hid (by omega)
      clear hmny
      have HKP : Hid (AllHave es p.x head es.length → r.kind = 1 ∨ (r.kind = 3 ∧ (p.x.fr < r.since ∨ r.since = p.x.fr ∧ head ≤ r.head))) := Lib.hid (fun h => by
        have := keeps es k HK.out head (xs_ l) a p.x HF.out (by rw [xs_, List.getElem?_map, HP.out]; rfl) HMN.out h.all
        rw [← HR.out] at this
        exact this)
      clear a0 a1 a2 a3 a4 a5
      go_wp2_with fail
      go_loopw [12] (fun i' wr => ∃ (n : Nat), i' = .int .i64 n ∧ Hid (n ≤ es.length ∧ AllHave es p.x head n) ∧ Hid (wr.heap[wg]? = some (.cells (aggC r A c) 27 (0, 0))) ∧ Hid (Below w.heap.size w wr)) (fun i' _ => (es.length - intOf i').toNat)
      case atStart => exact ⟨0, rfl, Lib.hid ⟨Nat.zero_le _, fun i q hi => absurd hi (by omega)⟩, HC7, HB7⟩
      case round =>
        obtain ⟨n, rfl, HN, HCB, HB⟩ := hrel
        have hn := HN.out.1
        clear HC7 HB7
        by_cases h : n < es.length
        · have hlt : decide (n < es.length) = true := decide_eq_true h
          have j0 : (0 : Int) ≤ n := by omega
          obtain ⟨ad1, p1, hp1, hA1, a0, a1, a2, a3, a4, a5⟩ := at_X (Kd.C_below HC.out HB.out) a ha1
          rw [HP.out] at hp1
          obtain rfl := Option.some.inj hp1
          injection hA1 with hA1
          subst hA1
          obtain ⟨ae, q, hq, hAe, b0, b1, b2, b3, b4⟩ := at_E (Kd.C_below HE.out HB.out) n h
          subst hAe
          have HQ := Lib.hid hq
          have T : Hid (∀ d os, Calls Try.prog 9 #[.agg (aggX p), .agg (aggE q)] (Sort.grow (redrawn wr d) os) fun e w' => e = .returned (.bool (cnt p.x q.x)) ∧ Below (Sort.grow (redrawn wr d) os).heap.size (Sort.grow (redrawn wr d) os) w') := Lib.hid (fun d os => lcounts_calls p q _ ((HGP.out.below HB.out).below (below_regrown wr d os)) (((HGE.out q (List.mem_of_getElem? hq)).1.below HB.out).below (below_regrown wr d os)))
          have z0 := cell_regrown a0
          have z1 := cell_regrown a1
          have z2 := cell_regrown a2
          have z3 := cell_regrown a3
          have z4 := cell_regrown a4
          have z5 := cell_regrown a5
          have u0 := cell_regrown b0
          have u1 := cell_regrown b1
          have u2 := cell_regrown b2
          have u3 := cell_regrown b3
          have u4 := cell_regrown b4
          clear hq hp1
          cases hc : cnt p.x q.x
          · have HCN := Lib.hid hc
            rw [hc] at T
            clear hc
            go_wp2_with fail
            refine wp_region_quiet_below (by kernel_rfl) (by kernel_rfl) ?_
            repeat (go_big_quiet_step ((go_at_call 9; exact Calls.regrown_of (T.out _ _))))
            refine wpQuiet_nil ?_
            intro _ hw'
            obtain ⟨⟨dq, osq⟩, hw''⟩ := hw'
            subst hw''
            have HCB2 := Lib.hid (blk_below HCB.out (below_regrown wr dq osq))
            have HB2 := Lib.hid (below_then HB.out HB.out.size (below_regrown wr dq osq))
            go_wp2_with fail
            go_roundw
            case rel => exact ⟨n + 1, by go_num, Lib.hid ⟨by omega, HN.out.2.step HQ.out (fun h => by rw [HCN.out] at h; cases h)⟩, HCB2, HB2⟩
            case measure => simp only [intOf]; omega
          · rw [hc] at T
            clear hc
            by_cases h1 : q.x.now = p.x.fr
            · have e1 : (q.x.now == p.x.fr) = true := beq_iff_eq.2 h1
              have e2 : (q.x.now != p.x.fr) = false := by rw [bne, e1]; rfl
              have H1 := Lib.hid h1
              clear h1
              by_cases h3 : q.x.head < head
              · have e3 : decide (q.x.head < head) = true := decide_eq_true h3
                clear h3
                go_wp2_with fail
                refine wp_region_quiet_below (by kernel_rfl) (by kernel_rfl) ?_
                repeat (go_big_quiet_step ((go_at_call 9; exact Calls.regrown_of (T.out _ _))))
                refine wpQuiet_nil ?_
                intro _ hw'
                obtain ⟨⟨dq, osq⟩, hw''⟩ := hw'
                subst hw''
                have HB2 := Lib.hid (below_then HB.out HB.out.size (below_regrown wr dq osq))
                go_wp2_with fail
                refine (awake_calls _).mono ?_
                rintro e w8 ⟨rfl, hb⟩
                have HB8 := Lib.hid (below_then HB2.out HB2.out.size hb)
                clear hb
                go_wp2_with fail
                go_ret
                exact ⟨rfl, HB8.out⟩
              · have e3 : decide (q.x.head < head) = false := decide_eq_false h3
                have H3 := Lib.hid h3
                clear h3
                go_wp2_with fail
                refine wp_region_quiet_below (by kernel_rfl) (by kernel_rfl) ?_
                repeat (go_big_quiet_step ((go_at_call 9; exact Calls.regrown_of (T.out _ _))))
                refine wpQuiet_nil ?_
                intro _ hw'
                obtain ⟨⟨dq, osq⟩, hw''⟩ := hw'
                subst hw''
                have HCB2 := Lib.hid (blk_below HCB.out (below_regrown wr dq osq))
                have HB2 := Lib.hid (below_then HB.out HB.out.size (below_regrown wr dq osq))
                go_wp2_with fail
                go_roundw
                case rel => exact ⟨n + 1, by go_num, Lib.hid ⟨by omega, HN.out.2.step HQ.out (fun h => ⟨H1.out, by have := H3.out; omega⟩)⟩, HCB2, HB2⟩
                case measure => simp only [intOf]; omega
            · have e1 : (q.x.now == p.x.fr) = false := beq_eq_false_iff_ne.2 h1
              have e2 : (q.x.now != p.x.fr) = true := by rw [bne, e1]; rfl
              clear h1
              go_wp2_with fail
              refine wp_region_quiet_below (by kernel_rfl) (by kernel_rfl) ?_
              repeat (go_big_quiet_step ((go_at_call 9; exact Calls.regrown_of (T.out _ _))))
              refine wpQuiet_nil ?_
              intro _ hw'
              obtain ⟨⟨dq, osq⟩, hw''⟩ := hw'
              subst hw''
              have HB2 := Lib.hid (below_then HB.out HB.out.size (below_regrown wr dq osq))
              go_wp2_with fail
              refine (awake_calls _).mono ?_
              rintro e w8 ⟨rfl, hb⟩
              have HB8 := Lib.hid (below_then HB2.out HB2.out.size hb)
              clear hb
              go_wp2_with fail
              go_ret
              exact ⟨rfl, HB8.out⟩
        · obtain rfl : n = es.length := by omega
          have hlt : decide (es.length < es.length) = false := decide_eq_false (by omega)
          have HKQ := Lib.hid (HKP.out HN.out.2)
          obtain ⟨x0, x1, x2⟩ := blkC HCB.out
          clear h hn
          by_cases hk1 : r.kind = 1
          · rw [hk1] at x0
            clear hk1 HKQ
            go_wp2_with fail
            refine (awake_calls _).mono ?_
            rintro e w8 ⟨rfl, hb⟩
            have HB8 := Lib.hid (below_then HB.out HB.out.size hb)
            clear hb
            go_wp2_with fail
            go_ret
            exact ⟨rfl, HB8.out⟩
          · have hk3 : r.kind = 3 ∧ (p.x.fr < r.since ∨ r.since = p.x.fr ∧ head ≤ r.head) := by
              rcases HKQ.out with h | h
              · exact absurd h hk1
              · exact h
            have H3 := Lib.hid hk3.2
            rw [hk3.1] at x0
            clear hk1 hk3 HKQ
            obtain ⟨ad1, p1, hp1, hA1, a0, a1, a2, a3, a4, a5⟩ := at_X (Kd.C_below HC.out HB.out) a ha1
            rw [HP.out] at hp1
            obtain rfl := Option.some.inj hp1
            injection hA1 with hA1
            subst hA1
            clear hp1 a1 a2 a3 a4 a5
            have T : Hid (∀ d os, Calls Try.prog 8 #[] (Sort.grow (redrawn wr d) os) fun e w' => e = .returned (.bool true) ∧ Below (Sort.grow (redrawn wr d) os).heap.size (Sort.grow (redrawn wr d) os) w') := Lib.hid (fun d os => awake_calls _)
            have z0 := cell_regrown a0
            have v0 := cell_regrown x0
            have v1 := cell_regrown x1
            have v2 := cell_regrown x2
            by_cases h1 : p.x.fr < r.since
            · have e1 : decide (p.x.fr < r.since) = true := decide_eq_true h1
              clear h1 H3
              go_wp2_with fail
              refine wp_region_quiet_below (by kernel_rfl) (by kernel_rfl) ?_
              repeat (go_big_quiet_step ((go_at_call 8; exact Calls.regrown_of (T.out _ _))))
              refine wpQuiet_nil ?_
              intro _ hw'
              obtain ⟨⟨dq, osq⟩, hw''⟩ := hw'
              subst hw''
              have HB2 := Lib.hid (below_then HB.out HB.out.size (below_regrown wr dq osq))
              go_wp2_with fail
              go_ret
              exact ⟨rfl, HB2.out⟩
            · have e1 : decide (p.x.fr < r.since) = false := decide_eq_false h1
              have h3 : r.since = p.x.fr ∧ head ≤ r.head := by
                rcases H3.out with h | h
                · exact absurd h h1
                · exact h
              have e2 : (r.since == p.x.fr) = true := beq_iff_eq.2 h3.1
              have e3 : decide (head ≤ r.head) = true := decide_eq_true h3.2
              clear h1 h3 H3
              go_wp2_with fail
              refine wp_region_quiet_below (by kernel_rfl) (by kernel_rfl) ?_
              repeat (go_big_quiet_step ((go_at_call 8; exact Calls.regrown_of (T.out _ _))))
              refine wpQuiet_nil ?_
              intro _ hw'
              obtain ⟨⟨dq, osq⟩, hw''⟩ := hw'
              subst hw''
              have HB2 := Lib.hid (below_then HB.out HB.out.size (below_regrown wr dq osq))
              go_wp2_with fail
              go_ret
              exact ⟨rfl, HB2.out⟩
  · have hd1 : decide (l.length ≤ a) = true := decide_eq_true (by omega)
    clear ha1
    go_wp2_with fail
    refine (awake_calls _).mono ?_
    rintro e w7 ⟨rfl, hb⟩
    have HB7 := Lib.hid (below_then HB6.out HB6.out.size hb)
    clear hb
    go_wp2_with fail
    go_ret
    exact ⟨rfl, HB7.out⟩
end
end Go.Proofs.Ytffmhbblcihogaa.PeerM
