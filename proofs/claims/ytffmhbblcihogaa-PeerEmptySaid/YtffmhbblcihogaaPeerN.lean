import Derived.Test.YtffmhbblcihogaaPeerO
/- PeerMore: the walk. -/
namespace Go.Proofs.Ytffmhbblcihogaa.PeerN
open Go.RowKit Go.Proofs.YtffmhbblcihogaaW.PrintWords PAll PeerP Opns Mem PeerK PeerT PeerF PeerS PeerC PeerA PeerM PeerO
theorem same_at (a0 a1 a2 a3 b0 b1 b2 b3 : Int) (xs ys : List S52) (he : xs.length = ys.length) (hl : xs.length ≤ 9223372036854775807) : ∀ (d k n : Nat), xs.length - n = d → n ≤ xs.length → d < k → ∃ r, mooringref21_SameInfo.l0 k (n : Int) a0 a1 a2 a3 xs b0 b1 b2 b3 ys = some r := by
  intro d
  induction d with
  | zero =>
    intro k n hd hn hk
    obtain ⟨k, rfl⟩ : ∃ m, k = m + 1 := ⟨k - 1, by omega⟩
    simp only [mooringref21_SameInfo.l0]
    rw [if_neg (by omega)]
    exact ⟨_, rfl⟩
  | succ d ih =>
    intro k n hd hn hk
    obtain ⟨k, rfl⟩ : ∃ m, k = m + 1 := ⟨k - 1, by omega⟩
    have hlt : n < xs.length := by omega
    obtain ⟨r, hr⟩ := ih k (n + 1) (by omega) (by omega) (by omega)
    simp only [mooringref21_SameInfo.l0]
    rw [if_pos (by omega), if_pos (by omega), if_pos (by omega), wrap_next hlt hl, hr]
    split
    · exact ⟨_, rfl⟩
    · exact ⟨_, rfl⟩
theorem same_some (a b : In) (hl : a.next.length ≤ 9223372036854775807) : ∃ k r, mooringref21_SameInfo.f k a.osd a.life a.now a.head a.next b.osd b.life b.now b.head b.next = some r := by
  refine ⟨a.next.length + 2, ?_⟩
  have hj : ∀ (x : Bool), (x = false → a.next.length = b.next.length) → ∃ r, mooringref21_SameInfo.j0 (a.next.length + 2) x a.osd a.life a.now a.head a.next b.osd b.life b.now b.head b.next = some r := by
    intro x hx
    simp only [mooringref21_SameInfo.j0]
    cases x
    · rw [if_neg (by decide)]
      exact same_at _ _ _ _ _ _ _ _ a.next b.next (hx rfl) hl a.next.length _ 0 (by omega) (by omega) (by omega)
    · exact ⟨false, if_pos rfl⟩
  unfold mooringref21_SameInfo.f
  split
  · split
    · split
      · split
        · refine hj _ (fun h => ?_)
          have : (a.next.length : Int) = b.next.length := by
            have h2 : ((a.next.length : Int) == b.next.length) = true := by
              rw [bne] at h
              cases h3 : ((a.next.length : Int) == b.next.length)
              · rw [h3] at h; cases h
              · rfl
            exact beq_iff_eq.1 h2
          omega
        · exact hj _ (fun h => by cases h)
      · exact hj _ (fun h => by cases h)
    · exact hj _ (fun h => by cases h)
  · exact hj _ (fun h => by cases h)
theorem same_calls (p q : Ie) : ∃ r, ∀ w, GoodE w p → GoodE w q → Calls Try.prog 10 #[.agg (aggE p), .agg (aggE q)] w fun e w' => e = .returned (.bool r) ∧ Below w.heap.size w w' := by
  by_cases hl : p.x.next.length ≤ 9223372036854775807
  · obtain ⟨k, r, h⟩ := same_some p.x q.x hl
    exact ⟨r, fun w hp hq => mooringref21_SameInfo.calls k _ _ _ _ _ _ _ _ _ _ _ _ _ _ r w hp.2 hp.1 hq.2 hq.1 h⟩
  · exact ⟨true, fun w hp _ => absurd hp.2.2.1 hl⟩
theorem R_none (W : World) (base H : Nat) (hH : W.heap.size = H) (hb : base ≤ W.heap.size) : kE.R 38 (W.alloc (.cells #[] 38)) base (fun _ => True) (.slice (some ⟨H, 0, none⟩) 0 0) [] := hH ▸
  ⟨fun _ _ => trivial, OwnRow.lit W base (ps := []) (inner := []) (Reps.none _ _) hb (Nat.zero_le _)⟩
section
variable (A1 : Option Addr) (c1 : Nat) (l : List Xe) (A2 : Option Addr) (c2 : Nat) (es : List Ie) (A3 : Option Addr) (c3 : Nat) (ms : List Ie) (w : World)
set_option maxHeartbeats 4000000 in
set_option maxRecDepth 100000 in
theorem more_calls (hl : kX.C w A1 l.length l) (hgl : ∀ p ∈ l, GoodX w p) (he : kE.C w A2 es.length es) (hge : ∀ i ∈ es, GoodE w i ∧ (Lit.int .i64 i.x.osd).wf = true) (hm : kE.C w A3 ms.length ms) (hgm : ∀ i ∈ ms, GoodE w i ∧ (Lit.int .i64 i.x.osd).wf = true) (hs : es.length ≤ 1048576) (ht : ms.length ≤ 1048576) :
    Calls Try.prog 4 #[.slice A1 l.length c1, .slice A2 es.length c2, .slice A3 ms.length c3] w fun e w' => e = .returned (.bool true) ∧ Below w.heap.size w w' := by
  have HC := Lib.hid hl
  have hm1 : l.length ≤ 9223372036854775807 := hl.2.1
  have HE := Lib.hid he
  have hm2 : es.length ≤ 9223372036854775807 := he.2.1
  have HM := Lib.hid hm
  have hm3 : ms.length ≤ 9223372036854775807 := hm.2.1
  have HGL := Lib.hid hgl
  have HGE := Lib.hid hge
  have HGM := Lib.hid hgm
  have HS := Lib.hid (And.intro hs ht)
  have HB0 := Lib.hid (Below.refl w.heap.size w)
  clear hl hgl he hge hm hgm hs ht
  go_enter Try.func4, Try.ntmps4
  go_wp2_with fail
  go_loopw [7, 8] (fun i' _ wr => ∃ (n : Nat), i' = .int .i64 n ∧ Hid (n ≤ es.length) ∧ Hid (Below w.heap.size w wr)) (fun i' _ _ => (es.length - intOf i').toNat)
  case atStart => exact ⟨0, rfl, Lib.hid (Nat.zero_le _), HB0⟩
  case round =>
    obtain ⟨n, rfl, HN, HB⟩ := hrel
    clear HB0
    have hn := HN.out
    by_cases h : n < es.length
    · have hlt : decide (n < es.length) = true := decide_eq_true h
      have i0 : (0 : Int) ≤ n := by omega
      obtain ⟨wo, hwo⟩ : ∃ wo, wo = wr := ⟨_, rfl⟩
      rw [← hwo] at HB ⊢
      clear hwo
      go_wp2_with fail
      go_loopw [8] (fun j' wr => ∃ (m : Nat), j' = .int .i64 m ∧ Hid (m ≤ ms.length) ∧ Hid (Below w.heap.size w wr)) (fun j' _ => (ms.length - intOf j').toNat)
      case atStart => exact ⟨0, rfl, Lib.hid (Nat.zero_le _), HB⟩
      case round =>
        obtain ⟨m, rfl, HJ, HB'⟩ := hrel
        clear HB
        have HB := Lib.hid HB'.out
        clear HB'
        have hj := HJ.out
        by_cases h2 : m < ms.length
        · have hlt2 : decide (m < ms.length) = true := decide_eq_true h2
          have j0 : (0 : Int) ≤ m := by omega
          obtain ⟨ae, q, hq, hAe, a0, a1, a2, a3, a4⟩ := at_E (Kd.C_below HE.out HB.out) n h
          subst hAe
          obtain ⟨am, z, hz, hAm, b0, b1, b2, b3, b4⟩ := at_E (Kd.C_below HM.out HB.out) m h2
          subst hAm
          obtain ⟨r, hr⟩ := same_calls q z
          have T : Hid (∀ d os, Calls Try.prog 10 #[.agg (aggE q), .agg (aggE z)] (Sort.grow (redrawn wr d) os) fun e w' => e = .returned (.bool r) ∧ Below (Sort.grow (redrawn wr d) os).heap.size (Sort.grow (redrawn wr d) os) w') := Lib.hid (fun d os => hr _ (((HGE.out q (List.mem_of_getElem? hq)).1.below HB.out).below (below_regrown wr d os)) (((HGM.out z (List.mem_of_getElem? hz)).1.below HB.out).below (below_regrown wr d os)))
          have x0 := cell_regrown a0
          have x1 := cell_regrown a1
          have x2 := cell_regrown a2
          have x3 := cell_regrown a3
          have x4 := cell_regrown a4
          have y0 := cell_regrown b0
          have y1 := cell_regrown b1
          have y2 := cell_regrown b2
          have y3 := cell_regrown b3
          have y4 := cell_regrown b4
          clear hr hq hz
          cases hb : (q.x.osd == z.x.osd)
          · go_wp2_with fail
            refine wp_region_quiet_below (by kernel_rfl) (by kernel_rfl) ?_
            repeat (go_big_quiet_step ((go_at_call 10; exact Calls.regrown_of (T.out _ _))))
            refine wpQuiet_nil ?_
            intro _ hw'
            obtain ⟨⟨dq, osq⟩, hw''⟩ := hw'
            subst hw''
            have HB2 := Lib.hid (below_then HB.out HB.out.size (below_regrown wr dq osq))
            go_wp2_with fail
            go_roundw
            case rel => exact ⟨m + 1, by go_num, Lib.hid (by omega), HB2⟩
            case measure => simp only [intOf]; omega
          · cases r
            · go_wp2_with fail
              refine wp_region_quiet_below (by kernel_rfl) (by kernel_rfl) ?_
              repeat (go_big_quiet_step ((go_at_call 10; exact Calls.regrown_of (T.out _ _))))
              refine wpQuiet_nil ?_
              intro _ hw'
              obtain ⟨⟨dq, osq⟩, hw''⟩ := hw'
              subst hw''
              have HB2 := Lib.hid (below_then HB.out HB.out.size (below_regrown wr dq osq))
              go_wp2_with fail
              refine (awake_calls _).mono ?_
              rintro e w8 ⟨rfl, hb⟩
              have HB8 := Lib.hid (below_then HB2.out HB2.out.size hb)
              clear hb
              go_wp2_with fail
              go_ret
              exact ⟨rfl, HB8.out⟩
            · go_wp2_with fail
              refine wp_region_quiet_below (by kernel_rfl) (by kernel_rfl) ?_
              repeat (go_big_quiet_step ((go_at_call 10; exact Calls.regrown_of (T.out _ _))))
              refine wpQuiet_nil ?_
              intro _ hw'
              obtain ⟨⟨dq, osq⟩, hw''⟩ := hw'
              subst hw''
              have HB2 := Lib.hid (below_then HB.out HB.out.size (below_regrown wr dq osq))
              go_wp2_with fail
              go_roundw
              case rel => exact ⟨m + 1, by go_num, Lib.hid (by omega), HB2⟩
              case measure => simp only [intOf]; omega
        · obtain rfl : m = ms.length := by omega
          have hlt2 : decide (ms.length < ms.length) = false := decide_eq_false (by omega)
          go_wp2_with fail
          go_roundw
          case rel => exact ⟨n + 1, by go_num, Lib.hid (by omega), HB⟩
          case measure => simp only [intOf]; omega
    · obtain rfl : n = es.length := by omega
      have hlt : decide (es.length < es.length) = false := decide_eq_false (by omega)
      clear h hn
      obtain ⟨wo, hwo⟩ : ∃ wo, wo = wr := ⟨_, rfl⟩
      rw [← hwo] at HB ⊢
      clear hwo
      have key : ∀ W, Below w.heap.size w W → ∃ r1 r2 er, (er = 0 ∨ er = 1) ∧ (er = 0 → r1.kind = 3 → r2.kind = 3 ∧ r1.since ≤ r2.since) ∧ (∀ W, Below w.heap.size w W → Calls Try.prog 6 #[.slice A1 l.length c1, .slice A2 es.length c2, .int .i64 2] W (PostC r1 er W)) ∧ (∀ W A c, Below w.heap.size w W → kE.C W A (es ++ ms).length (es ++ ms) → Calls Try.prog 6 #[.slice A1 l.length c1, .slice A (es ++ ms).length c, .int .i64 2] W (PostC r2 er W)) := by
        intro _ _
        cases hf : falls (xs_ l)
        · exact ⟨zeroCh, zeroCh, 1, .inr rfl, fun h => absurd h (by decide), fun W hW => choose_bad A1 c1 l A2 c2 es W 2 (Kd.C_below HC.out hW) (.inr hf), fun W A c hW _ => choose_bad A1 c1 l A c (es ++ ms) W 2 (Kd.C_below HC.out hW) (.inr hf)⟩
        · refine ⟨PeerP.choose es 2 (xs_ l), PeerP.choose (es ++ ms) 2 (xs_ l), 0, .inl rfl, fun _ h => moreInfos es ms 2 (xs_ l) hf h, fun W hW => ?_, fun W A c hW hC => ?_⟩
          · exact choose_good A1 c1 l A2 c2 es W 2 (Kd.C_below HC.out hW) (fun p hp => (HGL.out p hp).below hW) (Kd.C_below HE.out hW) (fun i hi => ⟨(HGE.out i hi).1.below hW, (HGE.out i hi).2⟩) (by have := HS.out; omega) (by decide) hf
          · refine choose_good A1 c1 l A c (es ++ ms) W 2 (Kd.C_below HC.out hW) (fun p hp => (HGL.out p hp).below hW) hC (fun i hi => ?_) (by rw [List.length_append]; have := HS.out; omega) (by decide) hf
            rcases List.mem_append.1 hi with hi | hi
            · exact ⟨(HGE.out i hi).1.below hW, (HGE.out i hi).2⟩
            · exact ⟨(HGM.out i hi).1.below hW, (HGM.out i hi).2⟩
      obtain ⟨r1, r2, er, her, hrr, t1, t2⟩ := key wo HB.out
      have HER := Lib.hid her
      have HRR := Lib.hid hrr
      have T1 := Lib.hid t1
      have T2 := Lib.hid t2
      clear key her hrr t1 t2
      go_wp2_with fail
      refine (T1.out _ HB.out).mono ?_
      rintro e w1 ⟨Aa, ca, rfl, hb⟩
      have HB1 := Lib.hid (below_alloc (below_then HB.out HB.out.size hb) (.cells (aggC r1 Aa ca) 27))
      have HR1 : Hid ((w1.alloc (.cells (aggC r1 Aa ca) 27)).heap[w1.heap.size]? = some (.cells (aggC r1 Aa ca) 27 (0, 0))) := Lib.hid (blk_new _ _)
      clear hb HB
      obtain ⟨wa, hwa⟩ : ∃ wa, wa = w1.alloc (.cells (aggC r1 Aa ca) 27) := ⟨_, rfl⟩
      have hsz : wa.heap.size = w1.heap.size + 1 := by rw [hwa]; simp
      have HO0 : Hid (kE.R 38 (wa.alloc (.cells #[] 38)) w.heap.size (fun _ => True) (.slice (some ⟨w1.heap.size + 1, 0, none⟩) 0 0) []) := Lib.hid (R_none wa _ _ hsz (by rw [hwa]; exact HB1.out.size))
      rw [hwa] at HO0
      have HB2 := Lib.hid (below_alloc HB1.out (.cells #[] 38))
      have HR2 := Lib.hid (blk_alloc HR1.out (.cells #[] 38))
      clear hwa hsz HB1 HR1
      go_wp2_with (first | (at_builtin; have tok := HO3; go_must (refine Kd.R_append_rows kE (w0 := w) w.heap.size rfl _ _ 23 38 (.agg #[.int .i64 0, .int .i64 0, .int .i64 0, .int .i64 0, .slice none 0 0]) 56 rfl Try.underlying23 infoE rfl (by decide) (by decide) _ es ms A3 ms.length c3 (fun _ => True) (fun _ => False) rfl rfl HO3.out (Kd.C_below HM.out HB3.out) (fun y cs hk => by rw [kE_open hk]; exact kE_mkM _ _ _ y) (fun _ hk => hk.elim) (fun _ _ => trivial) HB3.out HB3.out.size ?hk ?_; (case hk => have := HS.out; omega); intro v4 w4 ho hb hg hg2; obtain ⟨A4, c4, rfl⟩ := Kd.R_slice ho; have HR4 := Lib.hid (blk_grown HR3.out hg (Kd.R_ne HO3.out HR3.out (by decide))); have HO4 := Lib.hid ho; have HB4 := Lib.hid hb; clear ho hb hg hg2 HO3 HB3 HR3 tok)) | (at_builtin; go_must (refine Kd.R_append_rows kE (w0 := w) w.heap.size rfl _ _ 23 38 (.agg #[.int .i64 0, .int .i64 0, .int .i64 0, .int .i64 0, .slice none 0 0]) 56 rfl Try.underlying23 infoE rfl (by decide) (by decide) _ [] es A2 es.length c2 (fun _ => True) (fun _ => False) rfl rfl HO0.out (Kd.C_below HE.out HB2.out) (fun y cs hk => by rw [kE_open hk]; exact kE_mkM _ _ _ y) (fun _ hk => hk.elim) (fun _ _ => trivial) HB2.out HB2.out.size ?hl ?_; (case hl => have := HS.out; simp only [List.length_nil]; omega); intro v3 w3 ho hb hg hg2; rw [List.nil_append] at ho; have HR3 := Lib.hid (blk_grown HR2.out hg (Kd.R_ne HO0.out HR2.out (by decide))); have HO3 := Lib.hid ho; have HB3 := Lib.hid hb; clear ho hb hg hg2 HO0 HB2 HR2)))
      rw [← List.length_append]
      refine (T2.out w4 A4 c4 HB4.out (Kd.R_reads' HO4.out).2.2).mono ?_
      rintro e w5 ⟨Ab, cb, rfl, hb⟩
      have HB5 := Lib.hid (below_alloc (below_then HB4.out HB4.out.size hb) (.cells (aggC r2 Ab cb) 27))
      have HR5 := Lib.hid (blk_alloc (blk_below HR4.out hb) (.cells (aggC r2 Ab cb) 27))
      have HQ5 : Hid ((w5.alloc (.cells (aggC r2 Ab cb) 27)).heap[w5.heap.size]? = some (.cells (aggC r2 Ab cb) 27 (0, 0))) := Lib.hid (blk_new _ _)
      clear hb HB4 HR4 HO4 T1 T2
      obtain ⟨wb, hwb⟩ : ∃ wb, wb = w1.heap.size := ⟨_, rfl⟩
      rw [← hwb] at HR5 ⊢
      clear hwb
      rcases HER.out with h | h
      · subst h
        have HRQ := Lib.hid (HRR.out rfl)
        obtain ⟨x0, x1, x2⟩ := blkC HR5.out
        obtain ⟨y0, y1, y2⟩ := blkC HQ5.out
        clear HRR HER
        by_cases h1 : r1.kind = 3
        · have HRZ := HRQ.out h1
          have e1 : (r1.kind == 3) = true := beq_iff_eq.2 h1
          have e2 : (r1.kind != 3) = false := by rw [bne, e1]; rfl
          have e3 : (r2.kind == 3) = true := beq_iff_eq.2 HRZ.1
          have e4 : decide (r1.since ≤ r2.since) = true := decide_eq_true HRZ.2
          clear HRZ h1 HRQ
          go_wp2_with fail
          refine (awake_calls _).mono ?_
          rintro e w8 ⟨rfl, hb⟩
          have HB8 := Lib.hid (below_then HB5.out HB5.out.size hb)
          clear hb
          go_wp2_with fail
          go_ret
          exact ⟨rfl, HB8.out⟩
        · have e1 : (r1.kind == 3) = false := beq_eq_false_iff_ne.2 h1
          have e2 : (r1.kind != 3) = true := by rw [bne, e1]; rfl
          clear h1 HRQ
          go_wp2_with fail
          refine (awake_calls _).mono ?_
          rintro e w8 ⟨rfl, hb⟩
          have HB8 := Lib.hid (below_then HB5.out HB5.out.size hb)
          clear hb
          go_wp2_with fail
          go_ret
          exact ⟨rfl, HB8.out⟩
      · subst h
        clear HRR HER
        go_wp2_with fail
        refine (awake_calls _).mono ?_
        rintro e w8 ⟨rfl, hb⟩
        have HB8 := Lib.hid (below_then HB5.out HB5.out.size hb)
        clear hb
        go_wp2_with fail
        go_ret
        exact ⟨rfl, HB8.out⟩
end
theorem walkMore (A0 : Option Addr) (c0 : Nat) (x0 : List Iv) (A1 : Option Addr) (c1 : Nat) (x1 : List In) (A2 : Option Addr) (c2 : Nat) (x2 : List In) (w : World) (_ : x0.length ≤ c0) (h0 : kIv.C w A0 x0.length x0) (_ : (∀ x ∈ x0, goodIv x) ∧ x0.length * 96 ≤ reachBytes) (_ : lbulk (fun _ => 0) x0 + 1 ≤ 1048576)
    (_ : x1.length ≤ c1) (h1 : kIn.C w A1 x1.length x1) (g1 : (∀ x ∈ x1, goodIn x) ∧ x1.length * 56 ≤ reachBytes) (b1 : lbulk (fun _ => 1) x1 + 1 ≤ 1048576) (_ : x2.length ≤ c2) (h2 : kIn.C w A2 x2.length x2) (g2 : (∀ x ∈ x2, goodIn x) ∧ x2.length * 56 ≤ reachBytes) (b2 : lbulk (fun _ => 1) x2 + 1 ≤ 1048576) :
    Calls Try.prog 4 #[.slice A0 x0.length c0, .slice A1 x1.length c1, .slice A2 x2.length c2] w fun e w' => e = .returned (.bool true) ∧ Below w.heap.size w w' := by
  obtain ⟨l, rfl, hl, hgl⟩ := C_conv (d' := kX) (f := fun y : Xe => y.x) (G := GoodX) rfl conv_Iv h0
  obtain ⟨es, rfl, he, hge⟩ := C_conv (d' := kE) (f := fun y : Ie => y.x) (G := GoodE) rfl conv_In h1
  obtain ⟨ms, rfl, hm, hgm⟩ := C_conv (d' := kE) (f := fun y : Ie => y.x) (G := GoodE) rfl conv_In h2
  have l1 := lbulk_len (fun _ => 1) (fun _ => Nat.le_refl 1) (es.map (·.x))
  have l2 := lbulk_len (fun _ => 1) (fun _ => Nat.le_refl 1) (ms.map (·.x))
  simp only [List.length_map] at g1 g2 l1 l2 ⊢
  exact more_calls A0 c0 l A1 c1 es A2 c2 ms w hl hgl he (fun i hi => ⟨hge i hi, (g1.1 _ (List.mem_map.2 ⟨i, hi, rfl⟩)).1⟩) hm (fun i hi => ⟨hgm i hi, (g2.1 _ (List.mem_map.2 ⟨i, hi, rfl⟩)).1⟩) (by omega) (by omega)
end Go.Proofs.Ytffmhbblcihogaa.PeerN
