import Derived.Test.YtcilojakgnjjmaaKCod2
import Derived.Test.YtcilojakgnjjmaaRows
import Derived.WalkKit
import Derived.ProofKit
import Derived.OpenShut
import Derived.ShutString
import Derived.ChangeOld
import Derived.Below
import Derived.SizedLaws
import Derived.JoinedCond
import Derived.Deep.CondSized
/- Merged texts, one behind the other: LmE, RowMessageCodes. -/
/- MessageCodes. -/
set_option linter.unusedSimpArgs false
set_option linter.unusedVariables false
namespace Go.Proofs.Ytcilojakgnjjmaa.LmE
open Go Go.RowKit Go.Proofs.YtcilojakgnjjmaaW.PrintWords Go.Proofs.YtcilojakgnjjmaaW.PrintLast Go.Proofs.YtcilojakgnjjmaaW.PrintMore Mem PAll MeP MeN MeA MeT MeV MeK MeW MeQ MeR MeU MeE MeD MeO WireP UvW VrW DeW ByW LmD
theorem flat_le {m : Nat} {l : List V} (h : ∀ x ∈ l, (encN m x).length ≤ 11 * blkV x) : (l.flatMap (encN m)).length ≤ 11 * blkL l := by
  induction l with
  | nil => simp [blkL]
  | cons x l ih =>
    rw [List.flatMap_cons, List.length_append, blkL]
    have h1 := h x (List.mem_cons_self ..)
    have h2 := ih (fun y hy => h y (List.mem_cons_of_mem _ hy))
    omega
/-- How long a value's bytes may be. -/
theorem enc_len : ∀ (n : Nat) (v : V), mayN n v = true → Fit n v → (encN n v).length ≤ 11 * blkV v := by
  intro n
  induction n with
  | zero =>
    intro v hm hf
    have h1 := hf.here
    rcases MeD.shape hm with ⟨rfl, e⟩ | ⟨rfl, e⟩ | ⟨rfl, e⟩ | ⟨x, rfl, e⟩ | ⟨s, rfl, e⟩ | ⟨s, rfl, e⟩ | ⟨m, l, h0, _⟩
    case inr.inr.inr.inr.inr.inr => omega
    all_goals
      rw [e, blkV]
      simp only [List.length_cons, List.length_nil, List.length_append, byt_len]
      simp only at h1
      first
      | omega
      | (have h2 := uv_len10 (zig_lt h1.2.1)
         omega)
      | (have h2 := uv_len10 (n := s.size) (by omega)
         omega)
  | succ n ih =>
    intro v hm hf
    have h1 := hf.here
    rcases MeD.shape hm with ⟨rfl, e⟩ | ⟨rfl, e⟩ | ⟨rfl, e⟩ | ⟨x, rfl, e⟩ | ⟨s, rfl, e⟩ | ⟨s, rfl, e⟩ | ⟨m, l, h0, rfl, hl, e⟩
    all_goals
      rw [e, blkV]
      simp only [List.length_cons, List.length_nil, List.length_append, byt_len]
      simp only at h1
      first
      | omega
      | (have h2 := uv_len10 (zig_lt h1.2.1)
         omega)
      | (have h2 := uv_len10 (n := s.size) (by omega)
         omega)
      | (obtain rfl : m = n := by omega
         have h2 := uv_len10 (n := l.length) (by omega)
         have h3 := flat_le (m := m) (l := l) (fun x hx => ih x (hl x hx) (hf.2 x hx))
         omega)
theorem same_self (v : V) (h : Sz v) (A B : Option Addr) (c d : Nat) (w : World) (hv : kV.C w A v.f3.length v.f3) (hvl : v.f3.length ≤ c) (hu : kV.C w B v.f3.length v.f3) (hul : v.f3.length ≤ d) :
    Calls Try.prog 12 #[.agg (aggV v A c), .agg (aggV v B d)] w fun e w' => e = .returned (.bool true) ∧ Below w.heap.size w w' := by
  obtain ⟨r, hr, hc⟩ := same_calls v v h A B c d w hv hvl hu hul
  obtain rfl := hr.2 rfl
  exact hc
/-- Decode gives back what was encoded. -/
theorem dec_back {x : V} {w w' : World} {e : Ending} (hm : mayN 16 x = true) (hs : Sz x) (hl : (encN 16 x).length ≤ 1048576) (h : Dec (encN 16 x) w w' e) : ∃ (A : Option Addr) (c : Nat), e = .returned (.tuple #[.agg (aggV x A c), .int .i64 0]) ∧ x.f3.length ≤ c ∧ kV.C w' A x.f3.length x.f3 ∧ Below w.heap.size w w' := by
  rcases h with ⟨h1, _⟩ | ⟨h1, v, ⟨hb, A, c, he, hl, hc⟩, hmv, hsv, hx⟩ | ⟨h1, _, hno⟩
  · omega
  · have hv := (enc_cut 16 x hm 16 v [] [] hmv (by rw [List.append_nil, List.append_nil]; exact hx)).1
    subst hv
    exact ⟨A, c, he, hl, hc, hb⟩
  · exact absurd rfl (hno x hm (hs.fit 16))
set_option maxHeartbeats 16000000 in
set_option maxRecDepth 100000 in
theorem codes_bad (x : V) (hs : Sz x) (A : Option Addr) (c : Nat) (w : World) (hl : x.f3.length ≤ c) (hc : kV.C w A x.f3.length x.f3) (hm : mayN 16 x = false) :
    Calls Try.prog 6 #[.agg (aggV x A c)] w fun e w' => e = .returned (.bool true) ∧ Below w.heap.size w w' := by
  have HB0 := Lib.hid (below_alloc (Below.refl w.heap.size w) (.cells (aggV x A c) 24))
  have HV0 := Lib.hid (blk_new w (.cells (aggV x A c) 24))
  have HC0 := Lib.hid (Kd.C_alloc hc (.cells (aggV x A c) 24))
  have HL := Lib.hid hl
  have HS := Lib.hid hs
  obtain ⟨lt, hlt⟩ := light_calls x hs A c _ HC0.out hl
  have TL := Lib.hid hlt
  clear hlt
  have c0 := blk_cell HV0.out 0
  have c1 := blk_cell HV0.out 1
  have c2 := blk_cell HV0.out 2
  have c3 := blk_cell HV0.out 3
  have HM := Lib.hid hm
  clear hl hc hs hm
  go_enter Try.func6, Try.ntmps6
  go_wp2_with fail
  refine TL.out.mono ?_
  rintro e w1 ⟨rfl, hb⟩
  have HB1 := Lib.hid (below_then HB0.out HB0.out.size hb)
  have HV1 := Lib.hid (blk_below HV0.out hb)
  have HC1 := Lib.hid (Kd.C_below HC0.out hb)
  clear hb HB0 HV0 HC0 TL c0 c1 c2 c3
  cases lt
  · clear HV1 HC1
    go_wp2_with fail
    refine (awake_calls _).mono ?_
    rintro e wz ⟨rfl, hb⟩
    have HBZ := Lib.hid (below_then HB1.out HB1.out.size hb)
    clear hb
    go_wp2_with fail
    go_ret
    exact ⟨rfl, HBZ.out⟩
  · skip
    have c0 := blk_cell HV1.out 0
    have c1 := blk_cell HV1.out 1
    have c2 := blk_cell HV1.out 2
    have c3 := blk_cell HV1.out 3
    go_wp2_with fail
    refine (enc_bad x A c w1 HL.out HC1.out HM.out).mono ?_
    rintro e w2 ⟨rfl, hb⟩
    have HB2 := Lib.hid (below_then HB1.out HB1.out.size hb)
    have HV2 := Lib.hid (blk_below HV1.out hb)
    have HC2 := Lib.hid (Kd.C_below HC1.out hb)
    clear hb HB1 HV1 HC1 c0 c1 c2 c3
    have c0 := blk_cell HV2.out 0
    have c1 := blk_cell HV2.out 1
    have c2 := blk_cell HV2.out 2
    have c3 := blk_cell HV2.out 3
    have T := Lib.hid (rmay_calls x HS.out A c w2 HC2.out HL.out)
    rw [HM.out] at T
    go_wp2_with fail
    refine T.out.mono ?_
    rintro e w3 ⟨rfl, hb⟩
    have HB3 := Lib.hid (below_then HB2.out HB2.out.size hb)
    have HV3 := Lib.hid (blk_below HV2.out hb)
    have HC3 := Lib.hid (Kd.C_below HC2.out hb)
    clear T
    clear hb HB2 HV2 HC2 c0 c1 c2 c3
    have c0 := blk_cell HV3.out 0
    have c1 := blk_cell HV3.out 1
    have c2 := blk_cell HV3.out 2
    have c3 := blk_cell HV3.out 3
    have T := Lib.hid (check_calls x A c w3 HL.out HC3.out)
    rw [HM.out, if_neg (by decide)] at T
    go_wp2_with fail
    refine T.out.mono ?_
    rintro e w4 ⟨rfl, hb⟩
    have HB4 := Lib.hid (below_then HB3.out HB3.out.size hb)
    have HV4 := Lib.hid (blk_below HV3.out hb)
    have HC4 := Lib.hid (Kd.C_below HC3.out hb)
    clear T
    clear hb HB3 HV3 HC3 c0 c1 c2 c3
    have c0 := blk_cell HV4.out 0
    have c1 := blk_cell HV4.out 1
    have c2 := blk_cell HV4.out 2
    have c3 := blk_cell HV4.out 3
    go_wp2_with fail
    refine (awake_calls _).mono ?_
    rintro e wz ⟨rfl, hb⟩
    have HBZ := Lib.hid (below_then HB4.out HB4.out.size hb)
    clear hb
    go_wp2_with fail
    go_ret
    exact ⟨rfl, HBZ.out⟩
set_option maxHeartbeats 16000000 in
set_option maxRecDepth 100000 in
theorem codes_ok (x : V) (hs : Sz x) (A : Option Addr) (c : Nat) (w : World) (hl : x.f3.length ≤ c) (hc : kV.C w A x.f3.length x.f3) (hm : mayN 16 x = true) (hz : (encN 16 x).length + 30 ≤ 140737488355328) :
    Calls Try.prog 6 #[.agg (aggV x A c)] w fun e w' => e = .returned (.bool true) ∧ Below w.heap.size w w' := by
  have HB0 := Lib.hid (below_alloc (Below.refl w.heap.size w) (.cells (aggV x A c) 24))
  have HV0 := Lib.hid (blk_new w (.cells (aggV x A c) 24))
  have HC0 := Lib.hid (Kd.C_alloc hc (.cells (aggV x A c) 24))
  have HL := Lib.hid hl
  have HS := Lib.hid hs
  obtain ⟨lt, hlt⟩ := light_calls x hs A c _ HC0.out hl
  have TL := Lib.hid hlt
  clear hlt
  have c0 := blk_cell HV0.out 0
  have c1 := blk_cell HV0.out 1
  have c2 := blk_cell HV0.out 2
  have c3 := blk_cell HV0.out 3
  have HM := Lib.hid hm
  have HZ := Lib.hid hz
  clear hl hc hs hm hz
  go_enter Try.func6, Try.ntmps6
  go_wp2_with fail
  refine TL.out.mono ?_
  rintro e w1 ⟨rfl, hb⟩
  have HB1 := Lib.hid (below_then HB0.out HB0.out.size hb)
  have HV1 := Lib.hid (blk_below HV0.out hb)
  have HC1 := Lib.hid (Kd.C_below HC0.out hb)
  clear hb HB0 HV0 HC0 TL c0 c1 c2 c3
  cases lt
  · clear HV1 HC1
    go_wp2_with fail
    refine (awake_calls _).mono ?_
    rintro e wz ⟨rfl, hb⟩
    have HBZ := Lib.hid (below_then HB1.out HB1.out.size hb)
    clear hb
    go_wp2_with fail
    go_ret
    exact ⟨rfl, HBZ.out⟩
  · skip
    have c0 := blk_cell HV1.out 0
    have c1 := blk_cell HV1.out 1
    have c2 := blk_cell HV1.out 2
    have c3 := blk_cell HV1.out 3
    go_wp2_with fail
    refine (enc_ok x A c w1 HL.out HC1.out HM.out (HS.out.fit 16) HZ.out).mono ?_
    rintro e w2 ⟨hb, ⟨hlong, rfl⟩ | ⟨hlen, B, cb, rfl, hcb, hCB⟩⟩
    · skip
      have HB2 := Lib.hid (below_then HB1.out HB1.out.size hb)
      have HV2 := Lib.hid (blk_below HV1.out hb)
      have HC2 := Lib.hid (Kd.C_below HC1.out hb)
      have HLN := Lib.hid hlong
      clear hb hlong HB1 HV1 HC1 c0 c1 c2 c3
      have c0 := blk_cell HV2.out 0
      have c1 := blk_cell HV2.out 1
      have c2 := blk_cell HV2.out 2
      have c3 := blk_cell HV2.out 3
      have T := Lib.hid (rmay_calls x HS.out A c w2 HC2.out HL.out)
      rw [HM.out] at T
      go_wp2_with fail
      refine T.out.mono ?_
      rintro e w3 ⟨rfl, hb⟩
      have HB3 := Lib.hid (below_then HB2.out HB2.out.size hb)
      have HV3 := Lib.hid (blk_below HV2.out hb)
      have HC3 := Lib.hid (Kd.C_below HC2.out hb)
      clear T
      clear hb HB2 HV2 HC2 c0 c1 c2 c3
      have c0 := blk_cell HV3.out 0
      have c1 := blk_cell HV3.out 1
      have c2 := blk_cell HV3.out 2
      have c3 := blk_cell HV3.out 3
      have T := Lib.hid (rbytes_calls 16 x HM.out (HS.out.fit 16) A c w3 HL.out HC3.out HZ.out)
      go_wp2_with fail
      refine T.out.mono ?_
      rintro e w4 ⟨bv, rfl, ho, hb⟩
      obtain ⟨E, hE⟩ : ∃ E, E = encN 16 x := ⟨_, rfl⟩
      rw [← hE] at ho HLN
      obtain ⟨A6, c6, rfl, hc6, hC6⟩ := ho.reads
      have d1 : decide (1048576 < E.length) = true := decide_eq_true HLN.out
      have d2 : decide ((1048576 : Int) < (E.length : Int)) = true := decide_eq_true (by have := HLN.out; omega)
      have HB4 := Lib.hid (below_then HB3.out HB3.out.size hb)
      have HV4 := Lib.hid (blk_below HV3.out hb)
      have HC4 := Lib.hid (Kd.C_below HC3.out hb)
      clear T hb ho hc6 hC6 hE HB3 HV3 HC3 c0 c1 c2 c3
      have c0 := blk_cell HV4.out 0
      have c1 := blk_cell HV4.out 1
      have c2 := blk_cell HV4.out 2
      have c3 := blk_cell HV4.out 3
      have T := Lib.hid (check_calls x A c w4 HL.out HC4.out)
      rw [HM.out, if_pos rfl] at T
      go_wp2_with fail
      refine T.out.mono ?_
      rintro e w5 ⟨rfl, hb⟩
      have HB5 := Lib.hid (below_then HB4.out HB4.out.size hb)
      have HV5 := Lib.hid (blk_below HV4.out hb)
      have HC5 := Lib.hid (Kd.C_below HC4.out hb)
      clear T
      clear hb HB4 HV4 HC4 c0 c1 c2 c3
      have c0 := blk_cell HV5.out 0
      have c1 := blk_cell HV5.out 1
      have c2 := blk_cell HV5.out 2
      have c3 := blk_cell HV5.out 3
      go_wp2_with fail
      refine (awake_calls _).mono ?_
      rintro e wz ⟨rfl, hb⟩
      have HBZ := Lib.hid (below_then HB5.out HB5.out.size hb)
      clear hb
      go_wp2_with fail
      go_ret
      exact ⟨rfl, HBZ.out⟩
    · skip
      obtain ⟨E, hE⟩ : ∃ E, E = encN 16 x := ⟨_, rfl⟩
      have HEE := Lib.hid hE
      have HLN := Lib.hid hlen
      rw [← hE] at hCB hcb HLN ⊢
      have HB2 := Lib.hid (below_then HB1.out HB1.out.size hb)
      have HV2 := Lib.hid (blk_below HV1.out hb)
      have HC2 := Lib.hid (Kd.C_below HC1.out hb)
      have HE2 := Lib.hid hCB
      have HCB := Lib.hid hcb
      clear hb hlen hcb hCB hE HB1 HV1 HC1 c0 c1 c2 c3
      have c0 := blk_cell HV2.out 0
      have c1 := blk_cell HV2.out 1
      have c2 := blk_cell HV2.out 2
      have c3 := blk_cell HV2.out 3
      have T := Lib.hid (rmay_calls x HS.out A c w2 HC2.out HL.out)
      rw [HM.out] at T
      go_wp2_with fail
      refine T.out.mono ?_
      rintro e w3 ⟨rfl, hb⟩
      have HB3 := Lib.hid (below_then HB2.out HB2.out.size hb)
      have HV3 := Lib.hid (blk_below HV2.out hb)
      have HC3 := Lib.hid (Kd.C_below HC2.out hb)
      have HE3 := Lib.hid (Kd.C_below HE2.out hb)
      clear T HE2
      clear hb HB2 HV2 HC2 c0 c1 c2 c3
      have c0 := blk_cell HV3.out 0
      have c1 := blk_cell HV3.out 1
      have c2 := blk_cell HV3.out 2
      have c3 := blk_cell HV3.out 3
      have T := Lib.hid (rbytes_calls 16 x HM.out (HS.out.fit 16) A c w3 HL.out HC3.out HZ.out)
      go_wp2_with fail
      refine T.out.mono ?_
      rintro e w4 ⟨bv, rfl, ho, hb⟩
      rw [← HEE.out] at ho
      obtain ⟨A6, c6, rfl, hc6, hC6⟩ := ho.reads
      have d1 : decide (1048576 < E.length) = false := decide_eq_false (by have := HLN.out; omega)
      have d2 : decide ((1048576 : Int) < (E.length : Int)) = false := decide_eq_false (by have := HLN.out; omega)
      have HB4 := Lib.hid (below_then HB3.out HB3.out.size hb)
      have HV4 := Lib.hid (blk_below HV3.out hb)
      have HC4 := Lib.hid (Kd.C_below HC3.out hb)
      have HE4 := Lib.hid (Kd.C_below HE3.out hb)
      have HF4 := Lib.hid hC6
      clear T hb ho hc6 hC6 HB3 HV3 HC3 HE3 c0 c1 c2 c3
      have T := Lib.hid (dec_calls B cb E w4 HCB.out HE4.out (by rw [HEE.out]; exact enc_range 16 x HM.out) (by have := HLN.out; omega))
      go_wp2_with fail
      refine T.out.mono ?_
      rintro e w5 hd
      rw [HEE.out] at hd
      obtain ⟨A7, c7, rfl, hl7, hc7, hb⟩ := dec_back HM.out HS.out (by rw [← HEE.out]; exact HLN.out) hd
      have HB5 := Lib.hid (below_alloc (below_then HB4.out HB4.out.size hb) (.cells (aggV x A7 c7) 24))
      have HV5 := Lib.hid (blk_alloc (blk_below HV4.out hb) (.cells (aggV x A7 c7) 24))
      have HC5 := Lib.hid (Kd.C_alloc (Kd.C_below HC4.out hb) (.cells (aggV x A7 c7) 24))
      have HE5 := Lib.hid (Kd.C_alloc (Kd.C_below HE4.out hb) (.cells (aggV x A7 c7) 24))
      have HF5 := Lib.hid (Kd.C_alloc (Kd.C_below HF4.out hb) (.cells (aggV x A7 c7) 24))
      have HX5 := Lib.hid (Kd.C_alloc hc7 (.cells (aggV x A7 c7) 24))
      have HN5 : Hid ((w5.alloc (.cells (aggV x A7 c7) 24)).heap[w5.heap.size]? = some (.cells (aggV x A7 c7) 24 (0, 0))) := Lib.hid (blk_new _ _)
      have HL7 := Lib.hid hl7
      obtain ⟨w6, hw6⟩ : ∃ w6, w6 = w5.alloc (.cells (aggV x A7 c7) 24) := ⟨_, rfl⟩
      obtain ⟨g6, hg6⟩ : ∃ g, g = w5.heap.size := ⟨_, rfl⟩
      have HW6 := Lib.hid hw6
      have HG6 := Lib.hid hg6
      rw [← hw6] at HB5 HV5 HC5 HE5 HF5 HX5 HN5
      rw [← hg6] at HN5
      have T := Lib.hid (check_calls x A c w6 HL.out HC5.out)
      rw [HM.out, if_pos rfl] at T
      clear hd hb hc7 hl7 hw6 hg6 HB4 HV4 HC4 HE4 HF4
      have c0 := blk_cell HV5.out 0
      have c1 := blk_cell HV5.out 1
      have c2 := blk_cell HV5.out 2
      have c3 := blk_cell HV5.out 3
      rw [HW6.out] at c0 c1 c2 c3 T
      go_wp2_with fail
      refine T.out.mono ?_
      rintro e w7 ⟨rfl, hb⟩
      rw [← HG6.out]
      rw [← HW6.out] at hb
      have HB7 := Lib.hid (below_then HB5.out HB5.out.size hb)
      have HV7 := Lib.hid (blk_below HV5.out hb)
      have HN7 := Lib.hid (blk_below HN5.out hb)
      have HC7 := Kd.C_below HC5.out hb
      have HX7 := Kd.C_below HX5.out hb
      have hce := Kd.C_string (P := Try.prog) (c := cb) Try.underlying39 Try.underlying5 Try.underlying9 (Kd.C_below HE5.out hb)
      have hcf := Kd.C_string (P := Try.prog) (c := c6) Try.underlying39 Try.underlying5 Try.underlying9 (Kd.C_below HF5.out hb)
      have TS := Lib.hid (same_self x HS.out A7 A c7 c w7 HX7 HL7.out HC7 HL.out)
      clear hb T HB5 HV5 HN5 HC5 HX5 HE5 HF5 HC7 HX7 c0 c1 c2 c3
      have c0 := blk_cell HV7.out 0
      have c1 := blk_cell HV7.out 1
      have c2 := blk_cell HV7.out 2
      have c3 := blk_cell HV7.out 3
      have n0 := blk_cell HN7.out 0
      have n1 := blk_cell HN7.out 1
      have n2 := blk_cell HN7.out 2
      have n3 := blk_cell HN7.out 3
      go_wp2_with fail
      refine TS.out.mono ?_
      rintro e w8 ⟨rfl, hb⟩
      have HB8 := Lib.hid (below_then HB7.out HB7.out.size hb)
      clear hb TS c0 c1 c2 c3 n0 n1 n2 n3 hce hcf
      go_wp2_with fail
      refine (awake_calls _).mono ?_
      rintro e wz ⟨rfl, hb⟩
      have HBZ := Lib.hid (below_then HB8.out HB8.out.size hb)
      clear hb
      go_wp2_with fail
      go_ret
      exact ⟨rfl, HBZ.out⟩
theorem codes_calls (x : V) (hs : Sz x) (A : Option Addr) (c : Nat) (w : World) (hl : x.f3.length ≤ c) (hc : kV.C w A x.f3.length x.f3) (hz : blkV x ≤ 1048577) :
    Calls Try.prog 6 #[.agg (aggV x A c)] w fun e w' => e = .returned (.bool true) ∧ Below w.heap.size w w' := by
  cases hm : mayN 16 x
  · exact codes_bad x hs A c w hl hc hm
  · exact codes_ok x hs A c w hl hc hm (by have := enc_len 16 x hm (hs.fit 16); omega)
theorem walkCodes (cs : Array Value) (x : V) (w : World) (hk : kV.K w x cs.toList) (hs : Sz x) (hb : blkV x ≤ 1048576) :
    Calls Try.prog 6 #[.agg cs] w fun e w' => e = .returned (.bool true) ∧ Below w.heap.size w w' := by
  obtain ⟨A, c, rfl, hl, hc⟩ := LmO.agg_of hk
  exact codes_calls x hs A c w hl hc (by omega)
end Go.Proofs.Ytcilojakgnjjmaa.LmE
/- MessageCodes: any value's bytes, and that they are read back; the arguments hold together at most 1048576 values and letters. -/
namespace Go.Proofs.Ytcilojakgnjjmaa.messageCodesUpto
open Go.ChangeShapes Go.WideShapes Go.ChangeAt Go.RowKit Go.Proofs.Ytcilojakgnjjmaa.Opns
open Go.ChangeMaps (open_string shut_string)
set_option linter.unusedVariables false
theorem own : ownKnob Try.prog.godebug = none := by kernel_rfl
theorem laidOut : laidOutB Try.prog = true := by kernel_rfl
set_option maxRecDepth 100000 in
theorem lifted (os : Os) (started : os.Started) (H : Type) (enc : TypeId × Value → H) (F : Stop.Interp) :
    ReturnsInHanded {} Try.checked os 6 .any ((Rows.OpenSpec.upto Rows.messageCodesSpec).pre6 enc Try.prog Try.f6 Rows.messageCodesUptoRow.domain false) (((Rows.OpenSpec.upto Rows.messageCodesSpec).at F).post enc Try.prog Try.f6 false true false false) := by
  refine returnsInHanded_of_cond_sized (C := Try.checked) (s := Rows.OpenSpec.upto Rows.messageCodesSpec) (k := Rows.uptoSmall) rfl own started (by kernel_rfl) Try.func6
    (OpenSpec.witness (enc := enc) (C := Try.checked) (s := Rows.OpenSpec.upto Rows.messageCodesSpec) (k := Rows.uptoSmall) rfl false ⟨#[], #[.agg #[.int .i64 0, .int .i64 0, .string ByteArray.empty, .slice none 0 0]], []⟩ 8 (by kernel_rfl) (by kernel_rfl) (by kernel_rfl)
      (x := ([.agg [.lit (.int .i64 0), .lit (.int .i64 0), .lit (.string []), .nil]], [], [])) (by kernel_rfl) rfl (by kernel_rfl)) ?_
  intro W base args ds gs before hval0 hW hcnd hk0 hsz0 _
  have hsz : (DataW.weightsEach Try.prog (Try.f6.params.toList ++ Rows.messageCodesSpec.plain.varTypes Try.prog) (ds ++ gs)).all (· ≤ reachBytes) = true := hsz0
  have hval : ∀ (j : Nat) t v, Try.f6.params[j]? = some t → args[j]? = some v → Value.okWide Try.prog W .any base t v := hval0
  have hW' := hW
  obtain ⟨p, q, hA0, hV, rfl, hfz, hnd⟩ := hW
  have hA : DataW.TrodAll enc Try.prog W 0 (fun _ => true) true Try.f6.params.toList args.toList ds p := hA0
  rw [Try.params6] at hA hval hsz
  obtain ⟨v0, vs0, d0, ds0, p0, q0, hargs, rfl, rfl, h0, r0⟩ := trodAll_cons hA
  obtain ⟨rfl, rfl, rfl⟩ := trodAll_nil r0
  obtain rfl : args = #[v0] := by cases args; simp_all
  obtain ⟨rfl, rfl⟩ := trodVars_none hV
  have m0 := weigh (j := 0) (t := 24) hsz rfl rfl
  have n0 := bulk_mem (j := 0) hk0 rfl
  have k0 := h0
  have lt0 : ∀ x ∈ p0, x.block < W.heap.size := by obtain ⟨m, hm⟩ := k0; exact DataW.trod_lt m _ _ _ hm
  obtain ⟨cs0, rfl⟩ := okw_struct Try.underlying24 (hval 0 24 v0 rfl rfl)
  obtain ⟨x0, c0, g0, b0⟩ := arg_agg MeO.opens_V h0 m0
  have b0 := Nat.le_trans b0 n0
  clear hA0 hval0 hsz0 hsz
  refine (LmE.walkCodes cs0 x0 W c0 g0 b0).mono fun e W' ⟨he, bel⟩ => ?_
  subst he
  exact ⟨_, rfl, _, _, _, [], _, [], hW', trodAll_mk1 (shut_bool Try.underlying4 _), (trodAll_cons_mk (Below.trod laidOut (by kernel_rfl) (of_decide_eq_true (by kernel_rfl)) k0 bel lt0) trodAll_mk0), rfl, bel.frame _, fun h => by cases h⟩
theorem over : Rows.messageCodesUptoRow.holds Try.pinned (Rows.OpenSpec.upto Rows.messageCodesSpec) :=
  OpenClaim.holds_of_cond 6 Try.f6 rfl rfl rfl rfl rfl rfl rfl ⟨rfl, rfl, rfl, rfl, rfl⟩ rfl rfl rfl rfl rfl (by kernel_rfl) Try.func6 (by kernel_rfl)
    (of_decide_eq_true (by kernel_rfl)) (by unfold Func.isWrapper; first | (rw [if_pos (by decide +kernel)]; kernel_rfl) | (rw [if_neg (by decide +kernel)]; exact ⟨rfl, rfl⟩))
    (fun os started H enc _ F => lifted os started H enc F)
theorem proved : Rows.MessageCodesUptoSaid := over
#print axioms proved
end Go.Proofs.Ytcilojakgnjjmaa.messageCodesUpto
