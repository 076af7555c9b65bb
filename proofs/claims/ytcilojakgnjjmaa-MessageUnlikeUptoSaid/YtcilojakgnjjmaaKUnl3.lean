import Derived.Test.YtcilojakgnjjmaaKUnl2
import Derived.Deep.QuietTactic
import Derived.Lib.QuietBelow
import Derived.Test.YtcilojakgnjjmaaRows
import Derived.WalkKit
import Derived.ProofKit
import Derived.OpenShut
import Derived.ShutString
import Derived.ChangeOld
import Derived.Below
import Derived.SizedLaws
import Derived.JoinedCond
import Derived.Deep.CondSized
/- Merged texts, one behind the other: LmE, SaW, LmU, RowMessageUnlike. -/
/- MessageCodes. -/
set_option linter.unusedSimpArgs false
set_option linter.unusedVariables false
namespace Go.Proofs.Ytcilojakgnjjmaa.LmE
open Go Go.RowKit Go.Proofs.YtcilojakgnjjmaaW.PrintWords Go.Proofs.YtcilojakgnjjmaaW.PrintLast Go.Proofs.YtcilojakgnjjmaaW.PrintMore Mem PAll MeP MeN MeA MeT MeV MeK MeW MeQ MeR MeU MeE MeD MeO WireP UvW VrW DeW ByW LmD
theorem flat_le {m : Nat} {l : List V} (h : ∀ x ∈ l, (encN m x).length ≤ 11 * blkV x) : (l.flatMap (encN m)).length ≤ 11 * blkL l := by
  induction l with
  | nil => simp [blkL]
  | cons x l ih =>
    rw [List.flatMap_cons, List.length_append, blkL]
    have h1 := h x (List.mem_cons_self ..)
    have h2 := ih (fun y hy => h y (List.mem_cons_of_mem _ hy))
    omega
/-- How long a value's bytes may be. -/
theorem enc_len : ∀ (n : Nat) (v : V), mayN n v = true → Fit n v → (encN n v).length ≤ 11 * blkV v := by
  intro n
  induction n with
  | zero =>
    intro v hm hf
    have h1 := hf.here
    rcases MeD.shape hm with ⟨rfl, e⟩ | ⟨rfl, e⟩ | ⟨rfl, e⟩ | ⟨x, rfl, e⟩ | ⟨s, rfl, e⟩ | ⟨s, rfl, e⟩ | ⟨m, l, h0, _⟩
    case inr.inr.inr.inr.inr.inr => omega
    all_goals
      rw [e, blkV]
      simp only [List.length_cons, List.length_nil, List.length_append, byt_len]
      simp only at h1
      first
      | omega
      | (have h2 := uv_len10 (zig_lt h1.2.1)
         omega)
      | (have h2 := uv_len10 (n := s.size) (by omega)
         omega)
  | succ n ih =>
    intro v hm hf
    have h1 := hf.here
    rcases MeD.shape hm with ⟨rfl, e⟩ | ⟨rfl, e⟩ | ⟨rfl, e⟩ | ⟨x, rfl, e⟩ | ⟨s, rfl, e⟩ | ⟨s, rfl, e⟩ | ⟨m, l, h0, rfl, hl, e⟩
    all_goals
      rw [e, blkV]
      simp only [List.length_cons, List.length_nil, List.length_append, byt_len]
      simp only at h1
      first
      | omega
      | (have h2 := uv_len10 (zig_lt h1.2.1)
         omega)
      | (have h2 := uv_len10 (n := s.size) (by omega)
         omega)
      | (obtain rfl : m = n := by omega
         have h2 := uv_len10 (n := l.length) (by omega)
         have h3 := flat_le (m := m) (l := l) (fun x hx => ih x (hl x hx) (hf.2 x hx))
         omega)
theorem same_self (v : V) (h : Sz v) (A B : Option Addr) (c d : Nat) (w : World) (hv : kV.C w A v.f3.length v.f3) (hvl : v.f3.length ≤ c) (hu : kV.C w B v.f3.length v.f3) (hul : v.f3.length ≤ d) :
    Calls Try.prog 12 #[.agg (aggV v A c), .agg (aggV v B d)] w fun e w' => e = .returned (.bool true) ∧ Below w.heap.size w w' := by
  obtain ⟨r, hr, hc⟩ := same_calls v v h A B c d w hv hvl hu hul
  obtain rfl := hr.2 rfl
  exact hc
/-- Decode gives back what was encoded. -/
theorem dec_back {x : V} {w w' : World} {e : Ending} (hm : mayN 16 x = true) (hs : Sz x) (hl : (encN 16 x).length ≤ 1048576) (h : Dec (encN 16 x) w w' e) : ∃ (A : Option Addr) (c : Nat), e = .returned (.tuple #[.agg (aggV x A c), .int .i64 0]) ∧ x.f3.length ≤ c ∧ kV.C w' A x.f3.length x.f3 ∧ Below w.heap.size w w' := by
  rcases h with ⟨h1, _⟩ | ⟨h1, v, ⟨hb, A, c, he, hl, hc⟩, hmv, hsv, hx⟩ | ⟨h1, _, hno⟩
  · omega
  · have hv := (enc_cut 16 x hm 16 v [] [] hmv (by rw [List.append_nil, List.append_nil]; exact hx)).1
    subst hv
    exact ⟨A, c, he, hl, hc, hb⟩
  · exact absurd rfl (hno x hm (hs.fit 16))
set_option maxHeartbeats 16000000 in
set_option maxRecDepth 100000 in
theorem codes_bad (x : V) (hs : Sz x) (A : Option Addr) (c : Nat) (w : World) (hl : x.f3.length ≤ c) (hc : kV.C w A x.f3.length x.f3) (hm : mayN 16 x = false) :
    Calls Try.prog 6 #[.agg (aggV x A c)] w fun e w' => e = .returned (.bool true) ∧ Below w.heap.size w w' := by
  have HB0 := Lib.hid (below_alloc (Below.refl w.heap.size w) (.cells (aggV x A c) 24))
  have HV0 := Lib.hid (blk_new w (.cells (aggV x A c) 24))
  have HC0 := Lib.hid (Kd.C_alloc hc (.cells (aggV x A c) 24))
  have HL := Lib.hid hl
  have HS := Lib.hid hs
  obtain ⟨lt, hlt⟩ := light_calls x hs A c _ HC0.out hl
  have TL := Lib.hid hlt
  clear hlt
  have c0 := blk_cell HV0.out 0
  have c1 := blk_cell HV0.out 1
  have c2 := blk_cell HV0.out 2
  have c3 := blk_cell HV0.out 3
  have HM := Lib.hid hm
  clear hl hc hs hm
  go_enter Try.func6, Try.ntmps6
  go_wp2_with fail
  refine TL.out.mono ?_
  rintro e w1 ⟨rfl, hb⟩
  have HB1 := Lib.hid (below_then HB0.out HB0.out.size hb)
  have HV1 := Lib.hid (blk_below HV0.out hb)
  have HC1 := Lib.hid (Kd.C_below HC0.out hb)
  clear hb HB0 HV0 HC0 TL c0 c1 c2 c3
  cases lt
  · clear HV1 HC1
    go_wp2_with fail
    refine (awake_calls _).mono ?_
    rintro e wz ⟨rfl, hb⟩
    have HBZ := Lib.hid (below_then HB1.out HB1.out.size hb)
    clear hb
    go_wp2_with fail
    go_ret
    exact ⟨rfl, HBZ.out⟩
  · skip
    have c0 := blk_cell HV1.out 0
    have c1 := blk_cell HV1.out 1
    have c2 := blk_cell HV1.out 2
    have c3 := blk_cell HV1.out 3
    go_wp2_with fail
    refine (enc_bad x A c w1 HL.out HC1.out HM.out).mono ?_
    rintro e w2 ⟨rfl, hb⟩
    have HB2 := Lib.hid (below_then HB1.out HB1.out.size hb)
    have HV2 := Lib.hid (blk_below HV1.out hb)
    have HC2 := Lib.hid (Kd.C_below HC1.out hb)
    clear hb HB1 HV1 HC1 c0 c1 c2 c3
    have c0 := blk_cell HV2.out 0
    have c1 := blk_cell HV2.out 1
    have c2 := blk_cell HV2.out 2
    have c3 := blk_cell HV2.out 3
    have T := Lib.hid (rmay_calls x HS.out A c w2 HC2.out HL.out)
    rw [HM.out] at T
    go_wp2_with fail
    refine T.out.mono ?_
    rintro e w3 ⟨rfl, hb⟩
    have HB3 := Lib.hid (below_then HB2.out HB2.out.size hb)
    have HV3 := Lib.hid (blk_below HV2.out hb)
    have HC3 := Lib.hid (Kd.C_below HC2.out hb)
    clear T
    clear hb HB2 HV2 HC2 c0 c1 c2 c3
    have c0 := blk_cell HV3.out 0
    have c1 := blk_cell HV3.out 1
    have c2 := blk_cell HV3.out 2
    have c3 := blk_cell HV3.out 3
    have T := Lib.hid (check_calls x A c w3 HL.out HC3.out)
    rw [HM.out, if_neg (by decide)] at T
    go_wp2_with fail
    refine T.out.mono ?_
    rintro e w4 ⟨rfl, hb⟩
    have HB4 := Lib.hid (below_then HB3.out HB3.out.size hb)
    have HV4 := Lib.hid (blk_below HV3.out hb)
    have HC4 := Lib.hid (Kd.C_below HC3.out hb)
    clear T
    clear hb HB3 HV3 HC3 c0 c1 c2 c3
    have c0 := blk_cell HV4.out 0
    have c1 := blk_cell HV4.out 1
    have c2 := blk_cell HV4.out 2
    have c3 := blk_cell HV4.out 3
    go_wp2_with fail
    refine (awake_calls _).mono ?_
    rintro e wz ⟨rfl, hb⟩
    have HBZ := Lib.hid (below_then HB4.out HB4.out.size hb)
    clear hb
    go_wp2_with fail
    go_ret
    exact ⟨rfl, HBZ.out⟩
set_option maxHeartbeats 16000000 in
set_option maxRecDepth 100000 in
theorem codes_ok (x : V) (hs : Sz x) (A : Option Addr) (c : Nat) (w : World) (hl : x.f3.length ≤ c) (hc : kV.C w A x.f3.length x.f3) (hm : mayN 16 x = true) (hz : (encN 16 x).length + 30 ≤ 140737488355328) :
    Calls Try.prog 6 #[.agg (aggV x A c)] w fun e w' => e = .returned (.bool true) ∧ Below w.heap.size w w' := by
  have HB0 := Lib.hid (below_alloc (Below.refl w.heap.size w) (.cells (aggV x A c) 24))
  have HV0 := Lib.hid (blk_new w (.cells (aggV x A c) 24))
  have HC0 := Lib.hid (Kd.C_alloc hc (.cells (aggV x A c) 24))
  have HL := Lib.hid hl
  have HS := Lib.hid hs
  obtain ⟨lt, hlt⟩ := light_calls x hs A c _ HC0.out hl
  have TL := Lib.hid hlt
  clear hlt
  have c0 := blk_cell HV0.out 0
  have c1 := blk_cell HV0.out 1
  have c2 := blk_cell HV0.out 2
  have c3 := blk_cell HV0.out 3
  have HM := Lib.hid hm
  have HZ := Lib.hid hz
  clear hl hc hs hm hz
  go_enter Try.func6, Try.ntmps6
  go_wp2_with fail
  refine TL.out.mono ?_
  rintro e w1 ⟨rfl, hb⟩
  have HB1 := Lib.hid (below_then HB0.out HB0.out.size hb)
  have HV1 := Lib.hid (blk_below HV0.out hb)
  have HC1 := Lib.hid (Kd.C_below HC0.out hb)
  clear hb HB0 HV0 HC0 TL c0 c1 c2 c3
  cases lt
  · clear HV1 HC1
    go_wp2_with fail
    refine (awake_calls _).mono ?_
    rintro e wz ⟨rfl, hb⟩
    have HBZ := Lib.hid (below_then HB1.out HB1.out.size hb)
    clear hb
    go_wp2_with fail
    go_ret
    exact ⟨rfl, HBZ.out⟩
  · skip
    have c0 := blk_cell HV1.out 0
    have c1 := blk_cell HV1.out 1
    have c2 := blk_cell HV1.out 2
    have c3 := blk_cell HV1.out 3
    go_wp2_with fail
    refine (enc_ok x A c w1 HL.out HC1.out HM.out (HS.out.fit 16) HZ.out).mono ?_
    rintro e w2 ⟨hb, ⟨hlong, rfl⟩ | ⟨hlen, B, cb, rfl, hcb, hCB⟩⟩
    · skip
      have HB2 := Lib.hid (below_then HB1.out HB1.out.size hb)
      have HV2 := Lib.hid (blk_below HV1.out hb)
      have HC2 := Lib.hid (Kd.C_below HC1.out hb)
      have HLN := Lib.hid hlong
      clear hb hlong HB1 HV1 HC1 c0 c1 c2 c3
      have c0 := blk_cell HV2.out 0
      have c1 := blk_cell HV2.out 1
      have c2 := blk_cell HV2.out 2
      have c3 := blk_cell HV2.out 3
      have T := Lib.hid (rmay_calls x HS.out A c w2 HC2.out HL.out)
      rw [HM.out] at T
      go_wp2_with fail
      refine T.out.mono ?_
      rintro e w3 ⟨rfl, hb⟩
      have HB3 := Lib.hid (below_then HB2.out HB2.out.size hb)
      have HV3 := Lib.hid (blk_below HV2.out hb)
      have HC3 := Lib.hid (Kd.C_below HC2.out hb)
      clear T
      clear hb HB2 HV2 HC2 c0 c1 c2 c3
      have c0 := blk_cell HV3.out 0
      have c1 := blk_cell HV3.out 1
      have c2 := blk_cell HV3.out 2
      have c3 := blk_cell HV3.out 3
      have T := Lib.hid (rbytes_calls 16 x HM.out (HS.out.fit 16) A c w3 HL.out HC3.out HZ.out)
      go_wp2_with fail
      refine T.out.mono ?_
      rintro e w4 ⟨bv, rfl, ho, hb⟩
      obtain ⟨E, hE⟩ : ∃ E, E = encN 16 x := ⟨_, rfl⟩
      rw [← hE] at ho HLN
      obtain ⟨A6, c6, rfl, hc6, hC6⟩ := ho.reads
      have d1 : decide (1048576 < E.length) = true := decide_eq_true HLN.out
      have d2 : decide ((1048576 : Int) < (E.length : Int)) = true := decide_eq_true (by have := HLN.out; omega)
      have HB4 := Lib.hid (below_then HB3.out HB3.out.size hb)
      have HV4 := Lib.hid (blk_below HV3.out hb)
      have HC4 := Lib.hid (Kd.C_below HC3.out hb)
      clear T hb ho hc6 hC6 hE HB3 HV3 HC3 c0 c1 c2 c3
      have c0 := blk_cell HV4.out 0
      have c1 := blk_cell HV4.out 1
      have c2 := blk_cell HV4.out 2
      have c3 := blk_cell HV4.out 3
      have T := Lib.hid (check_calls x A c w4 HL.out HC4.out)
      rw [HM.out, if_pos rfl] at T
      go_wp2_with fail
      refine T.out.mono ?_
      rintro e w5 ⟨rfl, hb⟩
      have HB5 := Lib.hid (below_then HB4.out HB4.out.size hb)
      have HV5 := Lib.hid (blk_below HV4.out hb)
      have HC5 := Lib.hid (Kd.C_below HC4.out hb)
      clear T
      clear hb HB4 HV4 HC4 c0 c1 c2 c3
      have c0 := blk_cell HV5.out 0
      have c1 := blk_cell HV5.out 1
      have c2 := blk_cell HV5.out 2
      have c3 := blk_cell HV5.out 3
      go_wp2_with fail
      refine (awake_calls _).mono ?_
      rintro e wz ⟨rfl, hb⟩
      have HBZ := Lib.hid (below_then HB5.out HB5.out.size hb)
      clear hb
      go_wp2_with fail
      go_ret
      exact ⟨rfl, HBZ.out⟩
    · skip
      obtain ⟨E, hE⟩ : ∃ E, E = encN 16 x := ⟨_, rfl⟩
      have HEE := Lib.hid hE
      have HLN := Lib.hid hlen
      rw [← hE] at hCB hcb HLN ⊢
      have HB2 := Lib.hid (below_then HB1.out HB1.out.size hb)
      have HV2 := Lib.hid (blk_below HV1.out hb)
      have HC2 := Lib.hid (Kd.C_below HC1.out hb)
      have HE2 := Lib.hid hCB
      have HCB := Lib.hid hcb
      clear hb hlen hcb hCB hE HB1 HV1 HC1 c0 c1 c2 c3
      have c0 := blk_cell HV2.out 0
      have c1 := blk_cell HV2.out 1
      have c2 := blk_cell HV2.out 2
      have c3 := blk_cell HV2.out 3
      have T := Lib.hid (rmay_calls x HS.out A c w2 HC2.out HL.out)
      rw [HM.out] at T
      go_wp2_with fail
      refine T.out.mono ?_
      rintro e w3 ⟨rfl, hb⟩
      have HB3 := Lib.hid (below_then HB2.out HB2.out.size hb)
      have HV3 := Lib.hid (blk_below HV2.out hb)
      have HC3 := Lib.hid (Kd.C_below HC2.out hb)
      have HE3 := Lib.hid (Kd.C_below HE2.out hb)
      clear T HE2
      clear hb HB2 HV2 HC2 c0 c1 c2 c3
      have c0 := blk_cell HV3.out 0
      have c1 := blk_cell HV3.out 1
      have c2 := blk_cell HV3.out 2
      have c3 := blk_cell HV3.out 3
      have T := Lib.hid (rbytes_calls 16 x HM.out (HS.out.fit 16) A c w3 HL.out HC3.out HZ.out)
      go_wp2_with fail
      refine T.out.mono ?_
      rintro e w4 ⟨bv, rfl, ho, hb⟩
      rw [← HEE.out] at ho
      obtain ⟨A6, c6, rfl, hc6, hC6⟩ := ho.reads
      have d1 : decide (1048576 < E.length) = false := decide_eq_false (by have := HLN.out; omega)
      have d2 : decide ((1048576 : Int) < (E.length : Int)) = false := decide_eq_false (by have := HLN.out; omega)
      have HB4 := Lib.hid (below_then HB3.out HB3.out.size hb)
      have HV4 := Lib.hid (blk_below HV3.out hb)
      have HC4 := Lib.hid (Kd.C_below HC3.out hb)
      have HE4 := Lib.hid (Kd.C_below HE3.out hb)
      have HF4 := Lib.hid hC6
      clear T hb ho hc6 hC6 HB3 HV3 HC3 HE3 c0 c1 c2 c3
      have T := Lib.hid (dec_calls B cb E w4 HCB.out HE4.out (by rw [HEE.out]; exact enc_range 16 x HM.out) (by have := HLN.out; omega))
      go_wp2_with fail
      refine T.out.mono ?_
      rintro e w5 hd
      rw [HEE.out] at hd
      obtain ⟨A7, c7, rfl, hl7, hc7, hb⟩ := dec_back HM.out HS.out (by rw [← HEE.out]; exact HLN.out) hd
      have HB5 := Lib.hid (below_alloc (below_then HB4.out HB4.out.size hb) (.cells (aggV x A7 c7) 24))
      have HV5 := Lib.hid (blk_alloc (blk_below HV4.out hb) (.cells (aggV x A7 c7) 24))
      have HC5 := Lib.hid (Kd.C_alloc (Kd.C_below HC4.out hb) (.cells (aggV x A7 c7) 24))
      have HE5 := Lib.hid (Kd.C_alloc (Kd.C_below HE4.out hb) (.cells (aggV x A7 c7) 24))
      have HF5 := Lib.hid (Kd.C_alloc (Kd.C_below HF4.out hb) (.cells (aggV x A7 c7) 24))
      have HX5 := Lib.hid (Kd.C_alloc hc7 (.cells (aggV x A7 c7) 24))
      have HN5 : Hid ((w5.alloc (.cells (aggV x A7 c7) 24)).heap[w5.heap.size]? = some (.cells (aggV x A7 c7) 24 (0, 0))) := Lib.hid (blk_new _ _)
      have HL7 := Lib.hid hl7
      obtain ⟨w6, hw6⟩ : ∃ w6, w6 = w5.alloc (.cells (aggV x A7 c7) 24) := ⟨_, rfl⟩
      obtain ⟨g6, hg6⟩ : ∃ g, g = w5.heap.size := ⟨_, rfl⟩
      have HW6 := Lib.hid hw6
      have HG6 := Lib.hid hg6
      rw [← hw6] at HB5 HV5 HC5 HE5 HF5 HX5 HN5
      rw [← hg6] at HN5
      have T := Lib.hid (check_calls x A c w6 HL.out HC5.out)
      rw [HM.out, if_pos rfl] at T
      clear hd hb hc7 hl7 hw6 hg6 HB4 HV4 HC4 HE4 HF4
      have c0 := blk_cell HV5.out 0
      have c1 := blk_cell HV5.out 1
      have c2 := blk_cell HV5.out 2
      have c3 := blk_cell HV5.out 3
      rw [HW6.out] at c0 c1 c2 c3 T
      go_wp2_with fail
      refine T.out.mono ?_
      rintro e w7 ⟨rfl, hb⟩
      rw [← HG6.out]
      rw [← HW6.out] at hb
      have HB7 := Lib.hid (below_then HB5.out HB5.out.size hb)
      have HV7 := Lib.hid (blk_below HV5.out hb)
      have HN7 := Lib.hid (blk_below HN5.out hb)
      have HC7 := Kd.C_below HC5.out hb
      have HX7 := Kd.C_below HX5.out hb
      have hce := Kd.C_string (P := Try.prog) (c := cb) Try.underlying39 Try.underlying5 Try.underlying9 (Kd.C_below HE5.out hb)
      have hcf := Kd.C_string (P := Try.prog) (c := c6) Try.underlying39 Try.underlying5 Try.underlying9 (Kd.C_below HF5.out hb)
      have TS := Lib.hid (same_self x HS.out A7 A c7 c w7 HX7 HL7.out HC7 HL.out)
      clear hb T HB5 HV5 HN5 HC5 HX5 HE5 HF5 HC7 HX7 c0 c1 c2 c3
      have c0 := blk_cell HV7.out 0
      have c1 := blk_cell HV7.out 1
      have c2 := blk_cell HV7.out 2
      have c3 := blk_cell HV7.out 3
      have n0 := blk_cell HN7.out 0
      have n1 := blk_cell HN7.out 1
      have n2 := blk_cell HN7.out 2
      have n3 := blk_cell HN7.out 3
      go_wp2_with fail
      refine TS.out.mono ?_
      rintro e w8 ⟨rfl, hb⟩
      have HB8 := Lib.hid (below_then HB7.out HB7.out.size hb)
      clear hb TS c0 c1 c2 c3 n0 n1 n2 n3 hce hcf
      go_wp2_with fail
      refine (awake_calls _).mono ?_
      rintro e wz ⟨rfl, hb⟩
      have HBZ := Lib.hid (below_then HB8.out HB8.out.size hb)
      clear hb
      go_wp2_with fail
      go_ret
      exact ⟨rfl, HBZ.out⟩
theorem codes_calls (x : V) (hs : Sz x) (A : Option Addr) (c : Nat) (w : World) (hl : x.f3.length ≤ c) (hc : kV.C w A x.f3.length x.f3) (hz : blkV x ≤ 1048577) :
    Calls Try.prog 6 #[.agg (aggV x A c)] w fun e w' => e = .returned (.bool true) ∧ Below w.heap.size w w' := by
  cases hm : mayN 16 x
  · exact codes_bad x hs A c w hl hc hm
  · exact codes_ok x hs A c w hl hc hm (by have := enc_len 16 x hm (hs.fit 16); omega)
theorem walkCodes (cs : Array Value) (x : V) (w : World) (hk : kV.K w x cs.toList) (hs : Sz x) (hb : blkV x ≤ 1048576) :
    Calls Try.prog 6 #[.agg cs] w fun e w' => e = .returned (.bool true) ∧ Below w.heap.size w w' := by
  obtain ⟨A, c, rfl, hl, hc⟩ := LmO.agg_of hk
  exact codes_calls x hs A c w hl hc (by omega)
end Go.Proofs.Ytcilojakgnjjmaa.LmE
/- Which trees are alike. -/
set_option linter.unusedSimpArgs false
set_option linter.unusedVariables false
namespace Go.Proofs.Ytcilojakgnjjmaa.SaW
open Go Go.RowKit Go.Proofs.YtcilojakgnjjmaaW.PrintWords Go.Proofs.YtcilojakgnjjmaaW.PrintLast Go.Proofs.YtcilojakgnjjmaaW.PrintMore Mem PAll MeP MeN MeA MeT MeV MeQ MeU MeS MeD WireP UvW
theorem kind0 (w : World) : Calls Try.prog 42 #[.nilIface] w fun e w' => e = .returned (.int .i64 0) ∧ w = w' := by
  have ta0 := fun W => ta_bool_nil W
  have ta1 := fun W => ta_int64_nil W
  have ta2 := fun W => ta_string_nil W
  have ta3 := fun W => ta_bytes_nil W
  have ta4 := fun W => ta_anys_nil W
  have hnil : ∀ (t : TypeId) (u : Value) (W : World), (binOp .eql 20 (.iface t u) .nilIface).run Try.prog W = .ok (.bool false) W := fun _ _ _ => rfl
  go_enter Try.func42, Try.ntmps42
  go_wp2_with fail
  go_ret
  exact ⟨rfl, rfl⟩
theorem kind1 (u : Value) (w : World) : Calls Try.prog 42 #[.iface 4 u] w fun e w' => e = .returned (.int .i64 1) ∧ w = w' := by
  have ta0 := fun W => ta_bool_bool (u) W
  have ta1 := fun W => ta_int64_bool (u) W
  have ta2 := fun W => ta_string_bool (u) W
  have ta3 := fun W => ta_bytes_bool (u) W
  have ta4 := fun W => ta_anys_bool (u) W
  have hnil : ∀ (t : TypeId) (u : Value) (W : World), (binOp .eql 20 (.iface t u) .nilIface).run Try.prog W = .ok (.bool false) W := fun _ _ _ => rfl
  go_enter Try.func42, Try.ntmps42
  go_wp2_with fail
  go_ret
  exact ⟨rfl, rfl⟩
theorem kind2 (u : Value) (w : World) : Calls Try.prog 42 #[.iface 2 u] w fun e w' => e = .returned (.int .i64 3) ∧ w = w' := by
  have ta0 := fun W => ta_bool_int64 (u) W
  have ta1 := fun W => ta_int64_int64 (u) W
  have ta2 := fun W => ta_string_int64 (u) W
  have ta3 := fun W => ta_bytes_int64 (u) W
  have ta4 := fun W => ta_anys_int64 (u) W
  have hnil : ∀ (t : TypeId) (u : Value) (W : World), (binOp .eql 20 (.iface t u) .nilIface).run Try.prog W = .ok (.bool false) W := fun _ _ _ => rfl
  go_enter Try.func42, Try.ntmps42
  go_wp2_with fail
  go_ret
  exact ⟨rfl, rfl⟩
theorem kind3 (u : Value) (w : World) : Calls Try.prog 42 #[.iface 9 u] w fun e w' => e = .returned (.int .i64 4) ∧ w = w' := by
  have ta0 := fun W => ta_bool_string (u) W
  have ta1 := fun W => ta_int64_string (u) W
  have ta2 := fun W => ta_string_string (u) W
  have ta3 := fun W => ta_bytes_string (u) W
  have ta4 := fun W => ta_anys_string (u) W
  have hnil : ∀ (t : TypeId) (u : Value) (W : World), (binOp .eql 20 (.iface t u) .nilIface).run Try.prog W = .ok (.bool false) W := fun _ _ _ => rfl
  go_enter Try.func42, Try.ntmps42
  go_wp2_with fail
  go_ret
  exact ⟨rfl, rfl⟩
theorem kind4 (u : Value) (w : World) : Calls Try.prog 42 #[.iface 39 u] w fun e w' => e = .returned (.int .i64 5) ∧ w = w' := by
  have ta0 := fun W => ta_bool_bytes (u) W
  have ta1 := fun W => ta_int64_bytes (u) W
  have ta2 := fun W => ta_string_bytes (u) W
  have ta3 := fun W => ta_bytes_bytes (u) W
  have ta4 := fun W => ta_anys_bytes (u) W
  have hnil : ∀ (t : TypeId) (u : Value) (W : World), (binOp .eql 20 (.iface t u) .nilIface).run Try.prog W = .ok (.bool false) W := fun _ _ _ => rfl
  go_enter Try.func42, Try.ntmps42
  go_wp2_with fail
  go_ret
  exact ⟨rfl, rfl⟩
theorem kind5 (u : Value) (w : World) : Calls Try.prog 42 #[.iface 59 u] w fun e w' => e = .returned (.int .i64 6) ∧ w = w' := by
  have ta0 := fun W => ta_bool_anys (u) W
  have ta1 := fun W => ta_int64_anys (u) W
  have ta2 := fun W => ta_string_anys (u) W
  have ta3 := fun W => ta_bytes_anys (u) W
  have ta4 := fun W => ta_anys_anys (u) W
  have hnil : ∀ (t : TypeId) (u : Value) (W : World), (binOp .eql 20 (.iface t u) .nilIface).run Try.prog W = .ok (.bool false) W := fun _ _ _ => rfl
  go_enter Try.func42, Try.ntmps42
  go_wp2_with fail
  go_ret
  exact ⟨rfl, rfl⟩
/-- A tree's kind. -/
def knd (v : V) : Int := if v.f0 = 0 then 0 else if v.f0 = 1 then 1 else if v.f0 = 2 then 3 else if v.f0 = 3 then 4 else if v.f0 = 4 then 5 else 6
theorem kind_calls {n : Nat} {w : World} {ok : Nat → Prop} {v : V} {a : Value} (h : An n w ok v a) (w' : World) : Calls Try.prog 42 #[a] w' fun e w'' => e = .returned (.int .i64 (knd v)) ∧ w' = w'' := by
  unfold An at h
  rcases h with ⟨h0, rfl⟩ | ⟨h0, rfl⟩ | ⟨h0, rfl⟩ | ⟨h0, rfl⟩ | ⟨h0, g, c, rfl, _⟩ | ⟨h0, g, c, rfl, _⟩ <;> unfold knd <;> rw [h0]
  · exact kind0 w'
  · exact kind1 _ w'
  · exact kind2 _ w'
  · exact kind3 _ w'
  · exact kind4 _ w'
  · exact kind5 _ w'
/-- What same answers. -/
def Alike (v u : V) (w w' : World) (e : Ending) : Prop := ∃ r : Bool, e = .returned (.bool r) ∧ (r = true ↔ v = u) ∧ Below w.heap.size w w'
theorem same_ne (a b : Value) (d : Int) (w : World) (ka kb : Int) (hne : ka ≠ kb) (h1 : ∀ w', Calls Try.prog 42 #[a] w' fun e w'' => e = .returned (.int .i64 ka) ∧ w' = w'') (h2 : ∀ w', Calls Try.prog 42 #[b] w' fun e w'' => e = .returned (.int .i64 kb) ∧ w' = w'') :
    Calls Try.prog 35 #[a, b, .int .i64 d] w fun e w' => e = .returned (.bool false) ∧ Below w.heap.size w w' := by
  have hk : (ka != kb) = true := by rw [bne_iff_ne]; exact hne
  have T1 := Lib.hid h1
  have T2 := Lib.hid h2
  have HB := Lib.hid (below_alloc (Below.refl w.heap.size w) (.cells #[.int .i64 d] 3))
  clear h1 h2 hne
  go_enter Try.func35, Try.ntmps35
  go_wp2_with fail
  refine (T1.out _).mono ?_
  rintro e w1 ⟨rfl, rfl⟩
  go_wp2_with fail
  refine (T2.out _).mono ?_
  rintro e w2 ⟨rfl, rfl⟩
  go_wp2_with fail
  go_ret
  exact ⟨rfl, HB.out⟩
set_option maxHeartbeats 4000000 in
theorem same0 (d : Int) (w : World) : Calls Try.prog 35 #[.nilIface, .nilIface, .int .i64 d] w fun e w' => e = .returned (.bool (true)) ∧ Below w.heap.size w w' := by
  have HB := Lib.hid (below_alloc (Below.refl w.heap.size w) (.cells #[.int .i64 d] 3))
  have ta0 := fun W => ta_bool_nil W
  have ta1 := fun W => ta_int64_nil W
  have ta2 := fun W => ta_string_nil W
  have ta3 := fun W => ta_bytes_nil W
  have ta4 := fun W => ta_anys_nil W
  have hnil : ∀ (t : TypeId) (u : Value) (W : World), (binOp .eql 20 (.iface t u) .nilIface).run Try.prog W = .ok (.bool false) W := fun _ _ _ => rfl
  go_enter Try.func35, Try.ntmps35
  go_wp2_with fail
  refine (kind0 _).mono ?_
  rintro e w1 ⟨rfl, rfl⟩
  go_wp2_with fail
  refine (kind0 _).mono ?_
  rintro e w2 ⟨rfl, rfl⟩
  go_wp2_with fail
  go_ret
  exact ⟨rfl, HB.out⟩
theorem eqi1 (x y : Bool) (W : World) : (binOp .eql 20 (.iface 4 (.bool x)) (.iface 4 (.bool y))).run Try.prog W = .ok (.bool (x == y)) W := by
  first | kernel_rfl | rfl | (simp [binOp]; done)
set_option maxHeartbeats 4000000 in
theorem same1 (x y : Bool) (d : Int) (w : World) : Calls Try.prog 35 #[.iface 4 (.bool x), .iface 4 (.bool y), .int .i64 d] w fun e w' => e = .returned (.bool (x == y)) ∧ Below w.heap.size w w' := by
  have HB := Lib.hid (below_alloc (Below.refl w.heap.size w) (.cells #[.int .i64 d] 3))
  have ta0 := fun W => ta_bool_bool (.bool x) W
  have ta1 := fun W => ta_int64_bool (.bool x) W
  have ta2 := fun W => ta_string_bool (.bool x) W
  have ta3 := fun W => ta_bytes_bool (.bool x) W
  have ta4 := fun W => ta_anys_bool (.bool x) W
  have hnil : ∀ (t : TypeId) (u : Value) (W : World), (binOp .eql 20 (.iface t u) .nilIface).run Try.prog W = .ok (.bool false) W := fun _ _ _ => rfl
  have hei := fun W => eqi1 x y W
  go_enter Try.func35, Try.ntmps35
  go_wp2_with fail
  refine (kind1 _ _).mono ?_
  rintro e w1 ⟨rfl, rfl⟩
  go_wp2_with fail
  refine (kind1 _ _).mono ?_
  rintro e w2 ⟨rfl, rfl⟩
  go_wp2_with fail
  go_ret
  exact ⟨rfl, HB.out⟩
theorem eqi2 (x y : Int) (W : World) : (binOp .eql 20 (.iface 2 (.int .i64 x)) (.iface 2 (.int .i64 y))).run Try.prog W = .ok (.bool (x == y)) W := by
  first | kernel_rfl | rfl | (simp [binOp]; done)
set_option maxHeartbeats 4000000 in
theorem same2 (x y : Int) (d : Int) (w : World) : Calls Try.prog 35 #[.iface 2 (.int .i64 x), .iface 2 (.int .i64 y), .int .i64 d] w fun e w' => e = .returned (.bool (x == y)) ∧ Below w.heap.size w w' := by
  have HB := Lib.hid (below_alloc (Below.refl w.heap.size w) (.cells #[.int .i64 d] 3))
  have ta0 := fun W => ta_bool_int64 (.int .i64 x) W
  have ta1 := fun W => ta_int64_int64 (.int .i64 x) W
  have ta2 := fun W => ta_string_int64 (.int .i64 x) W
  have ta3 := fun W => ta_bytes_int64 (.int .i64 x) W
  have ta4 := fun W => ta_anys_int64 (.int .i64 x) W
  have hnil : ∀ (t : TypeId) (u : Value) (W : World), (binOp .eql 20 (.iface t u) .nilIface).run Try.prog W = .ok (.bool false) W := fun _ _ _ => rfl
  have hei := fun W => eqi2 x y W
  go_enter Try.func35, Try.ntmps35
  go_wp2_with fail
  refine (kind2 _ _).mono ?_
  rintro e w1 ⟨rfl, rfl⟩
  go_wp2_with fail
  refine (kind2 _ _).mono ?_
  rintro e w2 ⟨rfl, rfl⟩
  go_wp2_with fail
  go_ret
  exact ⟨rfl, HB.out⟩
theorem eqi3 (x y : ByteArray) (W : World) : (binOp .eql 20 (.iface 9 (.string x)) (.iface 9 (.string y))).run Try.prog W = .ok (.bool (x == y)) W := by
  first | kernel_rfl | rfl | (simp [binOp]; done)
set_option maxHeartbeats 4000000 in
theorem same3 (x y : ByteArray) (d : Int) (w : World) : Calls Try.prog 35 #[.iface 9 (.string x), .iface 9 (.string y), .int .i64 d] w fun e w' => e = .returned (.bool (x == y)) ∧ Below w.heap.size w w' := by
  have HB := Lib.hid (below_alloc (Below.refl w.heap.size w) (.cells #[.int .i64 d] 3))
  have ta0 := fun W => ta_bool_string (.string x) W
  have ta1 := fun W => ta_int64_string (.string x) W
  have ta2 := fun W => ta_string_string (.string x) W
  have ta3 := fun W => ta_bytes_string (.string x) W
  have ta4 := fun W => ta_anys_string (.string x) W
  have hnil : ∀ (t : TypeId) (u : Value) (W : World), (binOp .eql 20 (.iface t u) .nilIface).run Try.prog W = .ok (.bool false) W := fun _ _ _ => rfl
  have hei := fun W => eqi3 x y W
  go_enter Try.func35, Try.ntmps35
  go_wp2_with fail
  refine (kind3 _ _).mono ?_
  rintro e w1 ⟨rfl, rfl⟩
  go_wp2_with fail
  refine (kind3 _ _).mono ?_
  rintro e w2 ⟨rfl, rfl⟩
  go_wp2_with fail
  go_ret
  exact ⟨rfl, HB.out⟩
theorem ta_bytes (v : Value) (W : World) : (Instr.typeAssert (.iface 39 v) 20 39 false).run Try.prog W = .ok v W := by kernel_rfl
theorem ta_anys (v : Value) (W : World) : (Instr.typeAssert (.iface 59 v) 20 59 false).run Try.prog W = .ok v W := by kernel_rfl
set_option maxHeartbeats 4000000 in
theorem eqb_calls (g1 c1 g2 c2 : Nat) (xs ys : List Int) (w : World) (hl1 : xs.length ≤ 9223372036854775000) (hg1 : g1 < w.heap.size) (hg2 : g2 < w.heap.size) (h1 : ∀ (j : Nat) (b : Int), xs[j]? = some b → w.cell? ⟨g1, j, none⟩ = some (.int .u8 b)) (h2 : ∀ (j : Nat) (b : Int), ys[j]? = some b → w.cell? ⟨g2, j, none⟩ = some (.int .u8 b)) :
    Calls Try.prog 43 #[.slice (some ⟨g1, 0, none⟩) xs.length c1, .slice (some ⟨g2, 0, none⟩) ys.length c2] w fun e w' => e = .returned (.bool (decide (xs = ys))) ∧ Below w.heap.size w w' := by
  by_cases hl : xs.length = ys.length
  · have hne : ((xs.length : Int) != (ys.length : Int)) = false := by rw [bne_eq_false_iff_eq]; omega
    have hne2 : ((ys.length : Int) != (ys.length : Int)) = false := by rw [bne_eq_false_iff_eq]
    have hlm : xs.length ≤ 9223372036854775000 := hl1
    have H1 := Lib.hid h1
    have H2 := Lib.hid h2
    have HL := Lib.hid hl
    have HG1 := Lib.hid hg1
    have HG2 := Lib.hid hg2
    clear h1 h2 hl1 hl hg1 hg2
    go_enter Try.func43, Try.ntmps43
    go_wp2_with fail
    go_loopw [13] (fun i' wr => ∃ i : Nat, i' = .int .i64 i ∧ Hid (i ≤ xs.length) ∧ Hid (xs.take i = ys.take i) ∧ Hid (Below w.heap.size w wr)) (fun i' _ => (xs.length - intOf i').toNat)
    case atStart => exact ⟨0, rfl, Lib.hid (Nat.zero_le _), Lib.hid (by simp), Lib.hid (Below.refl _ _)⟩
    case round =>
      obtain ⟨i, rfl, HI, HP, HB⟩ := hrel
      by_cases h : i < xs.length
      · have hlt : decide (i < xs.length) = true := decide_eq_true h
        have hlt2 : decide ((i : Int) < (xs.length : Int)) = true := decide_eq_true (by omega)
        have i0 : (0 : Int) ≤ i := by omega
        have i1 : (i : Int) < xs.length := by omega
        have i2 : (i : Int) < ys.length := by have := HL.out; omega
        obtain ⟨x, hx⟩ : ∃ x, xs[i]? = some x := ⟨_, List.getElem?_eq_getElem h⟩
        obtain ⟨y, hy⟩ : ∃ y, ys[i]? = some y := ⟨_, List.getElem?_eq_getElem (by have := HL.out; omega)⟩
        have cx : wr.cell? ⟨g1, i, none⟩ = some (.int .u8 x) := by
          have h0 := H1.out i x hx
          exact (World.cell?_of_block (a := ⟨g1, i, none⟩) (HB.out.block g1 HG1.out)).trans h0
        have cy : wr.cell? ⟨g2, i, none⟩ = some (.int .u8 y) := by
          have h0 := H2.out i y hy
          exact (World.cell?_of_block (a := ⟨g2, i, none⟩) (HB.out.block g2 HG2.out)).trans h0
        have HLT := Lib.hid h
        have HX := Lib.hid hx
        have HY := Lib.hid hy
        by_cases hxy : x = y
        · have hb : (x != y) = false := by rw [bne_eq_false_iff_eq]; exact hxy
          have HXY := Lib.hid hxy
          clear h hx hy hxy
          go_wp2_with fail
          go_quiet (fail)
          go_wp2_with fail
          go_roundw
          case rel =>
            refine ⟨i + 1, by go_num, Lib.hid (by have := HLT.out; omega), Lib.hid ?_, Lib.hid (below_then HB.out HB.out.size (pw_below_drewN (Below.refl _ _) _))⟩
            rw [List.take_add_one, List.take_add_one, HX.out, HY.out, HP.out, HXY.out]
          case measure => have := HLT.out; simp only [intOf]; omega
        · have hb : (x != y) = true := by rw [bne_iff_ne]; exact hxy
          have HXY := Lib.hid hxy
          clear h hx hy hxy
          go_wp2_with fail
          go_quiet (fail)
          go_wp2_with fail
          go_ret
          refine ⟨?_, below_then HB.out HB.out.size (pw_below_drewN (Below.refl _ _) _)⟩
          have hd : decide (xs = ys) = false := decide_eq_false (fun e => by
            have h1 := HX.out
            rw [e, HY.out] at h1
            exact HXY.out (Option.some.inj h1).symm)
          rw [hd]
          rfl
      · obtain rfl : i = xs.length := by have := HI.out; omega
        have hlt : decide (xs.length < xs.length) = false := decide_eq_false (Nat.lt_irrefl _)
        have hlt2 : decide ((xs.length : Int) < (xs.length : Int)) = false := decide_eq_false (by omega)
        clear h
        go_wp2_with fail
        go_ret
        refine ⟨?_, HB.out⟩
        have hd : decide (xs = ys) = true := decide_eq_true (by
          have h1 := HP.out
          rw [List.take_length, HL.out, List.take_length] at h1
          exact h1)
        rw [hd]
        rfl
  · have hne : ((xs.length : Int) != (ys.length : Int)) = true := by rw [bne_iff_ne]; omega
    have HL := Lib.hid hl
    clear h1 h2 hl hl1
    go_enter Try.func43, Try.ntmps43
    go_wp2_with fail
    go_ret
    refine ⟨?_, Below.refl _ _⟩
    have hd : decide (xs = ys) = false := decide_eq_false (fun e => HL.out (by rw [e]))
    rw [hd]
    rfl
set_option maxHeartbeats 4000000 in
theorem same4 (s t : ByteArray) (g1 c1 g2 c2 : Nat) (d : Int) (w : World) (hl1 : (byt s).length ≤ 9223372036854775000) (hg1 : g1 < w.heap.size) (hg2 : g2 < w.heap.size) (h1 : ∀ (j : Nat) (b : Int), (byt s)[j]? = some b → w.cell? ⟨g1, j, none⟩ = some (.int .u8 b)) (h2 : ∀ (j : Nat) (b : Int), (byt t)[j]? = some b → w.cell? ⟨g2, j, none⟩ = some (.int .u8 b)) :
    Calls Try.prog 35 #[.iface 39 (.slice (some ⟨g1, 0, none⟩) (byt s).length c1), .iface 39 (.slice (some ⟨g2, 0, none⟩) (byt t).length c2), .int .i64 d] w fun e w' => ∃ r : Bool, e = .returned (.bool r) ∧ (r = true ↔ s = t) ∧ Below w.heap.size w w' := by
  have HB := Lib.hid (below_alloc (Below.refl w.heap.size w) (.cells #[.int .i64 d] 3))
  have ta0 := fun W => ta_bool_bytes (.slice (some ⟨g1, 0, none⟩) (byt s).length c1) W
  have ta1 := fun W => ta_int64_bytes (.slice (some ⟨g1, 0, none⟩) (byt s).length c1) W
  have ta2 := fun W => ta_string_bytes (.slice (some ⟨g1, 0, none⟩) (byt s).length c1) W
  have ta3 := fun W => ta_bytes_bytes (.slice (some ⟨g1, 0, none⟩) (byt s).length c1) W
  have ta4 := fun W => ta_anys_bytes (.slice (some ⟨g1, 0, none⟩) (byt s).length c1) W
  have hnil : ∀ (t : TypeId) (u : Value) (W : World), (binOp .eql 20 (.iface t u) .nilIface).run Try.prog W = .ok (.bool false) W := fun _ _ _ => rfl
  have tab := fun W => ta_bytes (.slice (some ⟨g2, 0, none⟩) (byt t).length c2) W
  have hbk : ∀ g j, g < w.heap.size → (w.alloc (.cells #[.int .i64 d] 3)).cell? ⟨g, j, none⟩ = w.cell? ⟨g, j, none⟩ := fun g j hg => World.cell?_of_block (a := ⟨g, j, none⟩) (HB.out.block g hg)
  have T := Lib.hid (eqb_calls g1 c1 g2 c2 (byt s) (byt t) (w.alloc (.cells #[.int .i64 d] 3)) hl1 (Nat.lt_of_lt_of_le hg1 HB.out.size) (Nat.lt_of_lt_of_le hg2 HB.out.size) (fun j b h => (hbk g1 j hg1).trans (h1 j b h)) (fun j b h => (hbk g2 j hg2).trans (h2 j b h)))
  obtain ⟨r, hr⟩ : ∃ r, r = decide (byt s = byt t) := ⟨_, rfl⟩
  rw [← hr] at T
  have HR := Lib.hid hr
  clear h1 h2 hl1 hg1 hg2 hbk hr
  go_enter Try.func35, Try.ntmps35
  go_wp2_with fail
  refine (kind4 _ _).mono ?_
  rintro e w1 ⟨rfl, rfl⟩
  go_wp2_with fail
  refine (kind4 _ _).mono ?_
  rintro e w2 ⟨rfl, rfl⟩
  go_wp2_with fail
  refine T.out.mono ?_
  rintro e w3 ⟨rfl, hb⟩
  have HB3 := Lib.hid (below_then HB.out HB.out.size hb)
  clear hb T
  go_wp2_with fail
  go_ret
  refine ⟨r, rfl, ?_, HB3.out⟩
  rw [HR.out, decide_eq_true_iff]
  exact ⟨fun h => byt_inj h, fun h => by rw [h]⟩
/-- A row of trees in a block. -/
def Row (m : Nat) (w : World) (l : List V) (g : Nat) : Prop := g < w.heap.size ∧ ∀ (j : Nat) (x : V), l[j]? = some x → ∃ a', w.cell? ⟨g, j, none⟩ = some a' ∧ An m w (fun _ => True) x a'
theorem Row.below {m : Nat} {w w' : World} {l : List V} {g : Nat} (h : Row m w l g) (hb : Below w.heap.size w w') : Row m w' l g := by
  refine ⟨Nat.lt_of_lt_of_le h.1 hb.size, fun j x hx => ?_⟩
  obtain ⟨a', h1, h2⟩ := h.2 j x hx
  exact ⟨a', (World.cell?_of_block (a := ⟨g, j, none⟩) (hb.block g h.1)).trans h1, h2.below hb⟩
set_option maxHeartbeats 4000000 in
theorem eqf_calls (m : Nat) (la lb : List V) (ga ca gb cb q : Nat) (w : World) (hll : la.length ≤ 2513169434900) (ha : Row m w la ga) (hb : Row m w lb gb)
    (hf : ∀ (x y : V) (a b : Value) (w' : World), x ∈ la → y ∈ lb → An m w' (fun _ => True) x a → An m w' (fun _ => True) y b → Below w.heap.size w w' → Calls Try.prog 45 #[a, b, .pointer (some ⟨q, 0, none⟩)] w' fun e w'' => Alike x y w' w'' e) :
    Calls Try.prog 44 #[.slice (some ⟨ga, 0, none⟩) la.length ca, .slice (some ⟨gb, 0, none⟩) lb.length cb, .func (.func 45) #[] #[.pointer (some ⟨q, 0, none⟩)]] w fun e w' => ∃ r : Bool, e = .returned (.bool r) ∧ (r = true ↔ la = lb) ∧ Below w.heap.size w w' := by
  by_cases hl : la.length = lb.length
  · have hne : ((la.length : Int) != (lb.length : Int)) = false := by rw [bne_eq_false_iff_eq]; omega
    have hne2 : ((lb.length : Int) != (lb.length : Int)) = false := by rw [bne_eq_false_iff_eq]
    have hlm : la.length ≤ 2513169434900 := hll
    have HA := Lib.hid ha
    have HQ := Lib.hid hb
    have HF := Lib.hid hf
    have HL := Lib.hid hl
    clear ha hb hf hll hl
    go_enter Try.func44, Try.ntmps44
    go_wp2_with fail
    go_loopw [17] (fun i' wr => ∃ i : Nat, i' = .int .i64 i ∧ Hid (i ≤ la.length) ∧ Hid (la.take i = lb.take i) ∧ Hid (Below w.heap.size w wr)) (fun i' _ => (la.length - intOf i').toNat)
    case atStart => exact ⟨0, rfl, Lib.hid (Nat.zero_le _), Lib.hid (by simp), Lib.hid (Below.refl _ _)⟩
    case round =>
      obtain ⟨i, rfl, HI, HP, HB⟩ := hrel
      by_cases h : i < la.length
      · have hlt : decide (i < la.length) = true := decide_eq_true h
        have hlt2 : decide ((i : Int) < (la.length : Int)) = true := decide_eq_true (by omega)
        have i0 : (0 : Int) ≤ i := by omega
        have i1 : (i : Int) < la.length := by omega
        have i2 : (i : Int) < lb.length := by have := HL.out; omega
        obtain ⟨x, hx⟩ : ∃ x, la[i]? = some x := ⟨_, List.getElem?_eq_getElem h⟩
        obtain ⟨y, hy⟩ : ∃ y, lb[i]? = some y := ⟨_, List.getElem?_eq_getElem (by have := HL.out; omega)⟩
        obtain ⟨a, cx, hax⟩ := (HA.out.below HB.out).2 i x hx
        obtain ⟨b, cy, hby⟩ := (HQ.out.below HB.out).2 i y hy
        have T := Lib.hid (HF.out x y a b wr (List.mem_of_getElem? hx) (List.mem_of_getElem? hy) hax hby HB.out)
        have HLT := Lib.hid h
        have HX := Lib.hid hx
        have HY := Lib.hid hy
        clear h hx hy hax hby
        go_wp2_with fail
        refine T.out.mono ?_
        rintro e w2 ⟨r, rfl, hr, hb⟩
        have HB2 := Lib.hid (below_then HB.out HB.out.size hb)
        have HR := Lib.hid hr
        clear hb T hr cx cy
        cases r with
        | true =>
          go_wp2_with fail
          go_roundw
          case rel =>
            refine ⟨i + 1, by go_num, Lib.hid (by have := HLT.out; omega), Lib.hid ?_, HB2⟩
            rw [List.take_add_one, List.take_add_one, HX.out, HY.out, HP.out, HR.out.1 (by simp)]
          case measure => have := HLT.out; simp only [intOf]; omega
        | false =>
          go_wp2_with fail
          go_ret
          refine ⟨false, rfl, ⟨fun h => absurd h (by simp), fun e => ?_⟩, HB2.out⟩
          have h1 := HX.out
          rw [e, HY.out] at h1
          have h2 := HR.out.2 (Option.some.inj h1).symm
          first | exact h2 | exact absurd h2 (by simp)
      · obtain rfl : i = la.length := by have := HI.out; omega
        have hlt : decide (la.length < la.length) = false := decide_eq_false (Nat.lt_irrefl _)
        have hlt2 : decide ((la.length : Int) < (la.length : Int)) = false := decide_eq_false (by omega)
        clear h
        go_wp2_with fail
        go_ret
        refine ⟨true, rfl, ⟨fun _ => ?_, fun _ => rfl⟩, HB.out⟩
        have h1 := HP.out
        rw [List.take_length, HL.out, List.take_length] at h1
        exact h1
  · have hne : ((la.length : Int) != (lb.length : Int)) = true := by rw [bne_iff_ne]; omega
    have HL := Lib.hid hl
    clear ha hb hf hll hl
    go_enter Try.func44, Try.ntmps44
    go_wp2_with fail
    go_ret
    exact ⟨false, rfl, ⟨fun h => (by cases h), fun e => absurd (by rw [e]) HL.out⟩, Below.refl _ _⟩
/-- The closure. -/
theorem clo_calls (x y : V) (a b : Value) (q d : Nat) (w : World) (hq : w.heap[q]? = some (.cells #[.int .i64 (d + 1 : Nat)] 3 (0, 0))) (hd : d ≤ 100)
    (T : Calls Try.prog 35 #[a, b, .int .i64 d] w fun e w' => Alike x y w w' e) :
    Calls Try.prog 45 #[a, b, .pointer (some ⟨q, 0, none⟩)] w fun e w' => Alike x y w w' e := by
  have q0 := blk_cell hq 0
  have hw : wrap64 (((d + 1 : Nat) : Int) - 1) = d := by unfold wrap64; omega
  have T1 : Hid (∀ z : Int, z = (d : Int) → Calls Try.prog 35 #[a, b, .int .i64 z] w fun e w' => Alike x y w w' e) := Lib.hid (fun z hz => by rw [hz]; exact T)
  clear hq T
  go_enter Try.func45, Try.ntmps45
  go_wp2_with fail
  refine (T1.out _ (by first | exact hw | omega)).mono ?_
  rintro e w2 ⟨r, rfl, hr, hb⟩
  have HB2 := Lib.hid hb
  have HR := Lib.hid hr
  clear hb hr T1
  go_wp2_with fail
  go_ret
  exact ⟨r, rfl, HR.out, HB2.out⟩
set_option maxHeartbeats 8000000 in
set_option maxRecDepth 100000 in
theorem same5 (m : Nat) (la lb : List V) (ga ca gb cb : Nat) (w : World) (hm : m ≤ 100) (hll : la.length ≤ 2513169434900) (ha : Row m w la ga) (hb : Row m w lb gb)
    (T : ∀ (x y : V) (a b : Value) (w : World), x ∈ la → y ∈ lb → An m w (fun _ => True) x a → An m w (fun _ => True) y b → Calls Try.prog 35 #[a, b, .int .i64 m] w fun e w' => Alike x y w w' e) :
    Calls Try.prog 35 #[.iface 59 (.slice (some ⟨ga, 0, none⟩) la.length ca), .iface 59 (.slice (some ⟨gb, 0, none⟩) lb.length cb), .int .i64 (m + 1 : Nat)] w fun e w' => ∃ r : Bool, e = .returned (.bool r) ∧ (r = true ↔ la = lb) ∧ Below w.heap.size w w' := by
  have HB := Lib.hid (below_alloc (Below.refl w.heap.size w) (.cells #[.int .i64 (m + 1 : Nat)] 3))
  have HV : Hid ((w.alloc (.cells #[.int .i64 (m + 1 : Nat)] 3)).heap[w.heap.size]? = some (.cells #[.int .i64 (m + 1 : Nat)] 3 (0, 0))) := Lib.hid (blk_new _ _)
  have q0 := blk_cell HV.out 0
  have dp : decide ((0 : Int) < ((m + 1 : Nat) : Int)) = true := decide_eq_true (by omega)
  have dq : decide (0 < m + 1) = true := decide_eq_true (by omega)
  have ta0 := fun W => ta_bool_anys (.slice (some ⟨ga, 0, none⟩) la.length ca) W
  have ta1 := fun W => ta_int64_anys (.slice (some ⟨ga, 0, none⟩) la.length ca) W
  have ta2 := fun W => ta_string_anys (.slice (some ⟨ga, 0, none⟩) la.length ca) W
  have ta3 := fun W => ta_bytes_anys (.slice (some ⟨ga, 0, none⟩) la.length ca) W
  have ta4 := fun W => ta_anys_anys (.slice (some ⟨ga, 0, none⟩) la.length ca) W
  have hnil : ∀ (t : TypeId) (u : Value) (W : World), (binOp .eql 20 (.iface t u) .nilIface).run Try.prog W = .ok (.bool false) W := fun _ _ _ => rfl
  have tab := fun W => ta_anys (.slice (some ⟨gb, 0, none⟩) lb.length cb) W
  have TE := Lib.hid (eqf_calls m la lb ga ca gb cb w.heap.size (w.alloc (.cells #[.int .i64 (m + 1 : Nat)] 3)) hll (ha.below HB.out) (hb.below HB.out) (fun x y a b w' hx hy hax hby hbb => clo_calls x y a b w.heap.size m w' (blk_below HV.out hbb) hm (T x y a b w' hx hy hax hby)))
  clear ha hb T hll hm
  go_enter Try.func35, Try.ntmps35
  go_wp2_with fail
  refine (kind5 _ _).mono ?_
  rintro e w1 ⟨rfl, rfl⟩
  go_wp2_with fail
  refine (kind5 _ _).mono ?_
  rintro e w2 ⟨rfl, rfl⟩
  go_wp2_with fail
  refine TE.out.mono ?_
  rintro e w3 ⟨r, rfl, hr, hb⟩
  have HB3 := Lib.hid (below_then HB.out HB.out.size hb)
  have HR := Lib.hid hr
  clear hb hr TE
  go_wp2_with fail
  go_ret
  exact ⟨r, rfl, HR.out, HB3.out⟩
theorem ba_beq (s t : ByteArray) : (s == t) = true ↔ s = t := by
  first
  | exact beq_iff_eq
  | (show (s.data == t.data) = true ↔ _
     rw [beq_iff_eq]
     exact ⟨fun h => ByteArray.ext h, fun h => by rw [h]⟩)
  | (cases s; cases t; simp [BEq.beq]; done)
theorem an0 {n : Nat} {w : World} {ok : Nat → Prop} {v : V} {a : Value} (h : An n w ok v a) (h0 : v.f0 = 0) : a = .nilIface := by
  unfold An at h
  rcases h with ⟨_, h⟩ | ⟨h1, _⟩ | ⟨h1, _⟩ | ⟨h1, _⟩ | ⟨h1, _⟩ | ⟨h1, _⟩
  · exact h
  all_goals omega
theorem an1 {n : Nat} {w : World} {ok : Nat → Prop} {v : V} {a : Value} (h : An n w ok v a) (h0 : v.f0 = 1) : a = .iface 4 (.bool (v.f1 == 1)) := by
  unfold An at h
  rcases h with ⟨h1, _⟩ | ⟨_, h⟩ | ⟨h1, _⟩ | ⟨h1, _⟩ | ⟨h1, _⟩ | ⟨h1, _⟩
  · omega
  · exact h
  all_goals omega
theorem an2 {n : Nat} {w : World} {ok : Nat → Prop} {v : V} {a : Value} (h : An n w ok v a) (h0 : v.f0 = 2) : a = .iface 2 (.int .i64 v.f1) := by
  unfold An at h
  rcases h with ⟨h1, _⟩ | ⟨h1, _⟩ | ⟨_, h⟩ | ⟨h1, _⟩ | ⟨h1, _⟩ | ⟨h1, _⟩
  · omega
  · omega
  · exact h
  all_goals omega
theorem an3 {n : Nat} {w : World} {ok : Nat → Prop} {v : V} {a : Value} (h : An n w ok v a) (h0 : v.f0 = 3) : a = .iface 9 (.string v.f2) := by
  unfold An at h
  rcases h with ⟨h1, _⟩ | ⟨h1, _⟩ | ⟨h1, _⟩ | ⟨_, h⟩ | ⟨h1, _⟩ | ⟨h1, _⟩
  · omega
  · omega
  · omega
  · exact h
  all_goals omega
theorem an4 {n : Nat} {w : World} {ok : Nat → Prop} {v : V} {a : Value} (h : An n w ok v a) (h0 : v.f0 = 4) : ∃ (g c : Nat), a = .iface 39 (.slice (some ⟨g, 0, none⟩) (byt v.f2).length c) ∧ g < w.heap.size ∧ ∀ (j : Nat) (b : Int), (byt v.f2)[j]? = some b → w.cell? ⟨g, j, none⟩ = some (.int .u8 b) := by
  unfold An at h
  rcases h with ⟨h1, _⟩ | ⟨h1, _⟩ | ⟨h1, _⟩ | ⟨h1, _⟩ | ⟨_, g, c, h2, h3, h4, h5, h6⟩ | ⟨h1, _⟩
  · omega
  · omega
  · omega
  · omega
  · exact ⟨g, c, h2, h5, h6⟩
  · omega
theorem an5 {m : Nat} {w : World} {ok : Nat → Prop} {v : V} {a : Value} (h : An (m + 1) w ok v a) (h0 : v.f0 = 5) : ∃ (g c : Nat), a = .iface 59 (.slice (some ⟨g, 0, none⟩) v.f3.length c) ∧ Row m w v.f3 g := by
  unfold An at h
  rcases h with ⟨h1, _⟩ | ⟨h1, _⟩ | ⟨h1, _⟩ | ⟨h1, _⟩ | ⟨h1, _⟩ | ⟨_, g, c, h2, h3, h4, h5, h6⟩
  · omega
  · omega
  · omega
  · omega
  · omega
  · refine ⟨g, c, h2, h5, fun j x hx => ?_⟩
    obtain ⟨a', k1, k2⟩ := h6 j x hx
    exact ⟨a', k1, An.mono k2 (fun _ _ _ => trivial)⟩
theorem knd_inj {n k : Nat} {v u : V} (hv : mayN n v = true) (hu : mayN k u = true) (h : knd v = knd u) : v.f0 = u.f0 := by
  unfold knd at h
  rcases kinds hv with e | e | e | e | e | e <;> rcases kinds hu with f | f | f | f | f | f <;> rw [e, f] at h <;> rw [e, f] <;> exact absurd h (by decide)
theorem same_step (n : Nat) (hn : n ≤ 100) (v u : V) (hv : mayN n v = true) (hu : mayN n u = true) (hf : Fit n v) (a b : Value) (w : World) (hav : An n w (fun _ => True) v a) (hbu : An n w (fun _ => True) u b)
    (ih : ∀ m, n = m + 1 → ∀ (x y : V), x ∈ v.f3 → mayN m x = true → mayN m y = true → ∀ (a b : Value) (w : World), An m w (fun _ => True) x a → An m w (fun _ => True) y b → Calls Try.prog 35 #[a, b, .int .i64 m] w fun e w' => Alike x y w w' e) :
    Calls Try.prog 35 #[a, b, .int .i64 n] w fun e w' => Alike v u w w' e := by
  by_cases hk : knd v = knd u
  · have hkf := knd_inj hv hu hk
    have hsz := hf.here
    rcases MeD.shape hv with ⟨rfl, _⟩ | ⟨rfl, _⟩ | ⟨rfl, _⟩ | ⟨x, rfl, _⟩ | ⟨s, rfl, _⟩ | ⟨s, rfl, _⟩ | ⟨m, l, hn1, rfl, hall, _⟩
    · have hu0 := hkf.symm
      rcases MeD.shape hu with ⟨rfl, _⟩ | ⟨rfl, _⟩ | ⟨rfl, _⟩ | ⟨y, rfl, _⟩ | ⟨t, rfl, _⟩ | ⟨t, rfl, _⟩ | ⟨m2, l2, hn2, rfl, hall2, _⟩ <;> simp only at hu0 <;> first | (exfalso; omega) | skip
      rw [an0 hav rfl, an0 hbu rfl]
      exact (same0 n w).mono (fun e w' ⟨h1, h2⟩ => ⟨true, h1, by simp, h2⟩)
    · have hu0 := hkf.symm
      rcases MeD.shape hu with ⟨rfl, _⟩ | ⟨rfl, _⟩ | ⟨rfl, _⟩ | ⟨y, rfl, _⟩ | ⟨t, rfl, _⟩ | ⟨t, rfl, _⟩ | ⟨m2, l2, hn2, rfl, hall2, _⟩ <;> simp only at hu0 <;> first | (exfalso; omega) | skip
      all_goals
        rw [an1 hav rfl, an1 hbu rfl]
        exact (same1 _ _ n w).mono (fun e w' ⟨h1, h2⟩ => ⟨_, h1, by simp, h2⟩)
    · have hu0 := hkf.symm
      rcases MeD.shape hu with ⟨rfl, _⟩ | ⟨rfl, _⟩ | ⟨rfl, _⟩ | ⟨y, rfl, _⟩ | ⟨t, rfl, _⟩ | ⟨t, rfl, _⟩ | ⟨m2, l2, hn2, rfl, hall2, _⟩ <;> simp only at hu0 <;> first | (exfalso; omega) | skip
      all_goals
        rw [an1 hav rfl, an1 hbu rfl]
        exact (same1 _ _ n w).mono (fun e w' ⟨h1, h2⟩ => ⟨_, h1, by simp, h2⟩)
    · have hu0 := hkf.symm
      rcases MeD.shape hu with ⟨rfl, _⟩ | ⟨rfl, _⟩ | ⟨rfl, _⟩ | ⟨y, rfl, _⟩ | ⟨t, rfl, _⟩ | ⟨t, rfl, _⟩ | ⟨m2, l2, hn2, rfl, hall2, _⟩ <;> simp only at hu0 <;> first | (exfalso; omega) | skip
      rw [an2 hav rfl, an2 hbu rfl]
      exact (same2 _ _ n w).mono (fun e w' ⟨h1, h2⟩ => ⟨_, h1, by simp, h2⟩)
    · have hu0 := hkf.symm
      rcases MeD.shape hu with ⟨rfl, _⟩ | ⟨rfl, _⟩ | ⟨rfl, _⟩ | ⟨y, rfl, _⟩ | ⟨t, rfl, _⟩ | ⟨t, rfl, _⟩ | ⟨m2, l2, hn2, rfl, hall2, _⟩ <;> simp only at hu0 <;> first | (exfalso; omega) | skip
      rw [an3 hav rfl, an3 hbu rfl]
      exact (same3 _ _ n w).mono (fun e w' ⟨h1, h2⟩ => ⟨_, h1, by rw [ba_beq]; simp, h2⟩)
    · have hu0 := hkf.symm
      rcases MeD.shape hu with ⟨rfl, _⟩ | ⟨rfl, _⟩ | ⟨rfl, _⟩ | ⟨y, rfl, _⟩ | ⟨t, rfl, _⟩ | ⟨t, rfl, _⟩ | ⟨m2, l2, hn2, rfl, hall2, _⟩ <;> simp only at hu0 <;> first | (exfalso; omega) | skip
      obtain ⟨g1, c1, rfl, p1, p2⟩ := an4 hav rfl
      obtain ⟨g2, c2, rfl, q1, q2⟩ := an4 hbu rfl
      exact (same4 s t g1 c1 g2 c2 n w (by rw [byt_len]; have := hsz.2.2; simp only at this; omega) p1 q1 p2 q2).mono (fun e w' ⟨r, h1, h2, h3⟩ => ⟨r, h1, by rw [h2]; simp, h3⟩)
    · have hu0 := hkf.symm
      rcases MeD.shape hu with ⟨rfl, _⟩ | ⟨rfl, _⟩ | ⟨rfl, _⟩ | ⟨y, rfl, _⟩ | ⟨t, rfl, _⟩ | ⟨t, rfl, _⟩ | ⟨m2, l2, hn2, rfl, hall2, _⟩ <;> simp only at hu0 <;> first | (exfalso; omega) | skip
      subst hn1
      obtain rfl : m2 = m := by omega
      obtain ⟨g1, c1, rfl, p1⟩ := an5 hav rfl
      obtain ⟨g2, c2, rfl, q1⟩ := an5 hbu rfl
      exact (same5 m2 l l2 g1 c1 g2 c2 w (by omega) hsz.1 p1 q1 (fun x y a b w hx hy hax hby => ih m2 rfl x y hx (hall x hx) (hall2 y hy) a b w hax hby)).mono (fun e w' ⟨r, h1, h2, h3⟩ => ⟨r, h1, by rw [h2]; simp, h3⟩)
  · exact (same_ne a b n w _ _ hk (kind_calls hav) (kind_calls hbu)).mono (fun e w' ⟨h1, h2⟩ => ⟨false, h1, ⟨fun h => absurd h (by simp), fun e => absurd (by rw [e]) hk⟩, h2⟩)
theorem same_calls : ∀ (n : Nat), n ≤ 100 → ∀ (v u : V), mayN n v = true → mayN n u = true → Fit n v → ∀ (a b : Value) (w : World), An n w (fun _ => True) v a → An n w (fun _ => True) u b → Calls Try.prog 35 #[a, b, .int .i64 n] w fun e w' => Alike v u w w' e := by
  intro n
  induction n with
  | zero => exact fun hn v u hv hu hf a b w hav hbu => same_step 0 hn v u hv hu hf a b w hav hbu (fun m h => by omega)
  | succ n ih =>
    exact fun hn v u hv hu hf a b w hav hbu => same_step (n + 1) hn v u hv hu hf a b w hav hbu (fun m h x y hx hmx hmy a b w hax hby => by
      obtain rfl : m = n := by omega
      exact ih (by omega) x y hmx hmy (hf.2 x hx) a b w hax hby)
/-- words.Same. -/
theorem wsame_calls (v u : V) (hv : mayN 16 v = true) (hu : mayN 16 u = true) (hf : Fit 16 v) (a b : Value) (w : World) (hav : An 16 w (fun _ => True) v a) (hbu : An 16 w (fun _ => True) u b) :
    Calls Try.prog 26 #[a, b] w fun e w' => Alike v u w w' e := by
  have T := Lib.hid (same_calls 16 (by decide) v u hv hu hf a b w hav hbu)
  clear hav hbu hv hu hf
  go_enter Try.func26, Try.ntmps26
  go_wp2_with fail
  refine T.out.mono ?_
  rintro e w2 ⟨r, rfl, hr, hb⟩
  have HB2 := Lib.hid hb
  have HR := Lib.hid hr
  clear hb hr T
  go_wp2_with fail
  go_ret
  exact ⟨r, rfl, HR.out, HB2.out⟩
end Go.Proofs.Ytcilojakgnjjmaa.SaW
/- MessageUnlike. -/
set_option linter.unusedSimpArgs false
set_option linter.unusedVariables false
namespace Go.Proofs.Ytcilojakgnjjmaa.LmU
open Go Go.RowKit Go.Proofs.YtcilojakgnjjmaaW.PrintWords Go.Proofs.YtcilojakgnjjmaaW.PrintLast Go.Proofs.YtcilojakgnjjmaaW.PrintMore Mem PAll MeP MeN MeA MeT MeV MeK MeW MeQ MeR MeU MeE MeD MeO WireP UvW VrW DeW ByW LmE SaW
/-- What message.Same answers. -/
def Likes (v u : V) (w w' : World) (e : Ending) : Prop := ∃ r : Bool, e = .returned (.bool r) ∧ (r = true ↔ (mayN 16 v = true ∧ mayN 16 u = true ∧ v = u)) ∧ Below w.heap.size w w'
set_option maxHeartbeats 8000000 in
theorem msame_a (v u : V) (A B : Option Addr) (c d : Nat) (w : World) (hl : v.f3.length ≤ c) (hc : kV.C w A v.f3.length v.f3) (hk : u.f3.length ≤ d) (hd : kV.C w B u.f3.length u.f3) (hm : mayN 16 v = false) :
    Calls Try.prog 17 #[.agg (aggV v A c), .agg (aggV u B d)] w fun e w' => Likes v u w w' e := by
  have HB0 : Hid (Below w.heap.size w ((w.alloc (.cells (aggV v A c) 24)).alloc (.cells (aggV u B d) 24))) := Lib.hid (below_alloc (below_alloc (Below.refl _ _) _) _)
  have HV0 : Hid (((w.alloc (.cells (aggV v A c) 24)).alloc (.cells (aggV u B d) 24)).heap[w.heap.size]? = some (.cells (aggV v A c) 24 (0, 0))) := Lib.hid (blk_alloc (blk_new w (.cells (aggV v A c) 24)) (.cells (aggV u B d) 24))
  have HU0 : Hid (((w.alloc (.cells (aggV v A c) 24)).alloc (.cells (aggV u B d) 24)).heap[w.heap.size + 1]? = some (.cells (aggV u B d) 24 (0, 0))) := Lib.hid (by have := blk_new (w.alloc (.cells (aggV v A c) 24)) (.cells (aggV u B d) 24); rwa [show (w.alloc (.cells (aggV v A c) 24)).heap.size = w.heap.size + 1 by simp only [World.alloc, Array.size_push]] at this)
  have HC0 := Lib.hid (Kd.C_below hc HB0.out)
  have HD0 := Lib.hid (Kd.C_below hd HB0.out)
  have HL := Lib.hid hl
  have HK := Lib.hid hk
  have c0 := blk_cell HV0.out 0
  have c1 := blk_cell HV0.out 1
  have c2 := blk_cell HV0.out 2
  have c3 := blk_cell HV0.out 3
  have d0 := blk_cell HU0.out 0
  have d1 := blk_cell HU0.out 1
  have d2 := blk_cell HU0.out 2
  have d3 := blk_cell HU0.out 3
  have HM := Lib.hid hm
  obtain ⟨wb, hwb⟩ : ∃ wb, wb = ((w.alloc (.cells (aggV v A c) 24)).alloc (.cells (aggV u B d) 24)) := ⟨_, rfl⟩
  have HWB := Lib.hid hwb
  rw [← hwb] at HB0 HV0 HU0 HC0 HD0 c0 c1 c2 c3 d0 d1 d2 d3
  have TA : Hid (∀ dd os, Calls Try.prog 19 #[.agg (aggV v A c)] (Sort.grow (redrawn wb dd) os) fun e w' => e = .returned (.int .i64 1) ∧ Below (Sort.grow (redrawn wb dd) os).heap.size (Sort.grow (redrawn wb dd) os) w') := Lib.hid (fun dd os => by
    have h := check_calls v A c (Sort.grow (redrawn wb dd) os) HL.out (Kd.C_below HC0.out (below_regrown wb dd os))
    rwa [HM.out] at h)
  have zc0 := cell_regrown c0
  have zd0 := cell_regrown d0
  have zc1 := cell_regrown c1
  have zd1 := cell_regrown d1
  have zc2 := cell_regrown c2
  have zd2 := cell_regrown d2
  have zc3 := cell_regrown c3
  have zd3 := cell_regrown d3
  clear hl hc hk hd hwb hm  c0 c1 c2 c3 d0 d1 d2 d3
  rw [HWB.out] at zc0 zc1 zc2 zc3 zd0 zd1 zd2 zd3 TA 
  go_enter Try.func17, Try.ntmps17
  go_wp2_with fail
  refine wp_region_quiet_below (by kernel_rfl) (by kernel_rfl) ?_
  repeat (go_big_quiet_step ((first | (go_at_call 19; exact Calls.regrown_of (TA.out _ _)))))
  refine wpQuiet_nil ?_
  intro _ hw'
  obtain ⟨⟨dq, osq⟩, hw''⟩ := hw'
  subst hw''
  have HBF := Lib.hid (below_then HB0.out HB0.out.size (below_regrown wb dq osq))
  rw [HWB.out] at HBF
  go_wp2_with fail
  go_ret
  exact ⟨false, rfl, ⟨fun h => absurd h (by simp), fun h => absurd (HM.out.symm.trans h.1) (by simp)⟩, HBF.out⟩
set_option maxHeartbeats 8000000 in
theorem msame_b (v u : V) (A B : Option Addr) (c d : Nat) (w : World) (hl : v.f3.length ≤ c) (hc : kV.C w A v.f3.length v.f3) (hk : u.f3.length ≤ d) (hd : kV.C w B u.f3.length u.f3) (hm : mayN 16 v = true) (hn : mayN 16 u = false) :
    Calls Try.prog 17 #[.agg (aggV v A c), .agg (aggV u B d)] w fun e w' => Likes v u w w' e := by
  have HB0 : Hid (Below w.heap.size w ((w.alloc (.cells (aggV v A c) 24)).alloc (.cells (aggV u B d) 24))) := Lib.hid (below_alloc (below_alloc (Below.refl _ _) _) _)
  have HV0 : Hid (((w.alloc (.cells (aggV v A c) 24)).alloc (.cells (aggV u B d) 24)).heap[w.heap.size]? = some (.cells (aggV v A c) 24 (0, 0))) := Lib.hid (blk_alloc (blk_new w (.cells (aggV v A c) 24)) (.cells (aggV u B d) 24))
  have HU0 : Hid (((w.alloc (.cells (aggV v A c) 24)).alloc (.cells (aggV u B d) 24)).heap[w.heap.size + 1]? = some (.cells (aggV u B d) 24 (0, 0))) := Lib.hid (by have := blk_new (w.alloc (.cells (aggV v A c) 24)) (.cells (aggV u B d) 24); rwa [show (w.alloc (.cells (aggV v A c) 24)).heap.size = w.heap.size + 1 by simp only [World.alloc, Array.size_push]] at this)
  have HC0 := Lib.hid (Kd.C_below hc HB0.out)
  have HD0 := Lib.hid (Kd.C_below hd HB0.out)
  have HL := Lib.hid hl
  have HK := Lib.hid hk
  have c0 := blk_cell HV0.out 0
  have c1 := blk_cell HV0.out 1
  have c2 := blk_cell HV0.out 2
  have c3 := blk_cell HV0.out 3
  have d0 := blk_cell HU0.out 0
  have d1 := blk_cell HU0.out 1
  have d2 := blk_cell HU0.out 2
  have d3 := blk_cell HU0.out 3
  have HM := Lib.hid hm
  have HN := Lib.hid hn
  obtain ⟨wb, hwb⟩ : ∃ wb, wb = ((w.alloc (.cells (aggV v A c) 24)).alloc (.cells (aggV u B d) 24)) := ⟨_, rfl⟩
  have HWB := Lib.hid hwb
  rw [← hwb] at HB0 HV0 HU0 HC0 HD0 c0 c1 c2 c3 d0 d1 d2 d3
  have TA : Hid (∀ dd os, Calls Try.prog 19 #[.agg (aggV v A c)] (Sort.grow (redrawn wb dd) os) fun e w' => e = .returned (.int .i64 0) ∧ Below (Sort.grow (redrawn wb dd) os).heap.size (Sort.grow (redrawn wb dd) os) w') := Lib.hid (fun dd os => by
    have h := check_calls v A c (Sort.grow (redrawn wb dd) os) HL.out (Kd.C_below HC0.out (below_regrown wb dd os))
    rwa [HM.out] at h)
  have TB : Hid (∀ dd os, Calls Try.prog 19 #[.agg (aggV u B d)] (Sort.grow (redrawn wb dd) os) fun e w' => e = .returned (.int .i64 1) ∧ Below (Sort.grow (redrawn wb dd) os).heap.size (Sort.grow (redrawn wb dd) os) w') := Lib.hid (fun dd os => by
    have h := check_calls u B d (Sort.grow (redrawn wb dd) os) HK.out (Kd.C_below HD0.out (below_regrown wb dd os))
    rwa [HN.out] at h)
  have zc0 := cell_regrown c0
  have zd0 := cell_regrown d0
  have zc1 := cell_regrown c1
  have zd1 := cell_regrown d1
  have zc2 := cell_regrown c2
  have zd2 := cell_regrown d2
  have zc3 := cell_regrown c3
  have zd3 := cell_regrown d3
  clear hl hc hk hd hwb hm hn c0 c1 c2 c3 d0 d1 d2 d3
  rw [HWB.out] at zc0 zc1 zc2 zc3 zd0 zd1 zd2 zd3 TA TB
  go_enter Try.func17, Try.ntmps17
  go_wp2_with fail
  refine wp_region_quiet_below (by kernel_rfl) (by kernel_rfl) ?_
  repeat (go_big_quiet_step ((first | (go_at_call 19; exact Calls.regrown_of (TA.out _ _)) | (go_at_call 19; exact Calls.regrown_of (TB.out _ _)))))
  refine wpQuiet_nil ?_
  intro _ hw'
  obtain ⟨⟨dq, osq⟩, hw''⟩ := hw'
  subst hw''
  have HBF := Lib.hid (below_then HB0.out HB0.out.size (below_regrown wb dq osq))
  rw [HWB.out] at HBF
  go_wp2_with fail
  go_ret
  exact ⟨false, rfl, ⟨fun h => absurd h (by simp), fun h => absurd (HN.out.symm.trans h.2.1) (by simp)⟩, HBF.out⟩
set_option maxHeartbeats 8000000 in
set_option maxRecDepth 100000 in
theorem msame_ok (v u : V) (hsv : Sz v) (hsu : Sz u) (A B : Option Addr) (c d : Nat) (w : World) (hl : v.f3.length ≤ c) (hc : kV.C w A v.f3.length v.f3) (hk : u.f3.length ≤ d) (hd : kV.C w B u.f3.length u.f3) (hm : mayN 16 v = true) (hn : mayN 16 u = true) :
    Calls Try.prog 17 #[.agg (aggV v A c), .agg (aggV u B d)] w fun e w' => Likes v u w w' e := by
  have HB0 : Hid (Below w.heap.size w ((w.alloc (.cells (aggV v A c) 24)).alloc (.cells (aggV u B d) 24))) := Lib.hid (below_alloc (below_alloc (Below.refl _ _) _) _)
  have HV0 : Hid (((w.alloc (.cells (aggV v A c) 24)).alloc (.cells (aggV u B d) 24)).heap[w.heap.size]? = some (.cells (aggV v A c) 24 (0, 0))) := Lib.hid (blk_alloc (blk_new w (.cells (aggV v A c) 24)) (.cells (aggV u B d) 24))
  have HU0 : Hid (((w.alloc (.cells (aggV v A c) 24)).alloc (.cells (aggV u B d) 24)).heap[w.heap.size + 1]? = some (.cells (aggV u B d) 24 (0, 0))) := Lib.hid (by have := blk_new (w.alloc (.cells (aggV v A c) 24)) (.cells (aggV u B d) 24); rwa [show (w.alloc (.cells (aggV v A c) 24)).heap.size = w.heap.size + 1 by simp only [World.alloc, Array.size_push]] at this)
  have HC0 := Lib.hid (Kd.C_below hc HB0.out)
  have HD0 := Lib.hid (Kd.C_below hd HB0.out)
  have HL := Lib.hid hl
  have HK := Lib.hid hk
  have HM := Lib.hid hm
  have HN := Lib.hid hn
  have HSV := Lib.hid hsv
  have HSU := Lib.hid hsu
  obtain ⟨wb, hwb⟩ : ∃ wb, wb = ((w.alloc (.cells (aggV v A c) 24)).alloc (.cells (aggV u B d) 24)) := ⟨_, rfl⟩
  have HWB := Lib.hid hwb
  rw [← hwb] at HB0 HV0 HU0 HC0 HD0
  clear hl hc hk hd hwb hm hn hsv hsu
  go_enter Try.func17, Try.ntmps17
  go_wp2_with fail
  rw [← HWB.out]
  refine start_ (n := 16) (S := fun w' => w'.heap[w.heap.size]? = wb.heap[w.heap.size]? ∧ w'.heap[w.heap.size + 1]? = wb.heap[w.heap.size + 1]?) (ds := []) #[false, false, false, false, false, false, false, false, false, false, false, false, false, false, false, false] (by kernel_rfl) rfl rfl ⟨rfl, rfl⟩ (fun hHeld => ?_)
  have hB0 : Hid (Below w.heap.size w wb.drew) := Lib.hid (below_then HB0.out HB0.out.size (below_drew (Below.refl _ _)))
  have hC0 := Lib.hid (Kd.C_below HC0.out (below_drew (Below.refl wb.heap.size wb)))
  have hD0 := Lib.hid (Kd.C_below HD0.out (below_drew (Below.refl wb.heap.size wb)))
  generalize wb.drew = wd at hB0 hC0 hD0 hHeld ⊢
  refine take_ (i := 0) (N := some 5) (v := ?_) (a' := ?_) #[true, false, false, false, false, false, false, false, false, false, false, false, false, false, false, false] rfl rfl (by kernel_rfl) (fun _ _ _ h => h) (Or.inl ⟨by rfl, ?_⟩) hHeld ?_ ?_
  rotate_left
  · rintro w' hS
    have c0 := blk_cell (hS.1.trans HV0.out) 0
    have c1 := blk_cell (hS.1.trans HV0.out) 1
    have c2 := blk_cell (hS.1.trans HV0.out) 2
    have c3 := blk_cell (hS.1.trans HV0.out) 3
    go_simp
    with_reducible rfl
  rotate_left
  · simp only [Act.put, List.setIfInBounds_toArray, List.set_cons_zero, List.set_cons_succ, i64_w, i32_w]
    rfl
  refine one_ (i := 1) (N := some 6) #[true, true, false, false, false, false, false, false, false, false, false, false, false, false, false, false] rfl rfl (by kernel_rfl) (by decide) (fun K hK => ?_)
  refine goes_ Try.func19 (by kernel_rfl) rfl #[.agg (aggV v A c)] (by rfl) rfl rfl (by (try simp only [List.map_toArray, List.map_cons, List.map_nil]); first | done | rfl | (go_simp; done) | (go_simp; rfl)) ?_
  have TC := check_calls v A c wd HL.out hC0.out
  rw [HM.out, if_pos rfl] at TC
  refine TC.mono ?_
  rintro r w1 ⟨rfl, hb⟩
  refine ⟨_, rfl, ?_⟩
  clear TC
  have hC1 := Lib.hid (Kd.C_below hC0.out hb)
  have hD1 := Lib.hid (Kd.C_below hD0.out hb)
  have hB1 := Lib.hid (below_then hB0.out hB0.out.size hb)
  have hK1 := Lib.hid (And.intro ((blk_below (hHeld.1.trans HV0.out) hb).trans HV0.out.symm) ((blk_below (hHeld.2.trans HU0.out) hb).trans HU0.out.symm))
  clear hb hB0 hC0 hD0
  refine hK.out _ _ hK1.out (fun hHeld => ?_)
  clear hK K
  refine norm_ (a' := ?_) ?_ ?_
  rotate_left
  · show Act.put _ (some 6) _ = _
    simp only [Act.put, List.setIfInBounds_toArray, List.set_cons_zero, List.set_cons_succ, i64_w, i32_w]
    rfl
  refine pure_ (i := 2) (N := some 7) (v := ?_) (a' := ?_) #[true, true, true, false, false, false, false, false, false, false, false, false, false, false, false, false] rfl rfl (by kernel_rfl) (fun _ _ _ h => h) (Or.inl ⟨by rfl, ?_⟩) ?_ ?_
  rotate_left
  · intro w'
    go_simp
    with_reducible rfl
  rotate_left
  · simp only [Act.put, List.setIfInBounds_toArray, List.set_cons_zero, List.set_cons_succ, i64_w, i32_w]
    rfl
  refine pure_ (i := 3) (N := some 8) (v := ?_) (a' := ?_) #[true, true, true, true, false, false, false, false, false, false, false, false, false, false, false, false] rfl rfl (by kernel_rfl) (fun _ _ _ h => h) (Or.inl ⟨by rfl, ?_⟩) ?_ ?_
  rotate_left
  · intro w'
    go_simp
    with_reducible rfl
  rotate_left
  · simp only [Act.put, List.setIfInBounds_toArray, List.set_cons_zero, List.set_cons_succ, i64_w, i32_w]
    rfl
  refine take_ (i := 4) (N := some 9) (v := ?_) (a' := ?_) #[true, true, true, true, true, false, false, false, false, false, false, false, false, false, false, false] rfl rfl (by kernel_rfl) (fun _ _ _ h => h) (Or.inl ⟨by rfl, ?_⟩) hHeld ?_ ?_
  rotate_left
  · rintro w' hS
    have c0 := blk_cell (hS.2.trans HU0.out) 0
    have c1 := blk_cell (hS.2.trans HU0.out) 1
    have c2 := blk_cell (hS.2.trans HU0.out) 2
    have c3 := blk_cell (hS.2.trans HU0.out) 3
    go_simp
    with_reducible rfl
  rotate_left
  · simp only [Act.put, List.setIfInBounds_toArray, List.set_cons_zero, List.set_cons_succ, i64_w, i32_w]
    rfl
  refine one_ (i := 5) (N := some 10) #[true, true, true, true, true, true, false, false, false, false, false, false, false, false, false, false] rfl rfl (by kernel_rfl) (by decide) (fun K hK => ?_)
  refine goes_ Try.func19 (by kernel_rfl) rfl #[.agg (aggV u B d)] (by rfl) rfl rfl (by (try simp only [List.map_toArray, List.map_cons, List.map_nil]); first | done | rfl | (go_simp; done) | (go_simp; rfl)) ?_
  have TC := check_calls u B d w1 HK.out hD1.out
  rw [HN.out, if_pos rfl] at TC
  refine TC.mono ?_
  rintro r w2 ⟨rfl, hb⟩
  refine ⟨_, rfl, ?_⟩
  clear TC
  have hC2 := Lib.hid (Kd.C_below hC1.out hb)
  have hD2 := Lib.hid (Kd.C_below hD1.out hb)
  have hB2 := Lib.hid (below_then hB1.out hB1.out.size hb)
  have hK2 := Lib.hid (And.intro ((blk_below (hHeld.1.trans HV0.out) hb).trans HV0.out.symm) ((blk_below (hHeld.2.trans HU0.out) hb).trans HU0.out.symm))
  clear hb hB1 hC1 hD1
  refine hK.out _ _ hK2.out (fun hHeld => ?_)
  clear hK K
  refine norm_ (a' := ?_) ?_ ?_
  rotate_left
  · show Act.put _ (some 10) _ = _
    simp only [Act.put, List.setIfInBounds_toArray, List.set_cons_zero, List.set_cons_succ, i64_w, i32_w]
    rfl
  refine pure_ (i := 6) (N := some 11) (v := ?_) (a' := ?_) #[true, true, true, true, true, true, true, false, false, false, false, false, false, false, false, false] rfl rfl (by kernel_rfl) (fun _ _ _ h => h) (Or.inl ⟨by rfl, ?_⟩) ?_ ?_
  rotate_left
  · intro w'
    go_simp
    with_reducible rfl
  rotate_left
  · simp only [Act.put, List.setIfInBounds_toArray, List.set_cons_zero, List.set_cons_succ, i64_w, i32_w]
    rfl
  refine pure_ (i := 7) (N := some 12) (v := ?_) (a' := ?_) #[true, true, true, true, true, true, true, true, false, false, false, false, false, false, false, false] rfl rfl (by kernel_rfl) (fun _ _ _ h => h) (Or.inl ⟨by rfl, ?_⟩) ?_ ?_
  rotate_left
  · intro w'
    go_simp
    with_reducible rfl
  rotate_left
  · simp only [Act.put, List.setIfInBounds_toArray, List.set_cons_zero, List.set_cons_succ, i64_w, i32_w]
    rfl
  refine pure_ (i := 8) (N := some 13) (v := ?_) (a' := ?_) #[true, true, true, true, true, true, true, true, true, false, false, false, false, false, false, false] rfl rfl (by kernel_rfl) (fun _ _ _ h => h) (Or.inl ⟨by rfl, ?_⟩) ?_ ?_
  rotate_left
  · intro w'
    go_simp
    with_reducible rfl
  rotate_left
  · simp only [Act.put, List.setIfInBounds_toArray, List.set_cons_zero, List.set_cons_succ, i64_w, i32_w]
    rfl
  refine take_ (i := 9) (N := some 14) (v := ?_) (a' := ?_) #[true, true, true, true, true, true, true, true, true, true, false, false, false, false, false, false] rfl rfl (by kernel_rfl) (fun _ _ _ h => h) (Or.inl ⟨by rfl, ?_⟩) hHeld ?_ ?_
  rotate_left
  · rintro w' hS
    have c0 := blk_cell (hS.1.trans HV0.out) 0
    have c1 := blk_cell (hS.1.trans HV0.out) 1
    have c2 := blk_cell (hS.1.trans HV0.out) 2
    have c3 := blk_cell (hS.1.trans HV0.out) 3
    go_simp
    with_reducible rfl
  rotate_left
  · simp only [Act.put, List.setIfInBounds_toArray, List.set_cons_zero, List.set_cons_succ, i64_w, i32_w]
    rfl
  refine take_ (i := 11) (N := some 16) (v := ?_) (a' := ?_) #[true, true, true, true, true, true, true, true, true, true, false, true, false, false, false, false] rfl rfl (by kernel_rfl) (fun _ _ _ h => h) (Or.inl ⟨by rfl, ?_⟩) hHeld ?_ ?_
  rotate_left
  · rintro w' hS
    have c0 := blk_cell (hS.2.trans HU0.out) 0
    have c1 := blk_cell (hS.2.trans HU0.out) 1
    have c2 := blk_cell (hS.2.trans HU0.out) 2
    have c3 := blk_cell (hS.2.trans HU0.out) 3
    go_simp
    with_reducible rfl
  rotate_left
  · simp only [Act.put, List.setIfInBounds_toArray, List.set_cons_zero, List.set_cons_succ, i64_w, i32_w]
    rfl
  refine one_ (i := 10) (N := some 15) #[true, true, true, true, true, true, true, true, true, true, true, true, false, false, false, false] rfl rfl (by kernel_rfl) (by decide) (fun K hK => ?_)
  refine goes_ Try.func23 (by kernel_rfl) rfl #[.agg (aggV v A c)] (by rfl) rfl rfl (by (try simp only [List.map_toArray, List.map_cons, List.map_nil]); first | done | rfl | (go_simp; done) | (go_simp; rfl)) ?_
  refine (tree_calls 16 v HM.out (HSV.out.fit 16) A c w2 HL.out hC2.out).mono ?_
  rintro r w3 ⟨av, rfl, han, hb⟩
  refine ⟨_, rfl, ?_⟩
  have hA3 := Lib.hid (An.mono han (ok1 := fun _ => True) (fun _ _ _ => trivial))
  clear han
  have hC3 := Lib.hid (Kd.C_below hC2.out hb)
  have hD3 := Lib.hid (Kd.C_below hD2.out hb)
  have hB3 := Lib.hid (below_then hB2.out hB2.out.size hb)
  have hK3 := Lib.hid (And.intro ((blk_below (hHeld.1.trans HV0.out) hb).trans HV0.out.symm) ((blk_below (hHeld.2.trans HU0.out) hb).trans HU0.out.symm))
  clear hb hB2 hC2 hD2
  refine hK.out _ _ hK3.out (fun hHeld => ?_)
  clear hK K
  refine norm_ (a' := ?_) ?_ ?_
  rotate_left
  · show Act.put _ (some 15) _ = _
    simp only [Act.put, List.setIfInBounds_toArray, List.set_cons_zero, List.set_cons_succ, i64_w, i32_w]
    rfl
  refine one_ (i := 12) (N := some 17) #[true, true, true, true, true, true, true, true, true, true, true, true, true, false, false, false] rfl rfl (by kernel_rfl) (by decide) (fun K hK => ?_)
  refine goes_ Try.func23 (by kernel_rfl) rfl #[.agg (aggV u B d)] (by rfl) rfl rfl (by (try simp only [List.map_toArray, List.map_cons, List.map_nil]); first | done | rfl | (go_simp; done) | (go_simp; rfl)) ?_
  refine (tree_calls 16 u HN.out (HSU.out.fit 16) B d w3 HK.out hD3.out).mono ?_
  rintro r w4 ⟨bv, rfl, han, hb⟩
  refine ⟨_, rfl, ?_⟩
  have hE4 := Lib.hid (An.mono han (ok1 := fun _ => True) (fun _ _ _ => trivial))
  have hA4 := Lib.hid (hA3.out.below hb)
  clear han hA3
  have hC4 := Lib.hid (Kd.C_below hC3.out hb)
  have hD4 := Lib.hid (Kd.C_below hD3.out hb)
  have hB4 := Lib.hid (below_then hB3.out hB3.out.size hb)
  have hK4 := Lib.hid (And.intro ((blk_below (hHeld.1.trans HV0.out) hb).trans HV0.out.symm) ((blk_below (hHeld.2.trans HU0.out) hb).trans HU0.out.symm))
  clear hb hB3 hC3 hD3
  refine hK.out _ _ hK4.out (fun hHeld => ?_)
  clear hK K
  refine norm_ (a' := ?_) ?_ ?_
  rotate_left
  · show Act.put _ (some 17) _ = _
    simp only [Act.put, List.setIfInBounds_toArray, List.set_cons_zero, List.set_cons_succ, i64_w, i32_w]
    rfl
  refine one_ (i := 13) (N := some 18) #[true, true, true, true, true, true, true, true, true, true, true, true, true, true, false, false] rfl rfl (by kernel_rfl) (by decide) (fun K hK => ?_)
  refine goes_ Try.func26 (by kernel_rfl) rfl #[av, bv] (by rfl) rfl rfl (by (try simp only [List.map_toArray, List.map_cons, List.map_nil]); first | done | rfl | (go_simp; done) | (go_simp; rfl)) ?_
  refine (wsame_calls v u HM.out HN.out (HSV.out.fit 16) av bv w4 hA4.out hE4.out).mono ?_
  rintro x w5 ⟨r, rfl, hr, hb⟩
  refine ⟨_, rfl, ?_⟩
  have HR := Lib.hid hr
  clear hr hA4 hE4
  have hC5 := Lib.hid (Kd.C_below hC4.out hb)
  have hD5 := Lib.hid (Kd.C_below hD4.out hb)
  have hB5 := Lib.hid (below_then hB4.out hB4.out.size hb)
  have hK5 := Lib.hid (And.intro ((blk_below (hHeld.1.trans HV0.out) hb).trans HV0.out.symm) ((blk_below (hHeld.2.trans HU0.out) hb).trans HU0.out.symm))
  clear hb hB4 hC4 hD4
  refine hK.out _ _ hK5.out (fun hHeld => ?_)
  clear hK K
  refine norm_ (a' := ?_) ?_ ?_
  rotate_left
  · show Act.put _ (some 18) _ = _
    simp only [Act.put, List.setIfInBounds_toArray, List.set_cons_zero, List.set_cons_succ, i64_w, i32_w]
    rfl
  refine pure_ (i := 14) (N := some 19) (v := ?_) (a' := ?_) #[true, true, true, true, true, true, true, true, true, true, true, true, true, true, true, false] rfl rfl (by kernel_rfl) (fun _ _ _ h => h) (Or.inl ⟨by rfl, ?_⟩) ?_ ?_
  rotate_left
  · intro w'
    go_simp
    with_reducible rfl
  rotate_left
  · simp only [Act.put, List.setIfInBounds_toArray, List.set_cons_zero, List.set_cons_succ, i64_w, i32_w]
    rfl
  refine pure_ (i := 15) (N := some 4) (v := ?_) (a' := ?_) #[true, true, true, true, true, true, true, true, true, true, true, true, true, true, true, true] rfl rfl (by kernel_rfl) (fun _ _ _ h => h) (Or.inl ⟨by rfl, ?_⟩) ?_ ?_
  rotate_left
  · intro w'
    go_simp
    with_reducible rfl
  rotate_left
  · simp only [Act.put, List.setIfInBounds_toArray, List.set_cons_zero, List.set_cons_succ, i64_w, i32_w]
    rfl
  refine done_ (by kernel_rfl) ?_
  go_wp2_with fail
  go_ret
  exact ⟨r, rfl, ⟨fun h => ⟨HM.out, HN.out, HR.out.1 h⟩, fun h => HR.out.2 h.2.2⟩, hB5.out⟩
theorem msame_calls (v u : V) (hsv : Sz v) (hsu : Sz u) (A B : Option Addr) (c d : Nat) (w : World) (hl : v.f3.length ≤ c) (hc : kV.C w A v.f3.length v.f3) (hk : u.f3.length ≤ d) (hd : kV.C w B u.f3.length u.f3) :
    Calls Try.prog 17 #[.agg (aggV v A c), .agg (aggV u B d)] w fun e w' => Likes v u w w' e := by
  cases hm : mayN 16 v
  · exact msame_a v u A B c d w hl hc hk hd hm
  · cases hn : mayN 16 u
    · exact msame_b v u A B c d w hl hc hk hd hm hn
    · exact msame_ok v u hsv hsu A B c d w hl hc hk hd hm hn
/-- Encode's answer in one shape. -/
theorem enc_any (v : V) (hs : Sz v) (A : Option Addr) (c : Nat) (w : World) (hl : v.f3.length ≤ c) (hc : kV.C w A v.f3.length v.f3) (hz : mayN 16 v = true → (encN 16 v).length + 30 ≤ 140737488355328) :
    Calls Try.prog 18 #[.agg (aggV v A c)] w fun e w' => ∃ (k : Int) (B : Option Addr) (cb : Nat) (E : List Int), e = .returned (.tuple #[.slice B E.length cb, .int .i64 k]) ∧ E.length ≤ cb ∧ BK.C w' B E.length E ∧ (k = 0 → mayN 16 v = true ∧ E = encN 16 v) ∧ Below w.heap.size w w' := by
  cases hm : mayN 16 v
  · exact (enc_bad v A c w hl hc hm).mono (fun e w' ⟨h1, h2⟩ => ⟨1, none, 0, [], h1, Nat.le_refl _, ⟨rfl, by decide, fun h => absurd h (by decide)⟩, fun h => absurd h (by decide), h2⟩)
  · refine (enc_ok v A c w hl hc hm (hs.fit 16) (hz hm)).mono (fun e w' h => ?_)
    obtain ⟨hb, ⟨h1, h2⟩ | ⟨h1, B, cb, h2, h3, h4⟩⟩ := h
    · exact ⟨3, none, 0, [], h2, Nat.le_refl _, ⟨rfl, by decide, fun h => absurd h (by decide)⟩, fun h => absurd h (by decide), hb⟩
    · exact ⟨0, B, cb, encN 16 v, h2, h3, h4, fun _ => ⟨rfl, rfl⟩, hb⟩
theorem str_eq {v u : V} {r : Bool} (hm : mayN 16 v = true) (hn : mayN 16 u = true) (hr : r = true ↔ v = u) : ((strOfNums (encN 16 v)).toList == (strOfNums (encN 16 u)).toList) = r := by
  have h1 : (strOfNums (encN 16 v)).toList = (strOfNums (encN 16 u)).toList ↔ v = u := by
    rw [Lib.toList_data, Lib.toList_data]
    refine ⟨fun h => ?_, fun h => by rw [h]⟩
    have e : strOfNums (encN 16 v) = strOfNums (encN 16 u) := ByteArray.ext (Array.toList_inj.1 h)
    have e2 := congrArg byt e
    rw [byt_nums (enc_range 16 v hm), byt_nums (enc_range 16 u hn)] at e2
    exact (enc_cut 16 v hm 16 u [] [] hn (by rw [e2])).1
  rw [Bool.eq_iff_iff, beq_iff_eq, h1, hr]
set_option maxHeartbeats 16000000 in
set_option maxRecDepth 100000 in
theorem unlike_a (v u : V) (hsv : Sz v) (hsu : Sz u) (A B : Option Addr) (c d : Nat) (w : World) (hl : v.f3.length ≤ c) (hc : kV.C w A v.f3.length v.f3) (hk : u.f3.length ≤ d) (hd : kV.C w B u.f3.length u.f3) (hzv : mayN 16 v = true → (encN 16 v).length + 30 ≤ 140737488355328) (hzu : mayN 16 u = true → (encN 16 u).length + 30 ≤ 140737488355328) (hm : mayN 16 v = false) :
    Calls Try.prog 5 #[.agg (aggV v A c), .agg (aggV u B d)] w fun e w' => e = .returned (.bool true) ∧ Below w.heap.size w w' := by
  have HB0 : Hid (Below w.heap.size w ((w.alloc (.cells (aggV v A c) 24)).alloc (.cells (aggV u B d) 24))) := Lib.hid (below_alloc (below_alloc (Below.refl _ _) _) _)
  have HV0 : Hid (((w.alloc (.cells (aggV v A c) 24)).alloc (.cells (aggV u B d) 24)).heap[w.heap.size]? = some (.cells (aggV v A c) 24 (0, 0))) := Lib.hid (blk_alloc (blk_new w (.cells (aggV v A c) 24)) (.cells (aggV u B d) 24))
  have HU0 : Hid (((w.alloc (.cells (aggV v A c) 24)).alloc (.cells (aggV u B d) 24)).heap[w.heap.size + 1]? = some (.cells (aggV u B d) 24 (0, 0))) := Lib.hid (by have := blk_new (w.alloc (.cells (aggV v A c) 24)) (.cells (aggV u B d) 24); rwa [show (w.alloc (.cells (aggV v A c) 24)).heap.size = w.heap.size + 1 by simp only [World.alloc, Array.size_push]] at this)
  have HC0 := Lib.hid (Kd.C_below hc HB0.out)
  have HD0 := Lib.hid (Kd.C_below hd HB0.out)
  have HL := Lib.hid hl
  have HK := Lib.hid hk
  have HSV := Lib.hid hsv
  have HSU := Lib.hid hsu
  have HZV := Lib.hid hzv
  have HZU := Lib.hid hzu
  obtain ⟨lt, hlt⟩ := light_calls v hsv A c _ HC0.out hl
  have TL := Lib.hid hlt
  clear hlt
  have c0 := blk_cell HV0.out 0
  have c1 := blk_cell HV0.out 1
  have c2 := blk_cell HV0.out 2
  have c3 := blk_cell HV0.out 3
  have d0 := blk_cell HU0.out 0
  have d1 := blk_cell HU0.out 1
  have d2 := blk_cell HU0.out 2
  have d3 := blk_cell HU0.out 3
  have HM := Lib.hid hm
  clear hl hc hk hd hsv hsu hzv hzu hm
  go_enter Try.func5, Try.ntmps5
  go_wp2_with fail
  refine TL.out.mono ?_
  rintro e w1 ⟨rfl, hb⟩
  have HB1 := Lib.hid (below_then HB0.out HB0.out.size hb)
  have HV1 := Lib.hid (blk_below HV0.out hb)
  have HU1 := Lib.hid (blk_below HU0.out hb)
  have HC1 := Lib.hid (Kd.C_below HC0.out hb)
  have HD1 := Lib.hid (Kd.C_below HD0.out hb)
  clear TL
  clear hb HB0 HV0 HU0 HC0 HD0 c0 c1 c2 c3 d0 d1 d2 d3
  have c0 := blk_cell HV1.out 0
  have c1 := blk_cell HV1.out 1
  have c2 := blk_cell HV1.out 2
  have c3 := blk_cell HV1.out 3
  have d0 := blk_cell HU1.out 0
  have d1 := blk_cell HU1.out 1
  have d2 := blk_cell HU1.out 2
  have d3 := blk_cell HU1.out 3
  cases lt
  · go_wp2_with fail
    refine (awake_calls _).mono ?_
    rintro e wz ⟨rfl, hb⟩
    have HBZ := Lib.hid (below_then HB1.out HB1.out.size hb)
    clear hb
    go_wp2_with fail
    go_ret
    exact ⟨rfl, HBZ.out⟩
  · obtain ⟨lu, hlu⟩ := light_calls u HSU.out B d w1 HD1.out HK.out
    have TU := Lib.hid hlu
    clear hlu
    go_wp2_with fail
    refine TU.out.mono ?_
    rintro e w2 ⟨rfl, hb⟩
    have HB2 := Lib.hid (below_then HB1.out HB1.out.size hb)
    have HV2 := Lib.hid (blk_below HV1.out hb)
    have HU2 := Lib.hid (blk_below HU1.out hb)
    have HC2 := Lib.hid (Kd.C_below HC1.out hb)
    have HD2 := Lib.hid (Kd.C_below HD1.out hb)
    clear TU
    clear hb HB1 HV1 HU1 HC1 HD1 c0 c1 c2 c3 d0 d1 d2 d3
    have c0 := blk_cell HV2.out 0
    have c1 := blk_cell HV2.out 1
    have c2 := blk_cell HV2.out 2
    have c3 := blk_cell HV2.out 3
    have d0 := blk_cell HU2.out 0
    have d1 := blk_cell HU2.out 1
    have d2 := blk_cell HU2.out 2
    have d3 := blk_cell HU2.out 3
    cases lu
    · go_wp2_with fail
      refine (awake_calls _).mono ?_
      rintro e wz ⟨rfl, hb⟩
      have HBZ := Lib.hid (below_then HB2.out HB2.out.size hb)
      clear hb
      go_wp2_with fail
      go_ret
      exact ⟨rfl, HBZ.out⟩
    · skip
      have T := Lib.hid (rmay_calls v HSV.out A c w2 HC2.out HL.out)
      rw [HM.out] at T
      go_wp2_with fail
      refine T.out.mono ?_
      rintro e w3 ⟨rfl, hb⟩
      have HB3 := Lib.hid (below_then HB2.out HB2.out.size hb)
      have HV3 := Lib.hid (blk_below HV2.out hb)
      have HU3 := Lib.hid (blk_below HU2.out hb)
      have HC3 := Lib.hid (Kd.C_below HC2.out hb)
      have HD3 := Lib.hid (Kd.C_below HD2.out hb)
      clear T
      clear hb HB2 HV2 HU2 HC2 HD2 c0 c1 c2 c3 d0 d1 d2 d3
      have c0 := blk_cell HV3.out 0
      have c1 := blk_cell HV3.out 1
      have c2 := blk_cell HV3.out 2
      have c3 := blk_cell HV3.out 3
      have d0 := blk_cell HU3.out 0
      have d1 := blk_cell HU3.out 1
      have d2 := blk_cell HU3.out 2
      have d3 := blk_cell HU3.out 3
      go_wp2_with fail
      refine (msame_calls v u HSV.out HSU.out A B c d w3 HL.out HC3.out HK.out HD3.out).mono ?_
      rintro e w4 ⟨r1, rfl, hr1, hb⟩
      have HB4 := Lib.hid (below_then HB3.out HB3.out.size hb)
      have HV4 := Lib.hid (blk_below HV3.out hb)
      have HU4 := Lib.hid (blk_below HU3.out hb)
      have HC4 := Lib.hid (Kd.C_below HC3.out hb)
      have HD4 := Lib.hid (Kd.C_below HD3.out hb)
      obtain rfl : r1 = false := by
        cases r1
        · rfl
        · exact absurd (HM.out.symm.trans (hr1.1 rfl).1) (by decide)
      clear hr1
      clear hb HB3 HV3 HU3 HC3 HD3 c0 c1 c2 c3 d0 d1 d2 d3
      have c0 := blk_cell HV4.out 0
      have c1 := blk_cell HV4.out 1
      have c2 := blk_cell HV4.out 2
      have c3 := blk_cell HV4.out 3
      have d0 := blk_cell HU4.out 0
      have d1 := blk_cell HU4.out 1
      have d2 := blk_cell HU4.out 2
      have d3 := blk_cell HU4.out 3
      go_wp2_with fail
      refine (enc_any v HSV.out A c w4 HL.out HC4.out HZV.out).mono ?_
      rintro e w5 ⟨k1, A1, c1', E1, rfl, hl1, hc1, hk1, hb⟩
      have HB5 := Lib.hid (below_then HB4.out HB4.out.size hb)
      have HV5 := Lib.hid (blk_below HV4.out hb)
      have HU5 := Lib.hid (blk_below HU4.out hb)
      have HC5 := Lib.hid (Kd.C_below HC4.out hb)
      have HD5 := Lib.hid (Kd.C_below HD4.out hb)
      have HE1 := Lib.hid hc1
      have HL1 := Lib.hid hl1
      have HK1 := Lib.hid hk1
      clear hc1 hl1 hk1
      clear hb HB4 HV4 HU4 HC4 HD4 c0 c1 c2 c3 d0 d1 d2 d3
      have c0 := blk_cell HV5.out 0
      have c1 := blk_cell HV5.out 1
      have c2 := blk_cell HV5.out 2
      have c3 := blk_cell HV5.out 3
      have d0 := blk_cell HU5.out 0
      have d1 := blk_cell HU5.out 1
      have d2 := blk_cell HU5.out 2
      have d3 := blk_cell HU5.out 3
      go_wp2_with fail
      refine (enc_any u HSU.out B d w5 HK.out HD5.out HZU.out).mono ?_
      rintro e w6 ⟨k2, A2, c2', E2, rfl, hl2, hc2, hk2, hb⟩
      have HB6 := Lib.hid (below_then HB5.out HB5.out.size hb)
      have HV6 := Lib.hid (blk_below HV5.out hb)
      have HU6 := Lib.hid (blk_below HU5.out hb)
      have HC6 := Lib.hid (Kd.C_below HC5.out hb)
      have HD6 := Lib.hid (Kd.C_below HD5.out hb)
      have HE2 := Lib.hid hc2
      have HF2 := Lib.hid (Kd.C_below HE1.out hb)
      have HL2 := Lib.hid hl2
      have HK2 := Lib.hid hk2
      clear hc2 hl2 hk2 HE1
      clear hb HB5 HV5 HU5 HC5 HD5 c0 c1 c2 c3 d0 d1 d2 d3
      have c0 := blk_cell HV6.out 0
      have c1 := blk_cell HV6.out 1
      have c2 := blk_cell HV6.out 2
      have c3 := blk_cell HV6.out 3
      have d0 := blk_cell HU6.out 0
      have d1 := blk_cell HU6.out 1
      have d2 := blk_cell HU6.out 2
      have d3 := blk_cell HU6.out 3
      by_cases e1 : k1 = 0
      · by_cases e2 : k2 = 0
        · exact absurd (HM.out.symm.trans (HK1.out e1).1) (by decide)
        · have b1 : (k1 == 0) = true := beq_iff_eq.2 e1
          have b2 : (k2 == 0) = false := beq_eq_false_iff_ne.2 e2
          have b3 : (k1 != 0) = false := by rw [bne_eq_false_iff_eq]; exact e1
          have b4 : (k2 != 0) = true := by rw [bne_iff_ne]; exact e2
          clear e1 e2
          go_wp2_with fail
          refine (awake_calls _).mono ?_
          rintro e wz ⟨rfl, hb⟩
          have HBZ := Lib.hid (below_then HB6.out HB6.out.size hb)
          clear hb
          go_wp2_with fail
          go_ret
          exact ⟨rfl, HBZ.out⟩
      · have b1 : (k1 == 0) = false := beq_eq_false_iff_ne.2 e1
        have b3 : (k1 != 0) = true := by rw [bne_iff_ne]; exact e1
        clear e1
        go_wp2_with fail
        refine (awake_calls _).mono ?_
        rintro e wz ⟨rfl, hb⟩
        have HBZ := Lib.hid (below_then HB6.out HB6.out.size hb)
        clear hb
        go_wp2_with fail
        go_ret
        exact ⟨rfl, HBZ.out⟩
set_option maxHeartbeats 16000000 in
set_option maxRecDepth 100000 in
theorem unlike_b (v u : V) (hsv : Sz v) (hsu : Sz u) (A B : Option Addr) (c d : Nat) (w : World) (hl : v.f3.length ≤ c) (hc : kV.C w A v.f3.length v.f3) (hk : u.f3.length ≤ d) (hd : kV.C w B u.f3.length u.f3) (hzv : mayN 16 v = true → (encN 16 v).length + 30 ≤ 140737488355328) (hzu : mayN 16 u = true → (encN 16 u).length + 30 ≤ 140737488355328) (hm : mayN 16 v = true) (hn : mayN 16 u = false) :
    Calls Try.prog 5 #[.agg (aggV v A c), .agg (aggV u B d)] w fun e w' => e = .returned (.bool true) ∧ Below w.heap.size w w' := by
  have HB0 : Hid (Below w.heap.size w ((w.alloc (.cells (aggV v A c) 24)).alloc (.cells (aggV u B d) 24))) := Lib.hid (below_alloc (below_alloc (Below.refl _ _) _) _)
  have HV0 : Hid (((w.alloc (.cells (aggV v A c) 24)).alloc (.cells (aggV u B d) 24)).heap[w.heap.size]? = some (.cells (aggV v A c) 24 (0, 0))) := Lib.hid (blk_alloc (blk_new w (.cells (aggV v A c) 24)) (.cells (aggV u B d) 24))
  have HU0 : Hid (((w.alloc (.cells (aggV v A c) 24)).alloc (.cells (aggV u B d) 24)).heap[w.heap.size + 1]? = some (.cells (aggV u B d) 24 (0, 0))) := Lib.hid (by have := blk_new (w.alloc (.cells (aggV v A c) 24)) (.cells (aggV u B d) 24); rwa [show (w.alloc (.cells (aggV v A c) 24)).heap.size = w.heap.size + 1 by simp only [World.alloc, Array.size_push]] at this)
  have HC0 := Lib.hid (Kd.C_below hc HB0.out)
  have HD0 := Lib.hid (Kd.C_below hd HB0.out)
  have HL := Lib.hid hl
  have HK := Lib.hid hk
  have HSV := Lib.hid hsv
  have HSU := Lib.hid hsu
  have HZV := Lib.hid hzv
  have HZU := Lib.hid hzu
  obtain ⟨lt, hlt⟩ := light_calls v hsv A c _ HC0.out hl
  have TL := Lib.hid hlt
  clear hlt
  have c0 := blk_cell HV0.out 0
  have c1 := blk_cell HV0.out 1
  have c2 := blk_cell HV0.out 2
  have c3 := blk_cell HV0.out 3
  have d0 := blk_cell HU0.out 0
  have d1 := blk_cell HU0.out 1
  have d2 := blk_cell HU0.out 2
  have d3 := blk_cell HU0.out 3
  have HM := Lib.hid hm
  have HN := Lib.hid hn
  clear hl hc hk hd hsv hsu hzv hzu hm hn
  go_enter Try.func5, Try.ntmps5
  go_wp2_with fail
  refine TL.out.mono ?_
  rintro e w1 ⟨rfl, hb⟩
  have HB1 := Lib.hid (below_then HB0.out HB0.out.size hb)
  have HV1 := Lib.hid (blk_below HV0.out hb)
  have HU1 := Lib.hid (blk_below HU0.out hb)
  have HC1 := Lib.hid (Kd.C_below HC0.out hb)
  have HD1 := Lib.hid (Kd.C_below HD0.out hb)
  clear TL
  clear hb HB0 HV0 HU0 HC0 HD0 c0 c1 c2 c3 d0 d1 d2 d3
  have c0 := blk_cell HV1.out 0
  have c1 := blk_cell HV1.out 1
  have c2 := blk_cell HV1.out 2
  have c3 := blk_cell HV1.out 3
  have d0 := blk_cell HU1.out 0
  have d1 := blk_cell HU1.out 1
  have d2 := blk_cell HU1.out 2
  have d3 := blk_cell HU1.out 3
  cases lt
  · go_wp2_with fail
    refine (awake_calls _).mono ?_
    rintro e wz ⟨rfl, hb⟩
    have HBZ := Lib.hid (below_then HB1.out HB1.out.size hb)
    clear hb
    go_wp2_with fail
    go_ret
    exact ⟨rfl, HBZ.out⟩
  · obtain ⟨lu, hlu⟩ := light_calls u HSU.out B d w1 HD1.out HK.out
    have TU := Lib.hid hlu
    clear hlu
    go_wp2_with fail
    refine TU.out.mono ?_
    rintro e w2 ⟨rfl, hb⟩
    have HB2 := Lib.hid (below_then HB1.out HB1.out.size hb)
    have HV2 := Lib.hid (blk_below HV1.out hb)
    have HU2 := Lib.hid (blk_below HU1.out hb)
    have HC2 := Lib.hid (Kd.C_below HC1.out hb)
    have HD2 := Lib.hid (Kd.C_below HD1.out hb)
    clear TU
    clear hb HB1 HV1 HU1 HC1 HD1 c0 c1 c2 c3 d0 d1 d2 d3
    have c0 := blk_cell HV2.out 0
    have c1 := blk_cell HV2.out 1
    have c2 := blk_cell HV2.out 2
    have c3 := blk_cell HV2.out 3
    have d0 := blk_cell HU2.out 0
    have d1 := blk_cell HU2.out 1
    have d2 := blk_cell HU2.out 2
    have d3 := blk_cell HU2.out 3
    cases lu
    · go_wp2_with fail
      refine (awake_calls _).mono ?_
      rintro e wz ⟨rfl, hb⟩
      have HBZ := Lib.hid (below_then HB2.out HB2.out.size hb)
      clear hb
      go_wp2_with fail
      go_ret
      exact ⟨rfl, HBZ.out⟩
    · skip
      have T := Lib.hid (rmay_calls v HSV.out A c w2 HC2.out HL.out)
      rw [HM.out] at T
      go_wp2_with fail
      refine T.out.mono ?_
      rintro e w3 ⟨rfl, hb⟩
      have HB3 := Lib.hid (below_then HB2.out HB2.out.size hb)
      have HV3 := Lib.hid (blk_below HV2.out hb)
      have HU3 := Lib.hid (blk_below HU2.out hb)
      have HC3 := Lib.hid (Kd.C_below HC2.out hb)
      have HD3 := Lib.hid (Kd.C_below HD2.out hb)
      clear T
      clear hb HB2 HV2 HU2 HC2 HD2 c0 c1 c2 c3 d0 d1 d2 d3
      have c0 := blk_cell HV3.out 0
      have c1 := blk_cell HV3.out 1
      have c2 := blk_cell HV3.out 2
      have c3 := blk_cell HV3.out 3
      have d0 := blk_cell HU3.out 0
      have d1 := blk_cell HU3.out 1
      have d2 := blk_cell HU3.out 2
      have d3 := blk_cell HU3.out 3
      have T := Lib.hid (rmay_calls u HSU.out B d w3 HD3.out HK.out)
      rw [HN.out] at T
      go_wp2_with fail
      refine T.out.mono ?_
      rintro e w4 ⟨rfl, hb⟩
      have HB4 := Lib.hid (below_then HB3.out HB3.out.size hb)
      have HV4 := Lib.hid (blk_below HV3.out hb)
      have HU4 := Lib.hid (blk_below HU3.out hb)
      have HC4 := Lib.hid (Kd.C_below HC3.out hb)
      have HD4 := Lib.hid (Kd.C_below HD3.out hb)
      clear T
      clear hb HB3 HV3 HU3 HC3 HD3 c0 c1 c2 c3 d0 d1 d2 d3
      have c0 := blk_cell HV4.out 0
      have c1 := blk_cell HV4.out 1
      have c2 := blk_cell HV4.out 2
      have c3 := blk_cell HV4.out 3
      have d0 := blk_cell HU4.out 0
      have d1 := blk_cell HU4.out 1
      have d2 := blk_cell HU4.out 2
      have d3 := blk_cell HU4.out 3
      go_wp2_with fail
      refine (msame_calls v u HSV.out HSU.out A B c d w4 HL.out HC4.out HK.out HD4.out).mono ?_
      rintro e w5 ⟨r1, rfl, hr1, hb⟩
      have HB5 := Lib.hid (below_then HB4.out HB4.out.size hb)
      have HV5 := Lib.hid (blk_below HV4.out hb)
      have HU5 := Lib.hid (blk_below HU4.out hb)
      have HC5 := Lib.hid (Kd.C_below HC4.out hb)
      have HD5 := Lib.hid (Kd.C_below HD4.out hb)
      obtain rfl : r1 = false := by
        cases r1
        · rfl
        · exact absurd (HN.out.symm.trans (hr1.1 rfl).2.1) (by decide)
      clear hr1
      clear hb HB4 HV4 HU4 HC4 HD4 c0 c1 c2 c3 d0 d1 d2 d3
      have c0 := blk_cell HV5.out 0
      have c1 := blk_cell HV5.out 1
      have c2 := blk_cell HV5.out 2
      have c3 := blk_cell HV5.out 3
      have d0 := blk_cell HU5.out 0
      have d1 := blk_cell HU5.out 1
      have d2 := blk_cell HU5.out 2
      have d3 := blk_cell HU5.out 3
      go_wp2_with fail
      refine (enc_any v HSV.out A c w5 HL.out HC5.out HZV.out).mono ?_
      rintro e w6 ⟨k1, A1, c1', E1, rfl, hl1, hc1, hk1, hb⟩
      have HB6 := Lib.hid (below_then HB5.out HB5.out.size hb)
      have HV6 := Lib.hid (blk_below HV5.out hb)
      have HU6 := Lib.hid (blk_below HU5.out hb)
      have HC6 := Lib.hid (Kd.C_below HC5.out hb)
      have HD6 := Lib.hid (Kd.C_below HD5.out hb)
      have HE1 := Lib.hid hc1
      have HL1 := Lib.hid hl1
      have HK1 := Lib.hid hk1
      clear hc1 hl1 hk1
      clear hb HB5 HV5 HU5 HC5 HD5 c0 c1 c2 c3 d0 d1 d2 d3
      have c0 := blk_cell HV6.out 0
      have c1 := blk_cell HV6.out 1
      have c2 := blk_cell HV6.out 2
      have c3 := blk_cell HV6.out 3
      have d0 := blk_cell HU6.out 0
      have d1 := blk_cell HU6.out 1
      have d2 := blk_cell HU6.out 2
      have d3 := blk_cell HU6.out 3
      go_wp2_with fail
      refine (enc_any u HSU.out B d w6 HK.out HD6.out HZU.out).mono ?_
      rintro e w7 ⟨k2, A2, c2', E2, rfl, hl2, hc2, hk2, hb⟩
      have HB7 := Lib.hid (below_then HB6.out HB6.out.size hb)
      have HV7 := Lib.hid (blk_below HV6.out hb)
      have HU7 := Lib.hid (blk_below HU6.out hb)
      have HC7 := Lib.hid (Kd.C_below HC6.out hb)
      have HD7 := Lib.hid (Kd.C_below HD6.out hb)
      have HE2 := Lib.hid hc2
      have HF2 := Lib.hid (Kd.C_below HE1.out hb)
      have HL2 := Lib.hid hl2
      have HK2 := Lib.hid hk2
      clear hc2 hl2 hk2 HE1
      clear hb HB6 HV6 HU6 HC6 HD6 c0 c1 c2 c3 d0 d1 d2 d3
      have c0 := blk_cell HV7.out 0
      have c1 := blk_cell HV7.out 1
      have c2 := blk_cell HV7.out 2
      have c3 := blk_cell HV7.out 3
      have d0 := blk_cell HU7.out 0
      have d1 := blk_cell HU7.out 1
      have d2 := blk_cell HU7.out 2
      have d3 := blk_cell HU7.out 3
      by_cases e1 : k1 = 0
      · by_cases e2 : k2 = 0
        · exact absurd (HN.out.symm.trans (HK2.out e2).1) (by decide)
        · have b1 : (k1 == 0) = true := beq_iff_eq.2 e1
          have b2 : (k2 == 0) = false := beq_eq_false_iff_ne.2 e2
          have b3 : (k1 != 0) = false := by rw [bne_eq_false_iff_eq]; exact e1
          have b4 : (k2 != 0) = true := by rw [bne_iff_ne]; exact e2
          clear e1 e2
          go_wp2_with fail
          refine (awake_calls _).mono ?_
          rintro e wz ⟨rfl, hb⟩
          have HBZ := Lib.hid (below_then HB7.out HB7.out.size hb)
          clear hb
          go_wp2_with fail
          go_ret
          exact ⟨rfl, HBZ.out⟩
      · have b1 : (k1 == 0) = false := beq_eq_false_iff_ne.2 e1
        have b3 : (k1 != 0) = true := by rw [bne_iff_ne]; exact e1
        clear e1
        go_wp2_with fail
        refine (awake_calls _).mono ?_
        rintro e wz ⟨rfl, hb⟩
        have HBZ := Lib.hid (below_then HB7.out HB7.out.size hb)
        clear hb
        go_wp2_with fail
        go_ret
        exact ⟨rfl, HBZ.out⟩
set_option maxHeartbeats 16000000 in
set_option maxRecDepth 100000 in
theorem unlike_c (v u : V) (hsv : Sz v) (hsu : Sz u) (A B : Option Addr) (c d : Nat) (w : World) (hl : v.f3.length ≤ c) (hc : kV.C w A v.f3.length v.f3) (hk : u.f3.length ≤ d) (hd : kV.C w B u.f3.length u.f3) (hzv : mayN 16 v = true → (encN 16 v).length + 30 ≤ 140737488355328) (hzu : mayN 16 u = true → (encN 16 u).length + 30 ≤ 140737488355328) (hm : mayN 16 v = true) (hn : mayN 16 u = true) :
    Calls Try.prog 5 #[.agg (aggV v A c), .agg (aggV u B d)] w fun e w' => e = .returned (.bool true) ∧ Below w.heap.size w w' := by
  have HB0 : Hid (Below w.heap.size w ((w.alloc (.cells (aggV v A c) 24)).alloc (.cells (aggV u B d) 24))) := Lib.hid (below_alloc (below_alloc (Below.refl _ _) _) _)
  have HV0 : Hid (((w.alloc (.cells (aggV v A c) 24)).alloc (.cells (aggV u B d) 24)).heap[w.heap.size]? = some (.cells (aggV v A c) 24 (0, 0))) := Lib.hid (blk_alloc (blk_new w (.cells (aggV v A c) 24)) (.cells (aggV u B d) 24))
  have HU0 : Hid (((w.alloc (.cells (aggV v A c) 24)).alloc (.cells (aggV u B d) 24)).heap[w.heap.size + 1]? = some (.cells (aggV u B d) 24 (0, 0))) := Lib.hid (by have := blk_new (w.alloc (.cells (aggV v A c) 24)) (.cells (aggV u B d) 24); rwa [show (w.alloc (.cells (aggV v A c) 24)).heap.size = w.heap.size + 1 by simp only [World.alloc, Array.size_push]] at this)
  have HC0 := Lib.hid (Kd.C_below hc HB0.out)
  have HD0 := Lib.hid (Kd.C_below hd HB0.out)
  have HL := Lib.hid hl
  have HK := Lib.hid hk
  have HSV := Lib.hid hsv
  have HSU := Lib.hid hsu
  have HZV := Lib.hid hzv
  have HZU := Lib.hid hzu
  obtain ⟨lt, hlt⟩ := light_calls v hsv A c _ HC0.out hl
  have TL := Lib.hid hlt
  clear hlt
  have c0 := blk_cell HV0.out 0
  have c1 := blk_cell HV0.out 1
  have c2 := blk_cell HV0.out 2
  have c3 := blk_cell HV0.out 3
  have d0 := blk_cell HU0.out 0
  have d1 := blk_cell HU0.out 1
  have d2 := blk_cell HU0.out 2
  have d3 := blk_cell HU0.out 3
  have HM := Lib.hid hm
  have HN := Lib.hid hn
  clear hl hc hk hd hsv hsu hzv hzu hm hn
  go_enter Try.func5, Try.ntmps5
  go_wp2_with fail
  refine TL.out.mono ?_
  rintro e w1 ⟨rfl, hb⟩
  have HB1 := Lib.hid (below_then HB0.out HB0.out.size hb)
  have HV1 := Lib.hid (blk_below HV0.out hb)
  have HU1 := Lib.hid (blk_below HU0.out hb)
  have HC1 := Lib.hid (Kd.C_below HC0.out hb)
  have HD1 := Lib.hid (Kd.C_below HD0.out hb)
  clear TL
  clear hb HB0 HV0 HU0 HC0 HD0 c0 c1 c2 c3 d0 d1 d2 d3
  have c0 := blk_cell HV1.out 0
  have c1 := blk_cell HV1.out 1
  have c2 := blk_cell HV1.out 2
  have c3 := blk_cell HV1.out 3
  have d0 := blk_cell HU1.out 0
  have d1 := blk_cell HU1.out 1
  have d2 := blk_cell HU1.out 2
  have d3 := blk_cell HU1.out 3
  cases lt
  · go_wp2_with fail
    refine (awake_calls _).mono ?_
    rintro e wz ⟨rfl, hb⟩
    have HBZ := Lib.hid (below_then HB1.out HB1.out.size hb)
    clear hb
    go_wp2_with fail
    go_ret
    exact ⟨rfl, HBZ.out⟩
  · obtain ⟨lu, hlu⟩ := light_calls u HSU.out B d w1 HD1.out HK.out
    have TU := Lib.hid hlu
    clear hlu
    go_wp2_with fail
    refine TU.out.mono ?_
    rintro e w2 ⟨rfl, hb⟩
    have HB2 := Lib.hid (below_then HB1.out HB1.out.size hb)
    have HV2 := Lib.hid (blk_below HV1.out hb)
    have HU2 := Lib.hid (blk_below HU1.out hb)
    have HC2 := Lib.hid (Kd.C_below HC1.out hb)
    have HD2 := Lib.hid (Kd.C_below HD1.out hb)
    clear TU
    clear hb HB1 HV1 HU1 HC1 HD1 c0 c1 c2 c3 d0 d1 d2 d3
    have c0 := blk_cell HV2.out 0
    have c1 := blk_cell HV2.out 1
    have c2 := blk_cell HV2.out 2
    have c3 := blk_cell HV2.out 3
    have d0 := blk_cell HU2.out 0
    have d1 := blk_cell HU2.out 1
    have d2 := blk_cell HU2.out 2
    have d3 := blk_cell HU2.out 3
    cases lu
    · go_wp2_with fail
      refine (awake_calls _).mono ?_
      rintro e wz ⟨rfl, hb⟩
      have HBZ := Lib.hid (below_then HB2.out HB2.out.size hb)
      clear hb
      go_wp2_with fail
      go_ret
      exact ⟨rfl, HBZ.out⟩
    · skip
      have T := Lib.hid (rmay_calls v HSV.out A c w2 HC2.out HL.out)
      rw [HM.out] at T
      go_wp2_with fail
      refine T.out.mono ?_
      rintro e w3 ⟨rfl, hb⟩
      have HB3 := Lib.hid (below_then HB2.out HB2.out.size hb)
      have HV3 := Lib.hid (blk_below HV2.out hb)
      have HU3 := Lib.hid (blk_below HU2.out hb)
      have HC3 := Lib.hid (Kd.C_below HC2.out hb)
      have HD3 := Lib.hid (Kd.C_below HD2.out hb)
      clear T
      clear hb HB2 HV2 HU2 HC2 HD2 c0 c1 c2 c3 d0 d1 d2 d3
      have c0 := blk_cell HV3.out 0
      have c1 := blk_cell HV3.out 1
      have c2 := blk_cell HV3.out 2
      have c3 := blk_cell HV3.out 3
      have d0 := blk_cell HU3.out 0
      have d1 := blk_cell HU3.out 1
      have d2 := blk_cell HU3.out 2
      have d3 := blk_cell HU3.out 3
      have T := Lib.hid (rmay_calls u HSU.out B d w3 HD3.out HK.out)
      rw [HN.out] at T
      go_wp2_with fail
      refine T.out.mono ?_
      rintro e w4 ⟨rfl, hb⟩
      have HB4 := Lib.hid (below_then HB3.out HB3.out.size hb)
      have HV4 := Lib.hid (blk_below HV3.out hb)
      have HU4 := Lib.hid (blk_below HU3.out hb)
      have HC4 := Lib.hid (Kd.C_below HC3.out hb)
      have HD4 := Lib.hid (Kd.C_below HD3.out hb)
      clear T
      clear hb HB3 HV3 HU3 HC3 HD3 c0 c1 c2 c3 d0 d1 d2 d3
      have c0 := blk_cell HV4.out 0
      have c1 := blk_cell HV4.out 1
      have c2 := blk_cell HV4.out 2
      have c3 := blk_cell HV4.out 3
      have d0 := blk_cell HU4.out 0
      have d1 := blk_cell HU4.out 1
      have d2 := blk_cell HU4.out 2
      have d3 := blk_cell HU4.out 3
      go_wp2_with fail
      refine (msame_calls v u HSV.out HSU.out A B c d w4 HL.out HC4.out HK.out HD4.out).mono ?_
      rintro e w5 ⟨r1, rfl, hr1, hb⟩
      have HB5 := Lib.hid (below_then HB4.out HB4.out.size hb)
      have HV5 := Lib.hid (blk_below HV4.out hb)
      have HU5 := Lib.hid (blk_below HU4.out hb)
      have HC5 := Lib.hid (Kd.C_below HC4.out hb)
      have HD5 := Lib.hid (Kd.C_below HD4.out hb)
      have HR1 := Lib.hid hr1
      clear hr1
      clear hb HB4 HV4 HU4 HC4 HD4 c0 c1 c2 c3 d0 d1 d2 d3
      have c0 := blk_cell HV5.out 0
      have c1 := blk_cell HV5.out 1
      have c2 := blk_cell HV5.out 2
      have c3 := blk_cell HV5.out 3
      have d0 := blk_cell HU5.out 0
      have d1 := blk_cell HU5.out 1
      have d2 := blk_cell HU5.out 2
      have d3 := blk_cell HU5.out 3
      obtain ⟨r2, hr2, TS⟩ := MeR.same_calls v u HSV.out A B c d w5 HC5.out HL.out HD5.out HK.out
      have TT := Lib.hid TS
      have HR2 := Lib.hid hr2
      obtain rfl : r1 = r2 := by rw [Bool.eq_iff_iff, HR1.out, hr2]; exact ⟨fun h => h.2.2, fun h => ⟨HM.out, HN.out, h⟩⟩
      clear TS hr2 HR1
      have hnn : (r1 != r1) = false := by cases r1 <;> rfl
      have hnb : (r1 == r1) = true := by cases r1 <;> rfl
      go_wp2_with fail
      refine TT.out.mono ?_
      rintro e w6 ⟨rfl, hb⟩
      have HB6 := Lib.hid (below_then HB5.out HB5.out.size hb)
      have HV6 := Lib.hid (blk_below HV5.out hb)
      have HU6 := Lib.hid (blk_below HU5.out hb)
      have HC6 := Lib.hid (Kd.C_below HC5.out hb)
      have HD6 := Lib.hid (Kd.C_below HD5.out hb)
      clear TT
      clear hb HB5 HV5 HU5 HC5 HD5 c0 c1 c2 c3 d0 d1 d2 d3
      have c0 := blk_cell HV6.out 0
      have c1 := blk_cell HV6.out 1
      have c2 := blk_cell HV6.out 2
      have c3 := blk_cell HV6.out 3
      have d0 := blk_cell HU6.out 0
      have d1 := blk_cell HU6.out 1
      have d2 := blk_cell HU6.out 2
      have d3 := blk_cell HU6.out 3
      go_wp2_with fail
      refine (enc_any v HSV.out A c w6 HL.out HC6.out HZV.out).mono ?_
      rintro e w7 ⟨k1, A1, c1', E1, rfl, hl1, hc1, hk1, hb⟩
      have HB7 := Lib.hid (below_then HB6.out HB6.out.size hb)
      have HV7 := Lib.hid (blk_below HV6.out hb)
      have HU7 := Lib.hid (blk_below HU6.out hb)
      have HC7 := Lib.hid (Kd.C_below HC6.out hb)
      have HD7 := Lib.hid (Kd.C_below HD6.out hb)
      have HE1 := Lib.hid hc1
      have HL1 := Lib.hid hl1
      have HK1 := Lib.hid hk1
      clear hc1 hl1 hk1
      clear hb HB6 HV6 HU6 HC6 HD6 c0 c1 c2 c3 d0 d1 d2 d3
      have c0 := blk_cell HV7.out 0
      have c1 := blk_cell HV7.out 1
      have c2 := blk_cell HV7.out 2
      have c3 := blk_cell HV7.out 3
      have d0 := blk_cell HU7.out 0
      have d1 := blk_cell HU7.out 1
      have d2 := blk_cell HU7.out 2
      have d3 := blk_cell HU7.out 3
      go_wp2_with fail
      refine (enc_any u HSU.out B d w7 HK.out HD7.out HZU.out).mono ?_
      rintro e w8 ⟨k2, A2, c2', E2, rfl, hl2, hc2, hk2, hb⟩
      have HB8 := Lib.hid (below_then HB7.out HB7.out.size hb)
      have HV8 := Lib.hid (blk_below HV7.out hb)
      have HU8 := Lib.hid (blk_below HU7.out hb)
      have HC8 := Lib.hid (Kd.C_below HC7.out hb)
      have HD8 := Lib.hid (Kd.C_below HD7.out hb)
      have HE2 := Lib.hid hc2
      have HF2 := Lib.hid (Kd.C_below HE1.out hb)
      have HL2 := Lib.hid hl2
      have HK2 := Lib.hid hk2
      clear hc2 hl2 hk2 HE1
      clear hb HB7 HV7 HU7 HC7 HD7 c0 c1 c2 c3 d0 d1 d2 d3
      have c0 := blk_cell HV8.out 0
      have c1 := blk_cell HV8.out 1
      have c2 := blk_cell HV8.out 2
      have c3 := blk_cell HV8.out 3
      have d0 := blk_cell HU8.out 0
      have d1 := blk_cell HU8.out 1
      have d2 := blk_cell HU8.out 2
      have d3 := blk_cell HU8.out 3
      by_cases e1 : k1 = 0
      · by_cases e2 : k2 = 0
        · have b1 : (k1 == 0) = true := beq_iff_eq.2 e1
          have b2 : (k2 == 0) = true := beq_iff_eq.2 e2
          have b3 : (k1 != 0) = false := by rw [bne_eq_false_iff_eq]; exact e1
          have b4 : (k2 != 0) = false := by rw [bne_eq_false_iff_eq]; exact e2
          obtain ⟨_, q1⟩ := HK1.out e1
          obtain ⟨_, q2⟩ := HK2.out e2
          have hst := str_eq HM.out HN.out HR2.out
          rw [← q1, ← q2] at hst
          obtain ⟨sx, hsx⟩ : ∃ sx, sx = strOfNums E1 := ⟨_, rfl⟩
          obtain ⟨sy, hsy⟩ : ∃ sy, sy = strOfNums E2 := ⟨_, rfl⟩
          rw [← hsx, ← hsy] at hst
          have HSX := Lib.hid hsx.symm
          have HSY := Lib.hid hsy.symm
          have hrr : ∀ b : Bool, (b == b) = true := by decide
          clear e1 e2 q1 q2 hsx hsy c0 c1 c2 c3 d0 d1 d2 d3
          go_wp2_with fail
          refine start_ (n := 13) (S := fun w' => (w'.heap[w.heap.size]? = w8.heap[w.heap.size]? ∧ w'.heap[w.heap.size + 1]? = w8.heap[w.heap.size + 1]?) ∧ BK.C w' A1 E1.length E1 ∧ BK.C w' A2 E2.length E2) (ds := []) #[false, false, false, false, false, false, false, false, false, false, false, false, false] (by kernel_rfl) rfl rfl ⟨⟨rfl, rfl⟩, Kd.C_below HF2.out (below_drew (Below.refl _ _)), Kd.C_below HE2.out (below_drew (Below.refl _ _))⟩ (fun hHeld => ?_)
          have hB0 : Hid (Below w.heap.size w w8.drew) := Lib.hid (below_then HB8.out HB8.out.size (below_drew (Below.refl _ _)))
          have hC0 := Lib.hid (Kd.C_below HC8.out (below_drew (Below.refl w8.heap.size w8)))
          have hD0 := Lib.hid (Kd.C_below HD8.out (below_drew (Below.refl w8.heap.size w8)))
          generalize w8.drew = wd at hB0 hC0 hD0 hHeld ⊢
          refine pure_ (i := 0) (N := some 52) (v := ?_) (a' := ?_) #[true, false, false, false, false, false, false, false, false, false, false, false, false] rfl rfl (by kernel_rfl) (fun _ _ _ h => h) (Or.inl ⟨by rfl, ?_⟩) ?_ ?_
          rotate_left
          · intro w'
            go_simp
            with_reducible rfl
          rotate_left
          · simp only [Act.put, List.setIfInBounds_toArray, List.set_cons_zero, List.set_cons_succ, i64_w, i32_w]
            rfl
          refine take_ (i := 1) (N := some 53) (v := ?_) (a' := ?_) #[true, true, false, false, false, false, false, false, false, false, false, false, false] rfl rfl (by kernel_rfl) (fun _ _ _ h => h) (Or.inl ⟨by rfl, ?_⟩) hHeld ?_ ?_
          rotate_left
          · rintro w' hS
            have hcx := Kd.C_string (P := Try.prog) (c := c1') Try.underlying39 Try.underlying5 Try.underlying9 hS.2.1
            rw [HSX.out] at hcx
            go_simp
            with_reducible rfl
          rotate_left
          · simp only [Act.put, List.setIfInBounds_toArray, List.set_cons_zero, List.set_cons_succ, i64_w, i32_w]
            rfl
          refine pure_ (i := 2) (N := some 54) (v := ?_) (a' := ?_) #[true, true, true, false, false, false, false, false, false, false, false, false, false] rfl rfl (by kernel_rfl) (fun _ _ _ h => h) (Or.inl ⟨by rfl, ?_⟩) ?_ ?_
          rotate_left
          · intro w'
            go_simp
            with_reducible rfl
          rotate_left
          · simp only [Act.put, List.setIfInBounds_toArray, List.set_cons_zero, List.set_cons_succ, i64_w, i32_w]
            rfl
          refine take_ (i := 3) (N := some 55) (v := ?_) (a' := ?_) #[true, true, true, true, false, false, false, false, false, false, false, false, false] rfl rfl (by kernel_rfl) (fun _ _ _ h => h) (Or.inl ⟨by rfl, ?_⟩) hHeld ?_ ?_
          rotate_left
          · rintro w' hS
            have hcx := Kd.C_string (P := Try.prog) (c := c2') Try.underlying39 Try.underlying5 Try.underlying9 hS.2.2
            rw [HSY.out] at hcx
            go_simp
            with_reducible rfl
          rotate_left
          · simp only [Act.put, List.setIfInBounds_toArray, List.set_cons_zero, List.set_cons_succ, i64_w, i32_w]
            rfl
          refine pure_ (i := 4) (N := some 56) (v := ?_) (a' := ?_) #[true, true, true, true, true, false, false, false, false, false, false, false, false] rfl rfl (by kernel_rfl) (fun _ _ _ h => h) (Or.inl ⟨by rfl, ?_⟩) ?_ ?_
          rotate_left
          · intro w'
            go_simp
            with_reducible rfl
          rotate_left
          · simp only [Act.put, List.setIfInBounds_toArray, List.set_cons_zero, List.set_cons_succ, i64_w, i32_w]
            rfl
          refine take_ (i := 5) (N := some 57) (v := ?_) (a' := ?_) #[true, true, true, true, true, true, false, false, false, false, false, false, false] rfl rfl (by kernel_rfl) (fun _ _ _ h => h) (Or.inl ⟨by rfl, ?_⟩) hHeld ?_ ?_
          rotate_left
          · rintro w' hS
            have c0 := blk_cell (hS.1.1.trans HV8.out) 0
            have c1 := blk_cell (hS.1.1.trans HV8.out) 1
            have c2 := blk_cell (hS.1.1.trans HV8.out) 2
            have c3 := blk_cell (hS.1.1.trans HV8.out) 3
            go_simp
            with_reducible rfl
          rotate_left
          · simp only [Act.put, List.setIfInBounds_toArray, List.set_cons_zero, List.set_cons_succ, i64_w, i32_w]
            rfl
          refine take_ (i := 6) (N := some 58) (v := ?_) (a' := ?_) #[true, true, true, true, true, true, true, false, false, false, false, false, false] rfl rfl (by kernel_rfl) (fun _ _ _ h => h) (Or.inl ⟨by rfl, ?_⟩) hHeld ?_ ?_
          rotate_left
          · rintro w' hS
            have c0 := blk_cell (hS.1.2.trans HU8.out) 0
            have c1 := blk_cell (hS.1.2.trans HU8.out) 1
            have c2 := blk_cell (hS.1.2.trans HU8.out) 2
            have c3 := blk_cell (hS.1.2.trans HU8.out) 3
            go_simp
            with_reducible rfl
          rotate_left
          · simp only [Act.put, List.setIfInBounds_toArray, List.set_cons_zero, List.set_cons_succ, i64_w, i32_w]
            rfl
          refine one_ (i := 7) (N := some 59) #[true, true, true, true, true, true, true, true, false, false, false, false, false] rfl rfl (by kernel_rfl) (by decide) (fun K hK => ?_)
          refine goes_ Try.func12 (by kernel_rfl) rfl #[.agg (aggV v A c), .agg (aggV u B d)] (by rfl) rfl rfl (by (try simp only [List.map_toArray, List.map_cons, List.map_nil]); first | done | rfl | (go_simp; done) | (go_simp; rfl)) ?_
          obtain ⟨r3, hr3, TS⟩ := MeR.same_calls v u HSV.out A B c d wd hC0.out HL.out hD0.out HK.out
          refine TS.mono ?_
          rintro x w9 ⟨rfl, hb⟩
          refine ⟨_, rfl, ?_⟩
          have h33 : r3 = r1 := by rw [Bool.eq_iff_iff, hr3, HR2.out]
          subst h33
          clear TS hr3
          have hK1 := Lib.hid (And.intro (And.intro ((blk_below (hHeld.1.1.trans HV8.out) hb).trans HV8.out.symm) ((blk_below (hHeld.1.2.trans HU8.out) hb).trans HU8.out.symm)) (And.intro (Kd.C_below hHeld.2.1 hb) (Kd.C_below hHeld.2.2 hb)))
          have hB1 := Lib.hid (below_then hB0.out hB0.out.size hb)
          clear hb hB0 hC0 hD0
          refine hK.out _ _ hK1.out (fun hHeld => ?_)
          clear hK K
          refine norm_ (a' := ?_) ?_ ?_
          rotate_left
          · show Act.put _ (some 59) _ = _
            simp only [Act.put, List.setIfInBounds_toArray, List.set_cons_zero, List.set_cons_succ, i64_w, i32_w]
            rfl
          refine pure_ (i := 8) (N := some 60) (v := ?_) (a' := ?_) #[true, true, true, true, true, true, true, true, true, false, false, false, false] rfl rfl (by kernel_rfl) (fun _ _ _ h => h) (Or.inl ⟨by rfl, ?_⟩) ?_ ?_
          rotate_left
          · intro w'
            go_simp
            with_reducible rfl
          rotate_left
          · simp only [Act.put, List.setIfInBounds_toArray, List.set_cons_zero, List.set_cons_succ, i64_w, i32_w]
            rfl
          refine pure_ (i := 9) (N := some 61) (v := ?_) (a' := ?_) #[true, true, true, true, true, true, true, true, true, true, false, false, false] rfl rfl (by kernel_rfl) (fun _ _ _ h => h) (Or.inl ⟨by rfl, ?_⟩) ?_ ?_
          rotate_left
          · intro w'
            go_simp
            with_reducible rfl
          rotate_left
          · simp only [Act.put, List.setIfInBounds_toArray, List.set_cons_zero, List.set_cons_succ, i64_w, i32_w]
            rfl
          refine one_ (i := 10) (N := some 62) #[true, true, true, true, true, true, true, true, true, true, true, false, false] rfl rfl (by kernel_rfl) (by decide) (fun K hK => ?_)
          refine goes_ Try.func9 (by kernel_rfl) rfl #[] (by rfl) rfl rfl (by (try simp only [List.map_toArray, List.map_cons, List.map_nil]); first | done | rfl | (go_simp; done) | (go_simp; rfl)) ?_
          refine (awake_calls w9).mono ?_
          rintro x w10 ⟨rfl, hb⟩
          refine ⟨_, rfl, ?_⟩
          have hK2 := Lib.hid (And.intro (And.intro ((blk_below (hK1.out.1.1.trans HV8.out) hb).trans HV8.out.symm) ((blk_below (hK1.out.1.2.trans HU8.out) hb).trans HU8.out.symm)) (And.intro (Kd.C_below hK1.out.2.1 hb) (Kd.C_below hK1.out.2.2 hb)))
          have hB2 := Lib.hid (below_then hB1.out hB1.out.size hb)
          clear hb hB1 hK1
          refine hK.out _ _ hK2.out (fun hHeld => ?_)
          clear hK K
          refine norm_ (a' := ?_) ?_ ?_
          rotate_left
          · show Act.put _ (some 62) _ = _
            simp only [Act.put, List.setIfInBounds_toArray, List.set_cons_zero, List.set_cons_succ, i64_w, i32_w]
            rfl
          refine pure_ (i := 11) (N := some 63) (v := ?_) (a' := ?_) #[true, true, true, true, true, true, true, true, true, true, true, true, false] rfl rfl (by kernel_rfl) (fun _ _ _ h => h) (Or.inl ⟨by rfl, ?_⟩) ?_ ?_
          rotate_left
          · intro w'
            go_simp
            with_reducible rfl
          rotate_left
          · simp only [Act.put, List.setIfInBounds_toArray, List.set_cons_zero, List.set_cons_succ, i64_w, i32_w]
            rfl
          refine pure_ (i := 12) (N := some 4) (v := ?_) (a' := ?_) #[true, true, true, true, true, true, true, true, true, true, true, true, true] rfl rfl (by kernel_rfl) (fun _ _ _ h => h) (Or.inl ⟨by rfl, ?_⟩) ?_ ?_
          rotate_left
          · intro w'
            go_simp
            with_reducible rfl
          rotate_left
          · simp only [Act.put, List.setIfInBounds_toArray, List.set_cons_zero, List.set_cons_succ, i64_w, i32_w]
            rfl
          refine done_ (by kernel_rfl) ?_
          go_wp2_with fail
          go_ret
          exact ⟨rfl, hB2.out⟩
        · have b1 : (k1 == 0) = true := beq_iff_eq.2 e1
          have b2 : (k2 == 0) = false := beq_eq_false_iff_ne.2 e2
          have b3 : (k1 != 0) = false := by rw [bne_eq_false_iff_eq]; exact e1
          have b4 : (k2 != 0) = true := by rw [bne_iff_ne]; exact e2
          clear e1 e2
          go_wp2_with fail
          refine (awake_calls _).mono ?_
          rintro e wz ⟨rfl, hb⟩
          have HBZ := Lib.hid (below_then HB8.out HB8.out.size hb)
          clear hb
          go_wp2_with fail
          go_ret
          exact ⟨rfl, HBZ.out⟩
      · have b1 : (k1 == 0) = false := beq_eq_false_iff_ne.2 e1
        have b3 : (k1 != 0) = true := by rw [bne_iff_ne]; exact e1
        clear e1
        go_wp2_with fail
        refine (awake_calls _).mono ?_
        rintro e wz ⟨rfl, hb⟩
        have HBZ := Lib.hid (below_then HB8.out HB8.out.size hb)
        clear hb
        go_wp2_with fail
        go_ret
        exact ⟨rfl, HBZ.out⟩
theorem unlike_calls (v u : V) (hsv : Sz v) (hsu : Sz u) (A B : Option Addr) (c d : Nat) (w : World) (hl : v.f3.length ≤ c) (hc : kV.C w A v.f3.length v.f3) (hk : u.f3.length ≤ d) (hd : kV.C w B u.f3.length u.f3) (hzv : blkV v ≤ 1048577) (hzu : blkV u ≤ 1048577) :
    Calls Try.prog 5 #[.agg (aggV v A c), .agg (aggV u B d)] w fun e w' => e = .returned (.bool true) ∧ Below w.heap.size w w' := by
  have h1 : mayN 16 v = true → (encN 16 v).length + 30 ≤ 140737488355328 := fun hm => by have := enc_len 16 v hm (hsv.fit 16); omega
  have h2 : mayN 16 u = true → (encN 16 u).length + 30 ≤ 140737488355328 := fun hm => by have := enc_len 16 u hm (hsu.fit 16); omega
  cases hm : mayN 16 v
  · exact unlike_a v u hsv hsu A B c d w hl hc hk hd h1 h2 hm
  · cases hn : mayN 16 u
    · exact unlike_b v u hsv hsu A B c d w hl hc hk hd h1 h2 hm hn
    · exact unlike_c v u hsv hsu A B c d w hl hc hk hd h1 h2 hm hn
theorem walkUnlike (cs : Array Value) (x : V) (ds : Array Value) (y : V) (w : World) (hk : kV.K w x cs.toList) (hs : Sz x) (hb : blkV x ≤ 1048576) (hk2 : kV.K w y ds.toList) (hs2 : Sz y) (hb2 : blkV y ≤ 1048576) :
    Calls Try.prog 5 #[.agg cs, .agg ds] w fun e w' => e = .returned (.bool true) ∧ Below w.heap.size w w' := by
  obtain ⟨A, c, rfl, hl, hc⟩ := LmO.agg_of hk
  obtain ⟨B, d, rfl, hl2, hc2⟩ := LmO.agg_of hk2
  exact unlike_calls x y hs hs2 A B c d w hl hc hl2 hc2 (by omega) (by omega)
end Go.Proofs.Ytcilojakgnjjmaa.LmU
/- MessageUnlike: which values are alike, and that unlike ones have unlike bytes; the arguments hold together at most 1048576 values and letters. -/
namespace Go.Proofs.Ytcilojakgnjjmaa.messageUnlikeUpto
open Go.ChangeShapes Go.WideShapes Go.ChangeAt Go.RowKit Go.Proofs.Ytcilojakgnjjmaa.Opns
open Go.ChangeMaps (open_string shut_string)
set_option linter.unusedVariables false
theorem own : ownKnob Try.prog.godebug = none := by kernel_rfl
theorem laidOut : laidOutB Try.prog = true := by kernel_rfl
set_option maxRecDepth 100000 in
theorem lifted (os : Os) (started : os.Started) (H : Type) (enc : TypeId × Value → H) (F : Stop.Interp) :
    ReturnsInHanded {} Try.checked os 5 .any ((Rows.OpenSpec.upto Rows.messageUnlikeSpec).pre6 enc Try.prog Try.f5 Rows.messageUnlikeUptoRow.domain false) (((Rows.OpenSpec.upto Rows.messageUnlikeSpec).at F).post enc Try.prog Try.f5 false true false false) := by
  refine returnsInHanded_of_cond_sized (C := Try.checked) (s := Rows.OpenSpec.upto Rows.messageUnlikeSpec) (k := Rows.uptoSmall) rfl own started (by kernel_rfl) Try.func5
    (OpenSpec.witness (enc := enc) (C := Try.checked) (s := Rows.OpenSpec.upto Rows.messageUnlikeSpec) (k := Rows.uptoSmall) rfl false ⟨#[], #[.agg #[.int .i64 0, .int .i64 0, .string ByteArray.empty, .slice none 0 0], .agg #[.int .i64 0, .int .i64 0, .string ByteArray.empty, .slice none 0 0]], []⟩ 8 (by kernel_rfl) (by kernel_rfl) (by kernel_rfl)
      (x := ([.agg [.lit (.int .i64 0), .lit (.int .i64 0), .lit (.string []), .nil], .agg [.lit (.int .i64 0), .lit (.int .i64 0), .lit (.string []), .nil]], [], [])) (by kernel_rfl) rfl (by kernel_rfl)) ?_
  intro W base args ds gs before hval0 hW hcnd hk0 hsz0 _
  have hsz : (DataW.weightsEach Try.prog (Try.f5.params.toList ++ Rows.messageUnlikeSpec.plain.varTypes Try.prog) (ds ++ gs)).all (· ≤ reachBytes) = true := hsz0
  have hval : ∀ (j : Nat) t v, Try.f5.params[j]? = some t → args[j]? = some v → Value.okWide Try.prog W .any base t v := hval0
  have hW' := hW
  obtain ⟨p, q, hA0, hV, rfl, hfz, hnd⟩ := hW
  have hA : DataW.TrodAll enc Try.prog W 0 (fun _ => true) true Try.f5.params.toList args.toList ds p := hA0
  rw [Try.params5] at hA hval hsz
  obtain ⟨v0, vs0, d0, ds0, p0, q0, hargs, rfl, rfl, h0, r0⟩ := trodAll_cons hA
  obtain ⟨v1, vs1, d1, ds1, p1, q1, rfl, rfl, rfl, h1, r1⟩ := trodAll_cons r0
  obtain ⟨rfl, rfl, rfl⟩ := trodAll_nil r1
  obtain rfl : args = #[v0, v1] := by cases args; simp_all
  obtain ⟨rfl, rfl⟩ := trodVars_none hV
  have m0 := weigh (j := 0) (t := 24) hsz rfl rfl
  have n0 := bulk_mem (j := 0) hk0 rfl
  have k0 := h0
  have lt0 : ∀ x ∈ p0, x.block < W.heap.size := by obtain ⟨m, hm⟩ := k0; exact DataW.trod_lt m _ _ _ hm
  obtain ⟨cs0, rfl⟩ := okw_struct Try.underlying24 (hval 0 24 v0 rfl rfl)
  obtain ⟨x0, c0, g0, b0⟩ := arg_agg MeO.opens_V h0 m0
  have b0 := Nat.le_trans b0 n0
  have m1 := weigh (j := 1) (t := 24) hsz rfl rfl
  have n1 := bulk_mem (j := 1) hk0 rfl
  have k1 := h1
  have lt1 : ∀ x ∈ p1, x.block < W.heap.size := by obtain ⟨m, hm⟩ := k1; exact DataW.trod_lt m _ _ _ hm
  obtain ⟨cs1, rfl⟩ := okw_struct Try.underlying24 (hval 1 24 v1 rfl rfl)
  obtain ⟨x1, c1, g1, b1⟩ := arg_agg MeO.opens_V h1 m1
  have b1 := Nat.le_trans b1 n1
  clear hA0 hval0 hsz0 hsz
  refine (LmU.walkUnlike cs0 x0 cs1 x1 W c0 g0 b0 c1 g1 b1).mono fun e W' ⟨he, bel⟩ => ?_
  subst he
  exact ⟨_, rfl, _, _, _, [], _, [], hW', trodAll_mk1 (shut_bool Try.underlying4 _), (trodAll_cons_mk (Below.trod laidOut (by kernel_rfl) (of_decide_eq_true (by kernel_rfl)) k0 bel lt0) (trodAll_cons_mk (Below.trod laidOut (by kernel_rfl) (of_decide_eq_true (by kernel_rfl)) k1 bel lt1) trodAll_mk0)), rfl, bel.frame _, fun h => by cases h⟩
theorem over : Rows.messageUnlikeUptoRow.holds Try.pinned (Rows.OpenSpec.upto Rows.messageUnlikeSpec) :=
  OpenClaim.holds_of_cond 5 Try.f5 rfl rfl rfl rfl rfl rfl rfl ⟨rfl, rfl, rfl, rfl, rfl⟩ rfl rfl rfl rfl rfl (by kernel_rfl) Try.func5 (by kernel_rfl)
    (of_decide_eq_true (by kernel_rfl)) (by unfold Func.isWrapper; first | (rw [if_pos (by decide +kernel)]; kernel_rfl) | (rw [if_neg (by decide +kernel)]; exact ⟨rfl, rfl⟩))
    (fun os started H enc _ F => lifted os started H enc F)
theorem proved : Rows.MessageUnlikeUptoSaid := over
#print axioms proved
end Go.Proofs.Ytcilojakgnjjmaa.messageUnlikeUpto
