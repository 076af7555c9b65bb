import Derived.Test.YtdogkhbfpbdfpaaWireY
import Derived.Test.YtdogkhbfpbdfpaaWireK
/- Whatever is read is just what stands there. -/
namespace Go.Proofs.Ytdogkhbfpbdfpaa.WireZ
open Go.RowKit Go.Proofs.YtdogkhbfpbdfpaaW.PrintWords Go.Proofs.YtdogkhbfpbdfpaaW.PrintMore Mem WireP WireW WireV WireR WireS WireT WireU WireX WireQ WireY WireK Opns
theorem reads_any (w0 w : World) (p g : Nat) (xs : List Int) (a : Nat) (e : Int) (h : Both w0 w p g xs a e) (hx : ∀ c ∈ xs, 0 ≤ c ∧ c < 256) (hs : xs.length ≤ 140737488355328) (n : Int) (B : Value) (most : Int) (hm : -9223372036854775808 ≤ most ∧ most < 9223372036854775808) (act : Int) :
    Calls Try.prog 37 #[.pointer (some ⟨p, 0, none⟩), .pointer (some ⟨g, 0, none⟩), .agg #[.int .i64 act, .int .u64 n, B, .int .i64 most]] w fun r w' => ∃ a' e', r = .returned (.bool true) ∧ Both w0 w' p g xs a' e' := by
  by_cases h0 : act = 0
  · subst h0; exact reads0 w0 w p g xs a e h hx hs n B most
  by_cases h1 : act = 1
  · subst h1; exact reads1 w0 w p g xs a e h hx hs n B most
  by_cases h2 : act = 2
  · subst h2; exact reads2 w0 w p g xs a e h hx hs n B most
  by_cases h3 : act = 3
  · subst h3; exact reads3 w0 w p g xs a e h hx hs n B most
  by_cases h4 : act = 4
  · subst h4; exact reads4 w0 w p g xs a e h hx hs n B most
  by_cases h5 : act = 5
  · subst h5; exact reads5 w0 w p g xs a e h hx hs n B most hm
  exact reads6 w0 w p g xs a e h hx hs n B most hm act (beq_eq_false_iff_ne.2 h0) (beq_eq_false_iff_ne.2 h1) (beq_eq_false_iff_ne.2 h2) (beq_eq_false_iff_ne.2 h3) (beq_eq_false_iff_ne.2 h4) (beq_eq_false_iff_ne.2 h5)
set_option maxHeartbeats 1600000 in
theorem lawReads (A : Option Addr) (c : Nat) (xs : List Int) (B : Option Addr) (cb : Nat) (l : List It) (w : World) (hcap : xs.length ≤ c) (hc : BK.C w A xs.length xs) (hl : kI.C w B l.length l)
    (hx : ∀ c ∈ xs, 0 ≤ c ∧ c < 256) (hs : xs.length ≤ 140737488355328) (hm : ∀ x ∈ l, -9223372036854775808 ≤ x.most ∧ x.most < 9223372036854775808) :
    Calls Try.prog 11 #[.slice A xs.length c, .slice B l.length cb] w fun e w' => e = .returned (.bool true) ∧ Below w.heap.size w w' := by
  have HC := Lib.hid hc
  have HCC := Lib.hid hcap
  have HD := Lib.hid hl
  have HX := Lib.hid hx
  have HM := Lib.hid hm
  have HS := Lib.hid hs
  have hll : l.length ≤ 9223372036854775807 := hl.2.1
  have HB := Lib.hid (Below.refl w.heap.size w)
  have HO := Lib.hid (ow0 w w.heap.size)
  clear hc hl hx hm hs hcap
  go_enter Try.func11, Try.ntmps11
  go_wp2_with (at_builtin; go_must (refine Kd.R_append_rows BK (w0 := w) w.heap.size rfl _ _ 22 5 (.int .u8 0) 1 rfl Try.underlying22 info5 rfl (by decide) (by decide) _ [] xs _ _ _ (fun _ => True) (fun _ => False) rfl rfl (by exact HO.out) (by exact HC.out) (fun y cs hk => hk) (fun _ hk => hk.elim) (fun _ _ => trivial) (by exact HB.out) (by exact HB.out.size) ?hl ?_; (case hl => have := HS.out; simp; omega)); intro v1 w1 ho hb hg hg2; rw [List.nil_append] at ho; obtain ⟨A1, c1, rfl, hc1, hC1⟩ := Ow.reads (k := .u8) ho; have HC1 := Lib.hid hC1; have HCC1 := Lib.hid hc1; have HB1 := Lib.hid hb; clear HB hg hg2 HO ho hb hC1 hc1)
  refine (read_calls A1 c1 xs w1 HCC1.out HC1.out HS.out).mono ?_
  rintro r w2 ⟨p, rfl, h2, hb⟩
  have HR2 := Lib.hid (h2.lower HB1.out.size)
  have HB2 := Lib.hid (below_then HB1.out HB1.out.size hb)
  clear h2 hb HC1 HCC1 HB1
  have HBo : Hid (Both w (w2.alloc (.cells #[.slice A xs.length c, .int .i64 0, .int .i64 0] 61)) p w2.heap.size xs 0 0) :=
    Lib.hid ⟨HR2.out.grown (below_alloc (Below.refl _ _) _), ⟨A, c, heap_alloc_new _ _, HB2.out.size, HC.out, HCC.out⟩, by have := HR2.out.lt; omega, below_alloc HB2.out _⟩
  go_wp2_with fail
  go_loopw [8] (fun i' wr => ∃ (k a : Nat) (e : Int), i' = .int .i64 k ∧ Hid (Both w wr p w2.heap.size xs a e)) (fun i' _ => (l.length - intOf i').toNat)
  case atStart => exact ⟨0, 0, 0, rfl, HBo⟩
  case round =>
    obtain ⟨k, a, e, rfl, HBo⟩ := hrel
    by_cases h : k < l.length
    · have h1 : decide (k < l.length) = true := decide_eq_true h
      have i0 : (0 : Int) ≤ k := by omega
      obtain ⟨ad, x, C, d, hx, hA, c0, c1, c2, c3, hle, hC⟩ := at_I (Kd.C_below HD.out HBo.out.be) k h
      subst hA
      have HMX := Lib.hid (HM.out x (List.mem_of_getElem? hx))
      clear hx hC hle
      go_wp2_with fail
      refine (reads_any w wr p w2.heap.size xs a e HBo.out HX.out HS.out x.n _ x.most HMX.out x.act).mono ?_
      rintro r w3 ⟨a2, e2, rfl, hb⟩
      have HBo2 := Lib.hid hb
      clear hb c0 c1 c2 c3 HBo
      go_wp2_with fail
      go_roundw
      case rel => exact ⟨k + 1, a2, e2, by first | rfl | (rw [show ((k : Int) + 1) = ((k + 1 : Nat) : Int) by omega]), HBo2⟩
      case measure => simp only [intOf]; omega
    · have h1 : decide (k < l.length) = false := decide_eq_false h
      clear h
      go_wp2_with fail
      refine (awake_calls _).mono ?_
      rintro e w3 ⟨rfl, hb⟩
      have HB5 := Lib.hid (below_then HBo.out.be HBo.out.be.size hb)
      clear hb
      go_wp2_with fail
      go_ret
      exact ⟨rfl, HB5.out⟩
theorem wf_u8 {n : Int} (h : (Lit.int .u8 n).wf = true) : 0 ≤ n ∧ n < 256 := by
  simp [Lit.wf, IntKind.min, IntKind.max, IntKind.signed, IntKind.bits] at h
  omega
theorem wf_i64 {n : Int} (h : (Lit.int .i64 n).wf = true) : -9223372036854775808 ≤ n ∧ n < 9223372036854775808 := by
  simp [Lit.wf, IntKind.min, IntKind.max, IntKind.signed, IntKind.bits] at h
  omega
theorem walkReads (A : Option Addr) (c : Nat) (xs : List Int) (B : Option Addr) (cb : Nat) (l : List It) (w : World) (hcap : xs.length ≤ c) (hc : BK.C w A xs.length xs) (hg : (∀ x ∈ xs, (Lit.int .u8 x).wf = true) ∧ xs.length * 1 ≤ reachBytes)
    (_ : l.length ≤ cb) (hl : kI.C w B l.length l) (hgl : (∀ x ∈ l, goodI x) ∧ l.length * 48 ≤ reachBytes) :
    Calls Try.prog 11 #[.slice A xs.length c, .slice B l.length cb] w fun e w' => e = .returned (.bool true) ∧ Below w.heap.size w w' := by
  refine lawReads A c xs B cb l w hcap hc hl (fun x hx => wf_u8 (hg.1 x hx)) ?_ (fun x hx => wf_i64 (hgl.1 x hx).2.2.2)
  have := hg.2
  simp only [reachBytes] at this
  omega
end Go.Proofs.Ytdogkhbfpbdfpaa.WireZ
