import Derived.Test.YtdogkhbfpbdfpaaWireW
import Derived.BigQuiet
import Derived.Deep.RegionWith
/- What the document's writers do. -/
namespace Go.Proofs.Ytdogkhbfpbdfpaa.WireV
open Go.RowKit Go.Proofs.YtdogkhbfpbdfpaaW.PrintWords Mem WireP WireW
theorem ow0 (w : World) (b : Nat) : Ow .u8 5 w b (.slice none 0 0) [] := Ow.nil _ _ _ _
set_option maxHeartbeats 400000 in
theorem ref_uvarint (n : Int) (w : World) (hn : 0 ≤ n ∧ n < 18446744073709551616) :
    Calls Try.prog 38 #[.int .u64 n] w fun e w' => ∃ v, e = .returned v ∧ Ow .u8 5 w' w.heap.size v (uv n.toNat) ∧ Below w.heap.size w w' := by
  have HL : Hid ((uv n.toNat).length ≤ 10) := Lib.hid (uv_len10 (n := n.toNat) (by omega))
  have HI : Hid (UvI [] n.toNat [] n) := Lib.hid ⟨hn.1, rfl⟩
  have HT := Lib.hid hn.2
  clear hn
  go_enter Try.func38, Try.ntmps38
  go_wp2_with fail
  go_loopw [0, 3] (fun n' v wr => ∃ (ni : Int) (ys : List Int), n' = .int .u64 ni ∧ Hid (Ow .u8 5 wr w.heap.size v ys) ∧ Hid (UvI [] n.toNat ys ni) ∧ Hid (ni < 18446744073709551616) ∧ Hid (Below w.heap.size w wr)) (fun n' _ _ => (intOf n').toNat)
  case atStart => exact ⟨_, _, rfl, Lib.hid (ow0 _ _), HI, HT, Lib.hid (Below.refl _ _)⟩
  case round =>
    obtain ⟨ni, ys, rfl, HA, HE, HS, HB⟩ := hrel
    have HM : Hid ((ys.length + 1) * 1 ≤ 140737488355328) := Lib.hid (by have h1 := uvI_len HE.out; have h2 := HL.out; rw [List.length_nil] at h1; omega)
    by_cases h : 128 ≤ ni
    · have h1 : decide (128 ≤ ni) = true := decide_eq_true h
      have HN := Lib.hid h
      clear h HI
      go_wp2_with (at_builtin; go_must (refine Kd.R_append BK (w0 := w) w.heap.size rfl _ _ 22 5 (.int .u8 0) 1 rfl Try.underlying22 info5 rfl (by decide) (by decide) _ _ _ [_] (fun _ => True) (fun _ => False) rfl rfl rfl (fun _ hk => hk.elim) (fun _ _ => trivial) (by exact HA.out) (by exact HB.out) (by exact HB.out.size) (by exact HM.out) ?_); intro v1 w1 ho hb hg hg2; clear HA HB hg hg2; have HA := Lib.hid ho; have HB := Lib.hid hb; clear ho hb)
      go_roundw
      case rel =>
        refine ⟨_, _, rfl, HA, Lib.hid ?_, Lib.hid ?_, HB⟩
        have h0 := HN.out
        have := uvI_more HE.out HN.out
        · rw [Go.IntKind.wrap_u64, Int.tmod_eq_emod_of_nonneg (by omega), Int.tdiv_eq_ediv_of_nonneg (by omega)]
          rw [show (ni % 128 + 128) % 256 = ni % 128 + 128 by omega, show ni / 128 % 18446744073709551616 = ni / 128 by have := HS.out; omega]
          exact this
        · have := HS.out; rw [Go.IntKind.wrap_u64]; omega
      case measure => have := HN.out; simp only [intOf]; rw [Go.IntKind.wrap_u64, Int.tdiv_eq_ediv_of_nonneg (by omega)]; omega
    · have h1 : decide (128 ≤ ni) = false := decide_eq_false h
      have HN : Hid (ni < 128) := Lib.hid (by omega)
      clear h HI
      go_wp2_with (at_builtin; go_must (refine Kd.R_append BK (w0 := w) w.heap.size rfl _ _ 22 5 (.int .u8 0) 1 rfl Try.underlying22 info5 rfl (by decide) (by decide) _ _ _ [_] (fun _ => True) (fun _ => False) rfl rfl rfl (fun _ hk => hk.elim) (fun _ _ => trivial) (by exact HA.out) (by exact HB.out) (by exact HB.out.size) (by exact HM.out) ?_); intro v1 w1 ho hb hg hg2; clear HA HB hg hg2; have HA := Lib.hid ho; have HB := Lib.hid hb; clear ho hb)
      go_ret
      refine ⟨_, rfl, ?_, HB.out⟩
      have e := uvI_done HE.out HN.out
      have hm : ni % 256 = ni := by have := HN.out; have := HE.out.1; omega
      rw [List.nil_append] at e
      rw [← e, ← hm]
      exact HA.out
theorem ref_varint (n : Int) (w : World) (hn : -9223372036854775808 ≤ n ∧ n < 9223372036854775808) :
    Calls Try.prog 39 #[.int .i64 n] w fun e w' => ∃ v, e = .returned v ∧ Ow .u8 5 w' w.heap.size v (uv (zig n)) ∧ Below w.heap.size w w' := by
  have HN := Lib.hid hn
  by_cases h : n < 0
  · have h1 : decide (n < 0) = true := decide_eq_true h
    have e1 : IntKind.u64.wrap (IntKind.u64.wrap (IntKind.u64.wrap (wrap64 (-(wrap64 (n + 1)))) * 2) + 1) = (zig n : Nat) := by
      simp only [Go.IntKind.wrap_u64, wrap64, zig, if_pos h]; omega
    have HZ := Lib.hid h
    clear h hn
    go_enter Try.func39, Try.ntmps39
    go_wp2_with fail
    refine (ref_uvarint _ w (by have := zig_lt HN.out; omega)).mono ?_
    rintro e w1 ⟨v, rfl, ho, hb⟩
    have HO := Lib.hid ho
    have HB := Lib.hid hb
    clear ho hb
    go_wp2_with fail
    go_ret
    exact ⟨_, rfl, HO.out, HB.out⟩
  · have h1 : decide (n < 0) = false := decide_eq_false h
    have e1 : IntKind.u64.wrap (IntKind.u64.wrap n * 2) = (zig n : Nat) := by
      simp only [Go.IntKind.wrap_u64, zig, if_neg h]; omega
    have HZ := Lib.hid h
    clear h hn
    go_enter Try.func39, Try.ntmps39
    go_wp2_with fail
    refine (ref_uvarint _ w (by have := zig_lt HN.out; omega)).mono ?_
    rintro e w1 ⟨v, rfl, ho, hb⟩
    have HO := Lib.hid ho
    have HB := Lib.hid hb
    clear ho hb
    go_wp2_with fail
    go_ret
    exact ⟨_, rfl, HO.out, HB.out⟩
theorem ref_bytes (B : Option Addr) (m cb : Nat) (ys : List Int) (w : World) (hy : BK.C w B m ys) (hl : m + 10 ≤ 140737488355328) :
    Calls Try.prog 44 #[.slice B m cb] w fun e w' => ∃ v, e = .returned v ∧ Ow .u8 5 w' w.heap.size v (uv m ++ ys) ∧ Below w.heap.size w w' := by
  have HD := Lib.hid hy
  have HL := Lib.hid hl
  clear hl hy
  have hw : IntKind.u64.wrap (m : Int) = (m : Int) := by rw [Go.IntKind.wrap_u64]; have := HL.out; omega
  go_enter Try.func44, Try.ntmps44
  go_wp2_with fail
  refine (ref_uvarint _ w (by have := HL.out; omega)).mono ?_
  rintro e w1 ⟨v, rfl, ho, hb⟩
  have HA := Lib.hid ho
  have HB := Lib.hid hb
  clear ho hb
  go_wp2_with (at_builtin; go_must (refine Kd.R_append_rows BK (w0 := w) w.heap.size rfl _ _ 22 5 (.int .u8 0) 1 rfl Try.underlying22 info5 rfl (by decide) (by decide) _ _ ys _ _ _ (fun _ => True) (fun _ => False) rfl rfl (by exact HA.out) (by exact Kd.C_below HD.out HB.out) (fun y cs hk => hk) (fun _ hk => hk.elim) (fun _ _ => trivial) (by exact HB.out) (by exact HB.out.size) ?hl ?_; (case hl => have h1 := HL.out; have h2 := uv_len10 (n := ((m : Nat) : Int).toNat) (by omega); omega)); intro v1 w2 ho hb hg hg2; clear HB hg hg2; have HO := Lib.hid ho; have HB := Lib.hid hb; clear ho hb)
  go_ret
  exact ⟨_, rfl, HO.out, HB.out⟩
theorem same_calls (A B : Option Addr) (n c d : Nat) (xs : List Int) (w : World) (h1 : BK.C w A n xs) (h2 : BK.C w B n xs) :
    Calls Try.prog 13 #[.slice A n c, .slice B n d] w fun e w' => e = .returned (.bool true) ∧ Below w.heap.size w w' := by
  have hcv3 := Kd.C_string (P := Try.prog) (A := A) (c := c) Try.underlying22 Try.underlying5 Try.underlying9 h1
  have hcv4 := Kd.C_string (P := Try.prog) (A := B) (c := d) Try.underlying22 Try.underlying5 Try.underlying9 h2
  have HB := Lib.hid (Below.refl w.heap.size w)
  clear h1 h2
  go_enter Try.func13, Try.ntmps13
  go_wp2_with fail
  go_ret
  exact ⟨rfl, HB.out⟩
theorem ref_fixed (n : Int) (k : Nat) (w : World) (hk : k ≤ 8) :
    Calls Try.prog 41 #[.int .u64 n, .int .i64 k] w fun e w' => ∃ v, e = .returned v ∧ Ow .u8 5 w' w.heap.size v (fx n k) ∧ Below w.heap.size w w' := by
  go_enter Try.func41, Try.ntmps41
  go_wp2_with fail
  go_loopw [5, 6] (fun v i' wr => ∃ (i : Nat) (ys : List Int), i' = .int .i64 i ∧ Hid (Ow .u8 5 wr w.heap.size v ys) ∧ Hid (i ≤ k ∧ ys = fx n i) ∧ Hid (Below w.heap.size w wr)) (fun _ i' _ => (k - intOf i').toNat)
  case atStart => exact ⟨0, _, rfl, Lib.hid (ow0 _ _), Lib.hid ⟨by omega, rfl⟩, Lib.hid (Below.refl _ _)⟩
  case round =>
    obtain ⟨i, ys, rfl, HA, HE, HB⟩ := hrel
    by_cases h : i < k
    · have h1 : decide (i < k) = true := decide_eq_true (by omega)
      have h2 : wrap64 (8 * (i : Int)) = 8 * i := by unfold wrap64; omega
      have HS := Lib.hid h
      have HM : Hid ((ys.length + 1) * 1 ≤ 140737488355328) := Lib.hid (by have := HE.out.1; rw [HE.out.2, fx_len]; omega)
      go_wp2_with (at_builtin; go_must (refine Kd.R_append BK (w0 := w) w.heap.size rfl _ _ 22 5 (.int .u8 0) 1 rfl Try.underlying22 info5 rfl (by decide) (by decide) _ _ _ [_] (fun _ => True) (fun _ => False) rfl rfl rfl (fun _ hk => hk.elim) (fun _ _ => trivial) (by exact HA.out) (by exact HB.out) (by exact HB.out.size) (by exact HM.out) ?_); intro v1 w1 ho hb hg hg2; clear HA HB hg hg2; have HA := Lib.hid ho; have HB := Lib.hid hb; clear ho hb)
      go_roundw
      case rel =>
        refine ⟨i + 1, _, ?_, HA, Lib.hid ⟨by have := HS.out; omega, by rw [fx_succ, HE.out.2]⟩, HB⟩
        rw [show ((i : Int) + 1) = ((i + 1 : Nat) : Int) by omega]
      case measure => simp only [intOf]; have := HS.out; omega
    · have h1 : decide (i < k) = false := decide_eq_false (by omega)
      have HS := Lib.hid h
      clear h
      go_wp2_with fail
      go_ret
      refine ⟨_, rfl, ?_, HB.out⟩
      have e : fx n k = ys := by rw [HE.out.2]; congr 1; have := HE.out.1; have := HS.out; omega
      rw [e]
      exact HA.out
theorem uv300 : uv 300 = [172, 2] := by rw [uv_ge (by decide), uv_lt (by decide)]; rfl
theorem awake_calls (w : World) : Calls Try.prog 14 #[] w fun e w' => e = .returned (.bool true) ∧ Below w.heap.size w w' := by
  go_enter Try.func14, Try.ntmps14
  go_wp2_with fail
  refine (uvarint_calls _ _ [7] 300 _ (by decide) (C_lit [7] _ _ rfl (by decide)) (by decide) (by decide)).mono ?_
  rintro e w1 ⟨v, rfl, ho, hb⟩
  rw [show ([7] : List Int) ++ uv (300 : Int).toNat = [7, 172, 2] by rw [show (300 : Int).toNat = 300 from rfl, uv300]; rfl] at ho
  obtain ⟨g, cap, rfl, hc, _, _, hcells⟩ := ho.cells (by decide)
  have c0 := hcells 0 7 rfl
  have c1 := hcells 1 172 rfl
  have c2 := hcells 2 2 rfl
  have HB := Lib.hid (below_then (below_alloc (Below.refl w.heap.size w) _) (below_alloc (Below.refl w.heap.size w) _).size hb)
  clear ho hb hcells hc
  go_wp2_with fail
  go_ret
  exact ⟨rfl, HB.out⟩
end Go.Proofs.Ytdogkhbfpbdfpaa.WireV
