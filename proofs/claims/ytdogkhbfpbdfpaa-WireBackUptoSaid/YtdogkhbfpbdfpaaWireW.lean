import Derived.Test.YtdogkhbfpbdfpaaProg
import Derived.Test.YtdogkhbfpbdfpaaWireP
import Derived.WalkKit
import Derived.WalkSpells
import Derived.Lib.Hide
import Derived.Deep.DeepMust
/- What wire's writers do. -/
namespace Go.Proofs.Ytdogkhbfpbdfpaa.WireW
open Go.RowKit Go.Proofs.YtdogkhbfpbdfpaaW.PrintWords Mem WireP
abbrev BK : Kd Int := Kd.int .u8
theorem info5 : (Try.prog.info? 5).map (fun i => (i.zero, i.size, i.bytes)) = some (some (.int .u8 0), 1, 1) := by kernel_rfl
theorem own_calls (A : Option Addr) (n c : Nat) (w : World) (h : n ≤ c) :
    Calls Try.prog 50 #[.slice A n c] w fun e w' => e = .returned (.slice A n n) ∧ w = w' := by
  go_enter Try.func50, Try.ntmps50
  go_wp2
  go_ret
  exact ⟨rfl, rfl⟩
theorem or128' : ∀ k : Fin 256, Go.bits .or .u8 ((k.1 : Nat) : Int) 128 = ((k.1 : Nat) : Int) % 128 + 128 := by decide +kernel
theorem or128 (m : Int) : Go.bits .or .u8 (m % 256) 128 = m % 128 + 128 := by
  obtain ⟨k, hk⟩ := Int.eq_ofNat_of_zero_le (Int.emod_nonneg m (b := 256) (by decide))
  have := or128' ⟨k, by omega⟩
  simp only at this
  rw [hk]
  rw [show m % 128 = (k : Int) % 128 by omega]
  exact this
/-- The loop's state: what was written, the number that is left. -/
def UvI (xs : List Int) (n : Nat) (ys : List Int) (m : Int) : Prop := 0 ≤ m ∧ ys ++ uv m.toNat = xs ++ uv n
theorem uvI_more {xs ys : List Int} {n : Nat} {m : Int} (h : UvI xs n ys m) (hm : 128 ≤ m) : UvI xs n (ys ++ [m % 128 + 128]) (m / 128) := by
  refine ⟨by have := h.1; omega, ?_⟩
  rw [← h.2, uv_ge (n := m.toNat) (by omega), List.append_assoc]
  have e1 : ((m.toNat % 128 : Nat) : Int) = m % 128 := by omega
  have e2 : m.toNat / 128 = (m / 128).toNat := by omega
  rw [e1, e2]; rfl
theorem uvI_done {xs ys : List Int} {n : Nat} {m : Int} (h : UvI xs n ys m) (hm : m < 128) : ys ++ [m] = xs ++ uv n := by
  rw [← h.2, uv_lt (n := m.toNat) (by omega)]
  have := h.1
  rw [show ((m.toNat : Nat) : Int) = m by omega]
theorem uvI_len {xs ys : List Int} {n : Nat} {m : Int} (h : UvI xs n ys m) : ys.length + 1 ≤ xs.length + (uv n).length := by
  have := congrArg List.length h.2
  have := uv_pos m.toNat
  simp only [List.length_append] at *
  omega
set_option maxHeartbeats 400000 in
theorem uvarint_calls (A : Option Addr) (c : Nat) (xs : List Int) (n : Int) (w : World) (hc : xs.length ≤ c) (hx : BK.C w A xs.length xs) (hn : 0 ≤ n ∧ n < 18446744073709551616) (hl : xs.length + 10 ≤ 140737488355328) :
    Calls Try.prog 28 #[.slice A xs.length c, .int .u64 n] w fun e w' => ∃ v, e = .returned v ∧ Ow .u8 5 w' w.heap.size v (xs ++ uv n.toNat) ∧ Below w.heap.size w w' := by
  have HC := Lib.hid hx
  have HL : Hid (xs.length + (uv n.toNat).length ≤ 140737488355328) := Lib.hid (by have := uv_len10 (n := n.toNat) (by omega); omega)
  have HI : Hid (UvI xs n.toNat xs n) := Lib.hid ⟨hn.1, rfl⟩
  clear hx hn hl
  go_enter Try.func28, Try.ntmps28
  go_wp2_with fail
  refine (own_calls _ _ _ _ hc).mono ?_
  rintro e w' ⟨rfl, rfl⟩
  clear hc
  go_wp2_with fail
  go_loopw [0, 1] (fun v n' wr => ∃ (ni : Int) (ys : List Int), n' = .int .u64 ni ∧ Hid (Ap .u8 5 wr w.heap.size v ys) ∧ Hid (UvI xs n.toNat ys ni) ∧ Hid (Below w.heap.size w wr)) (fun _ n' _ => (intOf n').toNat)
  case atStart => exact ⟨_, _, rfl, Lib.hid (.inr ⟨_, rfl, HC.out⟩), HI, Lib.hid (Below.refl _ _)⟩
  case round =>
    obtain ⟨ni, ys, rfl, HA, HE, HB⟩ := hrel
    have HM : Hid ((ys.length + 1) * 1 ≤ 140737488355328) := Lib.hid (by have := uvI_len HE.out; have := HL.out; omega)
    by_cases h : 128 ≤ ni
    · have h1 : decide (128 ≤ ni) = true := decide_eq_true h
      have HN := Lib.hid h
      clear h HI
      go_wp2_with (at_builtin; go_must (refine ap_append (w0 := w) w.heap.size rfl _ _ 22 5 .u8 1 rfl Try.underlying22 info5 (by decide) _ ys [_] _ 1 1 rfl rfl (by decide) (by exact HA.out.alloc _) (by exact C_lit [_] _ _ rfl (Nat.le_of_ble_eq_true rfl)) (by exact below_alloc HB.out _) (by exact (below_alloc HB.out _).size) (by exact HM.out) ?_); intro v1 w1 ho hb hg; clear HA HB hg; have HA := Lib.hid ho; have HB := Lib.hid hb; clear ho hb)
      go_roundw
      case rel =>
        refine ⟨_, _, rfl, Lib.hid (.inl HA.out), Lib.hid ?_, HB⟩
        have := uvI_more HE.out HN.out
        rw [or128]
        exact this
      case measure => have := HN.out; simp [intOf]; omega
    · have h1 : decide (128 ≤ ni) = false := decide_eq_false h
      have HN : Hid (ni < 128) := Lib.hid (by omega)
      clear h HI
      go_wp2_with (at_builtin; go_must (refine ap_append (w0 := w) w.heap.size rfl _ _ 22 5 .u8 1 rfl Try.underlying22 info5 (by decide) _ ys [_] _ 1 1 rfl rfl (by decide) (by exact HA.out.alloc _) (by exact C_lit [_] _ _ rfl (Nat.le_of_ble_eq_true rfl)) (by exact below_alloc HB.out _) (by exact (below_alloc HB.out _).size) (by exact HM.out) ?_); intro v1 w1 ho hb hg; clear HA HB hg; have HA := Lib.hid ho; have HB := Lib.hid hb; clear ho hb)
      go_ret
      refine ⟨_, rfl, ?_, HB.out⟩
      have e := uvI_done HE.out HN.out
      have hm : ni % 256 = ni := by have := HN.out; have := HE.out.1; omega
      rw [← e, ← hm]
      exact HA.out
theorem xor_ones {a k : Nat} (h : a < 2 ^ k) : a ^^^ (2 ^ k - 1) = 2 ^ k - (a + 1) := by
  apply Nat.eq_of_testBit_eq
  intro i
  rw [Nat.testBit_xor, Nat.testBit_two_pow_sub_one, Nat.testBit_two_pow_sub_succ h]
  by_cases hi : i < k
  · simp [hi]
  · have : a.testBit i = false := Nat.testBit_lt_two_pow (Nat.lt_of_lt_of_le h (Nat.pow_le_pow_right (by decide) (by omega)))
    simp [hi, this]
theorem zig_bits (n : Int) (h : -9223372036854775808 ≤ n ∧ n < 9223372036854775808) : Go.bits .xor .u64 (IntKind.u64.wrap (wrap64 (n * 2))) (IntKind.u64.wrap (n / 9223372036854775808)) = (zig n : Nat) := by
  rw [Go.IntKind.wrap_u64, Go.IntKind.wrap_u64]
  unfold zig wrap64
  by_cases hn : n < 0
  · rw [if_pos hn]
    obtain ⟨a, ha⟩ : ∃ a : Nat, ((n * 2 + 9223372036854775808) % 18446744073709551616 - 9223372036854775808) % 18446744073709551616 = (a : Int) := Int.eq_ofNat_of_zero_le (by omega)
    have hb : n / 9223372036854775808 % 18446744073709551616 = ((18446744073709551615 : Nat) : Int) := by omega
    have hl : a < 2 ^ 64 := by omega
    rw [ha, hb, bits_xor_u64_nat a _ (by omega) (by omega)]
    have := xor_ones hl
    rw [show (18446744073709551615 : Nat) = 2 ^ 64 - 1 by decide, this]
    omega
  · rw [if_neg hn]
    obtain ⟨a, ha⟩ : ∃ a : Nat, ((n * 2 + 9223372036854775808) % 18446744073709551616 - 9223372036854775808) % 18446744073709551616 = (a : Int) := Int.eq_ofNat_of_zero_le (by omega)
    have hb : n / 9223372036854775808 % 18446744073709551616 = ((0 : Nat) : Int) := by omega
    rw [ha, hb, bits_xor_u64_nat a _ (by omega) (by omega), Nat.xor_zero]
    omega
theorem zig_lt {n : Int} (h : -9223372036854775808 ≤ n ∧ n < 9223372036854775808) : zig n < 18446744073709551616 := by
  unfold zig
  split <;> omega
theorem varint_calls (A : Option Addr) (c : Nat) (xs : List Int) (n : Int) (w : World) (hc : xs.length ≤ c) (hx : BK.C w A xs.length xs) (hn : -9223372036854775808 ≤ n ∧ n < 9223372036854775808) (hl : xs.length + 10 ≤ 140737488355328) :
    Calls Try.prog 30 #[.slice A xs.length c, .int .i64 n] w fun e w' => ∃ v, e = .returned v ∧ Ow .u8 5 w' w.heap.size v (xs ++ uv (zig n)) ∧ Below w.heap.size w w' := by
  have HC := Lib.hid hx
  clear hx
  have HN := Lib.hid hn
  clear hn
  go_enter Try.func30, Try.ntmps30
  go_wp2_with fail
  rw [zig_bits n HN.out]
  refine (uvarint_calls A c xs _ w hc HC.out (by have := zig_lt HN.out; omega) hl).mono ?_
  rintro e w1 ⟨v, rfl, ho, hb⟩
  have HO := Lib.hid ho
  have HB := Lib.hid hb
  clear ho hb
  go_wp2_with fail
  go_ret
  exact ⟨_, rfl, HO.out, HB.out⟩
theorem fixed4_calls (A : Option Addr) (c : Nat) (xs : List Int) (n : Int) (w : World) (hc : xs.length ≤ c) (hx : BK.C w A xs.length xs) (hl : xs.length + 4 ≤ 140737488355328) :
    Calls Try.prog 40 #[.slice A xs.length c, .int .u32 n] w fun e w' => ∃ v, e = .returned v ∧ Ow .u8 5 w' w.heap.size v (xs ++ fx n 4) ∧ Below w.heap.size w w' := by
  have HC := Lib.hid hx
  have HL := Lib.hid hl
  have HB := Lib.hid (Below.refl w.heap.size w)
  clear hx hl
  go_enter Try.func40, Try.ntmps40
  go_wp2_with fail
  refine (own_calls _ _ _ _ hc).mono ?_
  rintro e w' ⟨rfl, rfl⟩
  clear hc
  have HA0 : Hid (Ap .u8 5 w w.heap.size (.slice A xs.length xs.length) xs) := Lib.hid (.inr ⟨_, rfl, HC.out⟩)
  go_wp2_with (at_builtin; go_must (refine ap_append (w0 := w) w.heap.size rfl _ _ 22 5 .u8 1 rfl Try.underlying22 info5 (by decide) _ xs [_, _, _, _] _ 4 4 rfl rfl (by decide) (by exact HA0.out.alloc _) (by exact C_lit [_, _, _, _] _ _ rfl (Nat.le_of_ble_eq_true rfl)) (by exact below_alloc HB.out _) (by exact (below_alloc HB.out _).size) (by have := HL.out; omega) ?_); intro v1 w1 ho hb hg; clear HB hg; have HA := Lib.hid ho; have HB := Lib.hid hb; clear ho hb)
  go_ret
  refine ⟨_, rfl, ?_, HB.out⟩
  have e : fx n 4 = [n % 256, n / 256 % 256, n / 65536 % 256, n / 16777216 % 256] := by
    simp only [fx, List.cons.injEq, and_true, true_and]
    omega
  rw [e]
  exact HA.out
theorem fx_split (n : Int) : fx n 8 = fx (n % 4294967296) 4 ++ fx (n / 4294967296 % 4294967296) 4 := by
  simp only [fx, List.cons_append, List.nil_append, List.cons.injEq, and_true]
  refine ⟨by omega, by omega, by omega, by omega, ?_, ?_, ?_, ?_⟩ <;> omega
theorem fixed8_calls (A : Option Addr) (c : Nat) (xs : List Int) (n : Int) (w : World) (hc : xs.length ≤ c) (hx : BK.C w A xs.length xs) (hl : xs.length + 8 ≤ 140737488355328) :
    Calls Try.prog 42 #[.slice A xs.length c, .int .u64 n] w fun e w' => ∃ v, e = .returned v ∧ Ow .u8 5 w' w.heap.size v (xs ++ fx n 8) ∧ Below w.heap.size w w' := by
  have HC := Lib.hid hx
  have HL := Lib.hid hl
  clear hx hl
  go_enter Try.func42, Try.ntmps42
  go_wp2_with fail
  refine (fixed4_calls A c xs _ w hc HC.out (by have := HL.out; omega)).mono ?_
  rintro e w1 ⟨v, rfl, ho, hb⟩
  obtain ⟨ys, hys⟩ : ∃ ys, ys = xs ++ fx (n % 4294967296) 4 := ⟨_, rfl⟩
  rw [← hys] at ho
  have hlen : ys.length = xs.length + 4 := by rw [hys, List.length_append, fx_len]
  have HY := Lib.hid hys
  clear hys
  obtain ⟨A1, c1, rfl, hc1, hC⟩ := ho.reads
  have HC1 := Lib.hid hC
  have HB := Lib.hid hb
  have HE := Lib.hid hlen
  clear ho hb hC hlen
  go_wp2_with fail
  refine (fixed4_calls A1 c1 _ _ w1 hc1 HC1.out (by have := HL.out; have := HE.out; omega)).mono ?_
  rintro e w2 ⟨v, rfl, ho, hb⟩
  have HO := Lib.hid (ho.lower HB.out.size)
  have HB2 := Lib.hid (below_trans HB.out hb (Nat.le_refl _))
  clear ho hb
  go_wp2_with fail
  go_ret
  refine ⟨_, rfl, ?_, HB2.out⟩
  rw [fx_split n, ← List.append_assoc, ← HY.out]
  exact HO.out
theorem bytes_calls (A : Option Addr) (c : Nat) (xs : List Int) (B : Option Addr) (m cb : Nat) (ys : List Int) (w : World) (hc : xs.length ≤ c) (hx : BK.C w A xs.length xs) (hy : BK.C w B m ys) (hl : xs.length + m + 10 ≤ 140737488355328) :
    Calls Try.prog 43 #[.slice A xs.length c, .slice B m cb] w fun e w' => ∃ v, e = .returned v ∧ Ow .u8 5 w' w.heap.size v (xs ++ uv m ++ ys) ∧ Below w.heap.size w w' := by
  have HC := Lib.hid hx
  have HD := Lib.hid hy
  have HL := Lib.hid hl
  clear hx hl hy
  go_enter Try.func43, Try.ntmps43
  have hw : IntKind.u64.wrap (m : Int) = (m : Int) := by rw [Go.IntKind.wrap_u64]; have := HL.out; omega
  go_wp2_with fail
  refine (uvarint_calls A c xs _ w hc HC.out (by have := HL.out; omega) (by have := HL.out; omega)).mono ?_
  rintro e w1 ⟨v, rfl, ho, hb⟩
  have HA := Lib.hid ho
  have HB := Lib.hid hb
  clear ho hb
  go_wp2_with (at_builtin; go_must (refine Kd.R_append_rows BK (w0 := w) w.heap.size rfl _ _ 22 5 (.int .u8 0) 1 rfl Try.underlying22 info5 rfl (by decide) (by decide) _ _ ys _ _ _ (fun _ => True) (fun _ => False) rfl rfl (by exact HA.out) (by exact Kd.C_below HD.out HB.out) (fun y cs hk => hk) (fun _ hk => hk.elim) (fun _ _ => trivial) (by exact HB.out) (by exact HB.out.size) ?hl ?_; (case hl => have h1 := HL.out; have h2 := uv_len10 (n := ((m : Nat) : Int).toNat) (by omega); rw [List.length_append]; omega)); intro v1 w2 ho hb hg hg2; clear HB hg hg2; have HO := Lib.hid ho; have HB := Lib.hid hb; clear ho hb)
  go_ret
  exact ⟨_, rfl, HO.out, HB.out⟩
end Go.Proofs.Ytdogkhbfpbdfpaa.WireW
