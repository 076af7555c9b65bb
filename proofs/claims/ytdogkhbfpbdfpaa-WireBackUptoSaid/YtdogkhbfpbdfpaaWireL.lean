import Derived.Test.YtdogkhbfpbdfpaaWireV
import Derived.Test.YtdogkhbfpbdfpaaWireK
import Derived.Deep.RegionLaw
/- What is written: law 05. -/
namespace Go.Proofs.Ytdogkhbfpbdfpaa.WireL
open Go.RowKit Go.Proofs.YtdogkhbfpbdfpaaW.PrintWords Mem WireP WireW WireV WireK
/-- The bytes of an item. -/
def wr (x : It) : List Int :=
  if x.act = 0 then uv x.n.toNat else if x.act = 1 then uv (zig (IntKind.i64.wrap x.n)) else if x.act = 2 then fx (IntKind.u32.wrap x.n) 4
  else if x.act = 3 then fx x.n 8 else if x.act = 6 then uv x.b.length ++ x.b else []
theorem mask32 {n : Int} (h : 0 ≤ n ∧ n < 18446744073709551616) : Go.bits .and .u64 n 4294967295 = IntKind.u32.wrap n := by
  obtain ⟨m, rfl⟩ := Int.eq_ofNat_of_zero_le h.1
  have := bits_and_u64_nat m 4294967295 (by omega) (by decide)
  have e : m &&& 4294967295 = m % 4294967296 := Nat.and_two_pow_sub_one_eq_mod m 32
  rw [e] at this
  have e2 : IntKind.u32.wrap (m : Int) = (m : Int) % 4294967296 := by simp [IntKind.wrap, IntKind.bits, IntKind.signed]
  rw [e2]
  exact this
theorem ref_mask (n : Int) (w : World) (h : 0 ≤ n ∧ n < 18446744073709551616) :
    Calls Try.prog 41 #[.int .u64 (Go.bits .and .u64 n 4294967295), .int .i64 4] w fun e w' => ∃ v, e = .returned v ∧ Ow .u8 5 w' w.heap.size v (fx (IntKind.u32.wrap n) 4) ∧ Below w.heap.size w w' := by
  rw [mask32 h]
  exact ref_fixed _ 4 w (by decide)
theorem Ow.read {w : World} {base : Nat} {v : Value} {xs : List Int} (h : Ow .u8 5 w base v xs) : ∃ A c, v = .slice A xs.length c ∧ xs.length ≤ c ∧ BK.C w A xs.length xs := h.reads
/-- What 'written' answers. -/
def WrPost (w : World) (A : Option Addr) (c : Nat) (xs : List Int) (x : It) (e : Ending) (w' : World) : Prop :=
  ∃ v1 v2, e = .returned (.tuple #[v1, v2]) ∧ (Ow .u8 5 w' w.heap.size v1 (xs ++ wr x) ∨ (v1 = .slice A xs.length c ∧ wr x = [])) ∧ (∃ B d, v2 = .slice B (wr x).length d ∧ (wr x).length ≤ d ∧ BK.C w' B (wr x).length (wr x)) ∧ Below w.heap.size w w'
theorem keep1 {W w1 : World} (hb : Below W.heap.size W w1) {p : Addr} {u : Value} (h1 : W.cell? p = some u) : w1.cell? p = some u := (hb.cell (World.block_lt_of_cell? _ _ h1)).trans h1
/-- append(nil, b...), at a step of a region that draws. -/
theorem own_append_step {ops : Array Oper} {o : Oper} {a : Act} {Q : Exit → Act → World → Prop} {Kc : Act → World → Prop} {W : World} (hw : Region.wanted o (yielded ops a.tmps) = true) (s x : Operand)
    (ho : o.op = .call { callee := .builtin .append, args := #[s, x], argTypes := #[22, 22] }) (B : Option Addr) (c : Nat) (b : List Int) (hs : a.eval s = .slice none 0 0) (hx : a.eval x = .slice B b.length c)
    (HR : BK.C W B b.length b) (hl : b.length ≤ 140737488355328) (h : ∀ B' d w1, BK.C w1 B' b.length b → Below W.heap.size W w1 → Kc (a.put o.dst (.slice B' b.length d)) w1) :
    if Region.wanted o (yielded ops a.tmps) = true then Oper.wp Try.prog o a W Kc Q else Kc (a.put o.dst undef) W :=
  Kd.R_append_rows_step BK (w0 := W) W.heap.size hw s x 22 5 (.int .u8 0) 1 ho Try.underlying22 info5 rfl (by decide) (by decide) _ [] b B b.length c (fun _ => True) (fun _ => False) hs hx
    (ow0 _ _) HR (fun y cs hk => hk) (fun _ hk => hk.elim) (fun _ _ => trivial) (Below.refl _ _) (Nat.le_refl _) (by simpa using hl) (fun v1 w1 h1 h2 _ _ => by
      rw [List.nil_append] at h1
      obtain ⟨B', d, rfl, _, hC⟩ := Kd.R_reads h1
      exact h B' d w1 hC h2)
set_option maxHeartbeats 1600000 in
theorem written0 (A : Option Addr) (c : Nat) (xs : List Int) (B : Option Addr) (cb : Nat) (n : Int) (b : List Int) (most : Int) (w : World) (hc : xs.length ≤ c) (hx : BK.C w A xs.length xs) (hn : 0 ≤ n ∧ n < 18446744073709551616) (hl : xs.length + b.length + 10 ≤ 140737488355328) : Calls Try.prog 12 #[.slice A xs.length c, .agg #[.int .i64 0, .int .u64 n, .slice B b.length cb, .int .i64 most]] w (WrPost w A c xs ⟨0, n, b, most⟩) := by
  have T1 : Hid (∀ W, Below w.heap.size w W → Calls Try.prog 28 #[.slice A xs.length c, .int .u64 n] W fun e w' => ∃ v, e = .returned v ∧ Ow .u8 5 w' w.heap.size v (xs ++ uv n.toNat) ∧ Below W.heap.size W w') :=
    Lib.hid (fun W hW => (uvarint_calls A c xs n W hc (Kd.C_below hx hW) hn (by omega)).mono (fun e w' ⟨v, h1, h2, h3⟩ => ⟨v, h1, h2.lower hW.size, h3⟩))
  have T2 : Hid (∀ W, Below w.heap.size w W → Calls Try.prog 38 #[.int .u64 n] W fun e w' => ∃ v, e = .returned v ∧ Ow .u8 5 w' w.heap.size v (uv n.toNat) ∧ Below W.heap.size W w') :=
    Lib.hid (fun W hW => (ref_uvarint n W hn).mono (fun e w' ⟨v, h1, h2, h3⟩ => ⟨v, h1, h2.lower hW.size, h3⟩))
  have HB := Lib.hid (below_alloc (Below.refl w.heap.size w) (.cells #[.int .i64 0, .int .u64 n, .slice B b.length cb, .int .i64 most] 28))
  have c1 : (w.alloc (.cells #[.int .i64 0, .int .u64 n, .slice B b.length cb, .int .i64 most] 28)).cell? ⟨w.heap.size, 1, none⟩ = some (.int .u64 n) := blk_cell (blk_new w (.cells #[.int .i64 0, .int .u64 n, .slice B b.length cb, .int .i64 most] 28)) 1
  have HV1 : Hid True := Lib.hid trivial
  have HV2 : Hid True := Lib.hid trivial
  clear hc hx hn hl
  go_enter Try.func12, Try.ntmps12
  go_wp2_with fail
  go_region_with (first
    | (go_at_call 28; go_must (refine (T1.out _ (by first | exact HB.out | exact below_drew HB.out | exact pw_below_drewN HB.out _)).mono ?_; rintro e w5 ⟨v1, rfl, ho, hb⟩; have c1 := keep1 hb c1; have H2 := Lib.hid (by first | exact HV2.out.below hb | exact HV2.out); have hB := Lib.hid (below_then (by first | exact HB.out | exact below_drew HB.out | exact pw_below_drewN HB.out _) (by exact HB.out.size) hb); clear hb HB HV1 HV2; have HB := hB; have HV1 := Lib.hid ho; have HV2 := H2; clear hB ho H2))
    | (go_at_call 38; go_must (refine (T2.out _ (by first | exact HB.out | exact below_drew HB.out | exact pw_below_drewN HB.out _)).mono ?_; rintro e w5 ⟨v2, rfl, ho, hb⟩; have c1 := keep1 hb c1; have H1 := Lib.hid (by first | exact HV1.out.below hb | exact HV1.out); have hB := Lib.hid (below_then (by first | exact HB.out | exact below_drew HB.out | exact pw_below_drewN HB.out _) (by exact HB.out.size) hb); clear hb HB HV1 HV2; have HB := hB; have HV2 := Lib.hid ho; have HV1 := H1; clear hB ho H1)))
  all_goals
    go_wp2_with fail
    go_ret2
    have e : wr ⟨0, n, b, most⟩ = uv n.toNat := if_pos rfl
    refine ⟨_, _, rfl, .inl ?_, ?_, HB.out⟩
    · rw [e]; exact HV1.out
    · rw [e]; exact Ow.read HV2.out
set_option maxHeartbeats 1600000 in
theorem written1 (A : Option Addr) (c : Nat) (xs : List Int) (B : Option Addr) (cb : Nat) (n : Int) (b : List Int) (most : Int) (w : World) (hc : xs.length ≤ c) (hx : BK.C w A xs.length xs) (hl : xs.length + b.length + 10 ≤ 140737488355328) : Calls Try.prog 12 #[.slice A xs.length c, .agg #[.int .i64 1, .int .u64 n, .slice B b.length cb, .int .i64 most]] w (WrPost w A c xs ⟨1, n, b, most⟩) := by
  have T1 : Hid (∀ W, Below w.heap.size w W → Calls Try.prog 30 #[.slice A xs.length c, .int .i64 (IntKind.i64.wrap n)] W fun e w' => ∃ v, e = .returned v ∧ Ow .u8 5 w' w.heap.size v (xs ++ uv (zig (IntKind.i64.wrap n))) ∧ Below W.heap.size W w') :=
    Lib.hid (fun W hW => (varint_calls A c xs (IntKind.i64.wrap n) W hc (Kd.C_below hx hW) (by rw [Go.IntKind.wrap_i64]; omega) (by omega)).mono (fun e w' ⟨v, h1, h2, h3⟩ => ⟨v, h1, h2.lower hW.size, h3⟩))
  have T2 : Hid (∀ W, Below w.heap.size w W → Calls Try.prog 39 #[.int .i64 (IntKind.i64.wrap n)] W fun e w' => ∃ v, e = .returned v ∧ Ow .u8 5 w' w.heap.size v (uv (zig (IntKind.i64.wrap n))) ∧ Below W.heap.size W w') :=
    Lib.hid (fun W hW => (ref_varint (IntKind.i64.wrap n) W (by rw [Go.IntKind.wrap_i64]; omega)).mono (fun e w' ⟨v, h1, h2, h3⟩ => ⟨v, h1, h2.lower hW.size, h3⟩))
  have HB := Lib.hid (below_alloc (Below.refl w.heap.size w) (.cells #[.int .i64 1, .int .u64 n, .slice B b.length cb, .int .i64 most] 28))
  have c1 : (w.alloc (.cells #[.int .i64 1, .int .u64 n, .slice B b.length cb, .int .i64 most] 28)).cell? ⟨w.heap.size, 1, none⟩ = some (.int .u64 n) := blk_cell (blk_new w (.cells #[.int .i64 1, .int .u64 n, .slice B b.length cb, .int .i64 most] 28)) 1
  have HV1 : Hid True := Lib.hid trivial
  have HV2 : Hid True := Lib.hid trivial
  clear hc hx hl
  go_enter Try.func12, Try.ntmps12
  go_wp2_with fail
  go_region_with (first
    | (go_at_call 30; go_must (refine (T1.out _ (by first | exact HB.out | exact below_drew HB.out | exact pw_below_drewN HB.out _)).mono ?_; rintro e w5 ⟨v1, rfl, ho, hb⟩; have c1 := keep1 hb c1; have H2 := Lib.hid (by first | exact HV2.out.below hb | exact HV2.out); have hB := Lib.hid (below_then (by first | exact HB.out | exact below_drew HB.out | exact pw_below_drewN HB.out _) (by exact HB.out.size) hb); clear hb HB HV1 HV2; have HB := hB; have HV1 := Lib.hid ho; have HV2 := H2; clear hB ho H2))
    | (go_at_call 39; go_must (refine (T2.out _ (by first | exact HB.out | exact below_drew HB.out | exact pw_below_drewN HB.out _)).mono ?_; rintro e w5 ⟨v2, rfl, ho, hb⟩; have c1 := keep1 hb c1; have H1 := Lib.hid (by first | exact HV1.out.below hb | exact HV1.out); have hB := Lib.hid (below_then (by first | exact HB.out | exact below_drew HB.out | exact pw_below_drewN HB.out _) (by exact HB.out.size) hb); clear hb HB HV1 HV2; have HB := hB; have HV2 := Lib.hid ho; have HV1 := H1; clear hB ho H1)))
  all_goals
    go_wp2_with fail
    go_ret2
    have e : wr ⟨1, n, b, most⟩ = uv (zig (IntKind.i64.wrap n)) := by simp [wr]
    refine ⟨_, _, rfl, .inl ?_, ?_, HB.out⟩
    · rw [e]; exact HV1.out
    · rw [e]; exact Ow.read HV2.out
set_option maxHeartbeats 1600000 in
theorem written2 (A : Option Addr) (c : Nat) (xs : List Int) (B : Option Addr) (cb : Nat) (n : Int) (b : List Int) (most : Int) (w : World) (hc : xs.length ≤ c) (hx : BK.C w A xs.length xs) (hn : 0 ≤ n ∧ n < 18446744073709551616) (hl : xs.length + b.length + 10 ≤ 140737488355328) : Calls Try.prog 12 #[.slice A xs.length c, .agg #[.int .i64 2, .int .u64 n, .slice B b.length cb, .int .i64 most]] w (WrPost w A c xs ⟨2, n, b, most⟩) := by
  have T1 : Hid (∀ W, Below w.heap.size w W → Calls Try.prog 40 #[.slice A xs.length c, .int .u32 (IntKind.u32.wrap n)] W fun e w' => ∃ v, e = .returned v ∧ Ow .u8 5 w' w.heap.size v (xs ++ fx (IntKind.u32.wrap n) 4) ∧ Below W.heap.size W w') :=
    Lib.hid (fun W hW => (fixed4_calls A c xs (IntKind.u32.wrap n) W hc (Kd.C_below hx hW) (by omega)).mono (fun e w' ⟨v, h1, h2, h3⟩ => ⟨v, h1, h2.lower hW.size, h3⟩))
  have T2 : Hid (∀ W, Below w.heap.size w W → Calls Try.prog 41 #[.int .u64 (Go.bits .and .u64 n 4294967295), .int .i64 4] W fun e w' => ∃ v, e = .returned v ∧ Ow .u8 5 w' w.heap.size v (fx (IntKind.u32.wrap n) 4) ∧ Below W.heap.size W w') :=
    Lib.hid (fun W hW => (ref_mask n W hn).mono (fun e w' ⟨v, h1, h2, h3⟩ => ⟨v, h1, h2.lower hW.size, h3⟩))
  have HB := Lib.hid (below_alloc (Below.refl w.heap.size w) (.cells #[.int .i64 2, .int .u64 n, .slice B b.length cb, .int .i64 most] 28))
  have c1 : (w.alloc (.cells #[.int .i64 2, .int .u64 n, .slice B b.length cb, .int .i64 most] 28)).cell? ⟨w.heap.size, 1, none⟩ = some (.int .u64 n) := blk_cell (blk_new w (.cells #[.int .i64 2, .int .u64 n, .slice B b.length cb, .int .i64 most] 28)) 1
  have HV1 : Hid True := Lib.hid trivial
  have HV2 : Hid True := Lib.hid trivial
  clear hc hx hn hl
  go_enter Try.func12, Try.ntmps12
  go_wp2_with fail
  go_region_with (first
    | (go_at_call 40; go_must (refine (T1.out _ (by first | exact HB.out | exact below_drew HB.out | exact pw_below_drewN HB.out _)).mono ?_; rintro e w5 ⟨v1, rfl, ho, hb⟩; have c1 := keep1 hb c1; have H2 := Lib.hid (by first | exact HV2.out.below hb | exact HV2.out); have hB := Lib.hid (below_then (by first | exact HB.out | exact below_drew HB.out | exact pw_below_drewN HB.out _) (by exact HB.out.size) hb); clear hb HB HV1 HV2; have HB := hB; have HV1 := Lib.hid ho; have HV2 := H2; clear hB ho H2))
    | (go_at_call 41; go_must (refine (T2.out _ (by first | exact HB.out | exact below_drew HB.out | exact pw_below_drewN HB.out _)).mono ?_; rintro e w5 ⟨v2, rfl, ho, hb⟩; have c1 := keep1 hb c1; have H1 := Lib.hid (by first | exact HV1.out.below hb | exact HV1.out); have hB := Lib.hid (below_then (by first | exact HB.out | exact below_drew HB.out | exact pw_below_drewN HB.out _) (by exact HB.out.size) hb); clear hb HB HV1 HV2; have HB := hB; have HV2 := Lib.hid ho; have HV1 := H1; clear hB ho H1)))
  all_goals
    go_wp2_with fail
    go_ret2
    have e : wr ⟨2, n, b, most⟩ = fx (IntKind.u32.wrap n) 4 := by simp [wr]
    refine ⟨_, _, rfl, .inl ?_, ?_, HB.out⟩
    · rw [e]; exact HV1.out
    · rw [e]; exact Ow.read HV2.out
set_option maxHeartbeats 1600000 in
theorem written3 (A : Option Addr) (c : Nat) (xs : List Int) (B : Option Addr) (cb : Nat) (n : Int) (b : List Int) (most : Int) (w : World) (hc : xs.length ≤ c) (hx : BK.C w A xs.length xs) (hl : xs.length + b.length + 10 ≤ 140737488355328) : Calls Try.prog 12 #[.slice A xs.length c, .agg #[.int .i64 3, .int .u64 n, .slice B b.length cb, .int .i64 most]] w (WrPost w A c xs ⟨3, n, b, most⟩) := by
  have T1 : Hid (∀ W, Below w.heap.size w W → Calls Try.prog 42 #[.slice A xs.length c, .int .u64 n] W fun e w' => ∃ v, e = .returned v ∧ Ow .u8 5 w' w.heap.size v (xs ++ fx n 8) ∧ Below W.heap.size W w') :=
    Lib.hid (fun W hW => (fixed8_calls A c xs n W hc (Kd.C_below hx hW) (by omega)).mono (fun e w' ⟨v, h1, h2, h3⟩ => ⟨v, h1, h2.lower hW.size, h3⟩))
  have T2 : Hid (∀ W, Below w.heap.size w W → Calls Try.prog 41 #[.int .u64 n, .int .i64 8] W fun e w' => ∃ v, e = .returned v ∧ Ow .u8 5 w' w.heap.size v (fx n 8) ∧ Below W.heap.size W w') :=
    Lib.hid (fun W hW => (ref_fixed n 8 W (by decide)).mono (fun e w' ⟨v, h1, h2, h3⟩ => ⟨v, h1, h2.lower hW.size, h3⟩))
  have HB := Lib.hid (below_alloc (Below.refl w.heap.size w) (.cells #[.int .i64 3, .int .u64 n, .slice B b.length cb, .int .i64 most] 28))
  have c1 : (w.alloc (.cells #[.int .i64 3, .int .u64 n, .slice B b.length cb, .int .i64 most] 28)).cell? ⟨w.heap.size, 1, none⟩ = some (.int .u64 n) := blk_cell (blk_new w (.cells #[.int .i64 3, .int .u64 n, .slice B b.length cb, .int .i64 most] 28)) 1
  have HV1 : Hid True := Lib.hid trivial
  have HV2 : Hid True := Lib.hid trivial
  clear hc hx hl
  go_enter Try.func12, Try.ntmps12
  go_wp2_with fail
  go_region_with (first
    | (go_at_call 42; go_must (refine (T1.out _ (by first | exact HB.out | exact below_drew HB.out | exact pw_below_drewN HB.out _)).mono ?_; rintro e w5 ⟨v1, rfl, ho, hb⟩; have c1 := keep1 hb c1; have H2 := Lib.hid (by first | exact HV2.out.below hb | exact HV2.out); have hB := Lib.hid (below_then (by first | exact HB.out | exact below_drew HB.out | exact pw_below_drewN HB.out _) (by exact HB.out.size) hb); clear hb HB HV1 HV2; have HB := hB; have HV1 := Lib.hid ho; have HV2 := H2; clear hB ho H2))
    | (go_at_call 41; go_must (refine (T2.out _ (by first | exact HB.out | exact below_drew HB.out | exact pw_below_drewN HB.out _)).mono ?_; rintro e w5 ⟨v2, rfl, ho, hb⟩; have c1 := keep1 hb c1; have H1 := Lib.hid (by first | exact HV1.out.below hb | exact HV1.out); have hB := Lib.hid (below_then (by first | exact HB.out | exact below_drew HB.out | exact pw_below_drewN HB.out _) (by exact HB.out.size) hb); clear hb HB HV1 HV2; have HB := hB; have HV2 := Lib.hid ho; have HV1 := H1; clear hB ho H1)))
  all_goals
    go_wp2_with fail
    go_ret2
    have e : wr ⟨3, n, b, most⟩ = fx n 8 := by simp [wr]
    refine ⟨_, _, rfl, .inl ?_, ?_, HB.out⟩
    · rw [e]; exact HV1.out
    · rw [e]; exact Ow.read HV2.out
set_option maxHeartbeats 1600000 in
theorem written6 (A : Option Addr) (c : Nat) (xs : List Int) (B : Option Addr) (cb : Nat) (n : Int) (b : List Int) (most : Int) (w : World) (hc : xs.length ≤ c) (hx : BK.C w A xs.length xs) (hy : BK.C w B b.length b) (hl : xs.length + b.length + 10 ≤ 140737488355328) : Calls Try.prog 12 #[.slice A xs.length c, .agg #[.int .i64 6, .int .u64 n, .slice B b.length cb, .int .i64 most]] w (WrPost w A c xs ⟨6, n, b, most⟩) := by
  have T1 : Hid (∀ W B' d, Below w.heap.size w W → BK.C W B' b.length b → Calls Try.prog 43 #[.slice A xs.length c, .slice B' b.length d] W fun e w' => ∃ v, e = .returned v ∧ Ow .u8 5 w' w.heap.size v (xs ++ (uv b.length ++ b)) ∧ Below W.heap.size W w') :=
    Lib.hid (fun W B' d hW hB' => (bytes_calls A c xs B' b.length d b W hc (Kd.C_below hx hW) hB' (by omega)).mono (fun e w' ⟨v, h1, h2, h3⟩ => ⟨v, h1, by rw [← List.append_assoc]; exact h2.lower hW.size, h3⟩))
  have T2 : Hid (∀ W, Below w.heap.size w W → Calls Try.prog 44 #[.slice B b.length cb] W fun e w' => ∃ v, e = .returned v ∧ Ow .u8 5 w' w.heap.size v (uv b.length ++ b) ∧ Below W.heap.size W w') :=
    Lib.hid (fun W hW => (ref_bytes B b.length cb b W (Kd.C_below hy hW) (by omega)).mono (fun e w' ⟨v, h1, h2, h3⟩ => ⟨v, h1, h2.lower hW.size, h3⟩))
  have HB := Lib.hid (below_alloc (Below.refl w.heap.size w) (.cells #[.int .i64 6, .int .u64 n, .slice B b.length cb, .int .i64 most] 28))
  have c1 : (w.alloc (.cells #[.int .i64 6, .int .u64 n, .slice B b.length cb, .int .i64 most] 28)).cell? ⟨w.heap.size, 2, none⟩ = some (.slice B b.length cb) := blk_cell (blk_new w (.cells #[.int .i64 6, .int .u64 n, .slice B b.length cb, .int .i64 most] 28)) 2
  have HV1 : Hid True := Lib.hid trivial
  have HV2 : Hid True := Lib.hid trivial
  have HV3 : Hid True := Lib.hid trivial
  have HD := Lib.hid hy
  have HL : Hid (b.length ≤ 140737488355328) := Lib.hid (by omega)
  clear hc hx hl hy
  go_enter Try.func12, Try.ntmps12
  go_wp2_with fail
  go_region_law (first
    | (refine own_append_step (by rfl) _ _ (by rfl) B cb b (by rfl) (by rfl) (by exact Kd.C_below HD.out (by first | exact HB.out | exact below_drew HB.out | exact pw_below_drewN HB.out _)) (by exact HL.out) ?_; go_must (intro B' d w5 hC hb; have c1 := keep1 hb c1; have H2 := Lib.hid (by first | exact HV2.out.below hb | exact HV2.out); have hB := Lib.hid (below_then (by first | exact HB.out | exact below_drew HB.out | exact pw_below_drewN HB.out _) (by exact HB.out.size) hb); clear hb HB HV3 HV2; have HB := hB; have HV3 := Lib.hid hC; have HV2 := H2; clear hB hC H2))
    | (go_simp; go_wp2_with (first | (go_at_call 43; go_must (refine (T1.out _ _ _ (by first | exact HB.out | exact below_drew HB.out | exact pw_below_drewN HB.out _) (by exact HV3.out)).mono ?_; rintro e w5 ⟨v1, rfl, ho, hb⟩; have c1 := keep1 hb c1; have H2 := Lib.hid (by first | exact HV2.out.below hb | exact HV2.out); have hB := Lib.hid (below_then (by first | exact HB.out | exact below_drew HB.out | exact pw_below_drewN HB.out _) (by exact HB.out.size) hb); clear hb HB HV1 HV2; have HB := hB; have HV1 := Lib.hid ho; have HV2 := H2; clear hB ho H2)) | (go_at_call 44; go_must (refine (T2.out _ (by first | exact HB.out | exact below_drew HB.out | exact pw_below_drewN HB.out _)).mono ?_; rintro e w5 ⟨v2, rfl, ho, hb⟩; have c1 := keep1 hb c1; have H1 := Lib.hid (by first | exact HV1.out.below hb | exact HV1.out); have H3 := Lib.hid (by first | exact Kd.C_below HV3.out hb | exact HV3.out); have hB := Lib.hid (below_then (by first | exact HB.out | exact below_drew HB.out | exact pw_below_drewN HB.out _) (by exact HB.out.size) hb); clear hb HB HV1 HV2 HV3; have HB := hB; have HV2 := Lib.hid ho; have HV1 := H1; have HV3 := H3; clear hB ho H1 H3)))))
  all_goals
    go_wp2_with fail
    go_ret2
    have e : wr ⟨6, n, b, most⟩ = uv b.length ++ b := by simp [wr]
    refine ⟨_, _, rfl, .inl ?_, ?_, HB.out⟩
    · rw [e]; exact HV1.out
    · rw [e]; exact Ow.read HV2.out
theorem written_no (A : Option Addr) (c : Nat) (xs : List Int) (B : Option Addr) (cb : Nat) (n : Int) (b : List Int) (most : Int) (w : World) (act : Int) (h0 : (act == 0) = false) (h1 : (act == 1) = false) (h2 : (act == 2) = false) (h3 : (act == 3) = false) (h6 : (act == 6) = false) : Calls Try.prog 12 #[.slice A xs.length c, .agg #[.int .i64 act, .int .u64 n, .slice B b.length cb, .int .i64 most]] w (WrPost w A c xs ⟨act, n, b, most⟩) := by
  have e : wr ⟨act, n, b, most⟩ = [] := by simp only [beq_eq_false_iff_ne] at h0 h1 h2 h3 h6; simp [wr, h0, h1, h2, h3, h6]
  have HB := Lib.hid (below_alloc (Below.refl w.heap.size w) (.cells #[.int .i64 act, .int .u64 n, .slice B b.length cb, .int .i64 most] 28))
  have HE := Lib.hid e
  clear e
  go_enter Try.func12, Try.ntmps12
  go_wp2_with fail
  go_ret2
  refine ⟨_, _, rfl, .inr ⟨rfl, HE.out⟩, ?_, HB.out⟩
  rw [HE.out]
  exact ⟨none, 0, rfl, Nat.le_refl _, Kd.C_nil _ _⟩
end Go.Proofs.Ytdogkhbfpbdfpaa.WireL
