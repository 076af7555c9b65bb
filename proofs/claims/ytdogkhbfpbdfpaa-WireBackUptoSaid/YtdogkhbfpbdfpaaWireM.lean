import Derived.Test.YtdogkhbfpbdfpaaWireL
/- WireWrites. -/
namespace Go.Proofs.Ytdogkhbfpbdfpaa.WireM
open Go.RowKit Go.Proofs.YtdogkhbfpbdfpaaW.PrintWords Opns Mem WireP WireW WireV WireK WireL
theorem written_calls (A : Option Addr) (c : Nat) (xs : List Int) (B : Option Addr) (cb : Nat) (x : It) (w : World) (hc : xs.length ≤ c) (hx : BK.C w A xs.length xs) (hy : BK.C w B x.b.length x.b)
    (hn : 0 ≤ x.n ∧ x.n < 18446744073709551616) (hl : xs.length + x.b.length + 10 ≤ 140737488355328) :
    Calls Try.prog 12 #[.slice A xs.length c, .agg #[.int .i64 x.act, .int .u64 x.n, .slice B x.b.length cb, .int .i64 x.most]] w (WrPost w A c xs x) := by
  obtain ⟨act, n, b, most⟩ := x
  cases h0 : act == 0
  · cases h1 : act == 1
    · cases h2 : act == 2
      · cases h3 : act == 3
        · cases h6 : act == 6
          · exact written_no A c xs B cb n b most w act h0 h1 h2 h3 h6
          · obtain rfl := eq_of_beq h6
            exact written6 A c xs B cb n b most w hc hx hy hl
        · obtain rfl := eq_of_beq h3
          exact written3 A c xs B cb n b most w hc hx hl
      · obtain rfl := eq_of_beq h2
        exact written2 A c xs B cb n b most w hc hx hn hl
    · obtain rfl := eq_of_beq h1
      exact written1 A c xs B cb n b most w hc hx hl
  · obtain rfl := eq_of_beq h0
    exact written0 A c xs B cb n b most w hc hx hn hl
theorem wr_len (x : It) (hn : 0 ≤ x.n ∧ x.n < 18446744073709551616) (hb : x.b.length < 18446744073709551616) : (wr x).length ≤ x.b.length + 10 := by
  unfold wr
  have h1 := uv_len10 (n := x.n.toNat) (by omega)
  have h2 := uv_len10 (zig_lt (n := IntKind.i64.wrap x.n) (by rw [Go.IntKind.wrap_i64]; omega))
  have h3 := uv_len10 (n := x.b.length) hb
  split
  · omega
  · split
    · omega
    · split
      · rw [fx_len]; omega
      · split
        · rw [fx_len]; omega
        · split
          · rw [List.length_append]; omega
          · simp
/-- What stands there behind the first k. -/
def Z (hd : List Int) (l : List It) (k : Nat) : List Int := hd ++ (l.take k).flatMap wr
theorem Z_succ {hd : List Int} {l : List It} {k : Nat} {x : It} (h : l[k]? = some x) : Z hd l (k + 1) = Z hd l k ++ wr x := by
  unfold Z
  rw [List.take_add_one, h]
  simp
def tot (l : List It) : Nat := (l.map fun x => x.b.length + 10).sum
theorem tot_get {l : List It} {k : Nat} {x : It} (h : l[k]? = some x) : x.b.length + 10 ≤ tot l := by
  induction l generalizing k with
  | nil => simp at h
  | cons y l ih =>
    cases k with
    | zero => simp at h; subst h; simp [tot]
    | succ k => have := ih (by simpa using h); simp [tot] at *; omega
theorem fm_len (l : List It) (hn : ∀ x ∈ l, 0 ≤ x.n ∧ x.n < 18446744073709551616) (hb : tot l < 18446744073709551616) : (l.flatMap wr).length ≤ tot l := by
  induction l with
  | nil => simp [tot]
  | cons y l ih =>
    have e : tot (y :: l) = y.b.length + 10 + tot l := by simp [tot]
    have := ih (fun x hx => hn x (List.mem_cons_of_mem _ hx)) (by omega)
    have := wr_len y (hn y List.mem_cons_self) (by omega)
    rw [List.flatMap_cons, List.length_append]; omega
theorem tot_take (l : List It) (k : Nat) : tot (l.take k) ≤ tot l := by
  induction l generalizing k with
  | nil => simp
  | cons y l ih =>
    cases k with
    | zero => simp [tot]
    | succ k => have := ih k; simp [tot] at *; omega
theorem Z_len {hd : List Int} {l : List It} (k : Nat) (hn : ∀ x ∈ l, 0 ≤ x.n ∧ x.n < 18446744073709551616) (hb : tot l < 18446744073709551616) : (Z hd l k).length ≤ hd.length + tot l := by
  have := fm_len (l.take k) (fun x hx => hn x (List.mem_of_mem_take hx)) (by have := tot_take l k; omega)
  have := tot_take l k
  rw [Z, List.length_append]; omega
/-- A step's keeping. -/
theorem wr_step {base : Nat} {W w1 : World} {A : Option Addr} {c : Nat} {vw v1 : Value} {zs : List Int} {xs : List Int} {x : It} (hbase : base ≤ W.heap.size) (hb : Below W.heap.size W w1)
    (h1 : BK.R 5 W base (fun k => True ∧ some k ≠ vw.ownBlock) (.slice A xs.length c) xs) (h2 : BK.R 5 W base (fun _ => True) vw zs)
    (hp : Ow .u8 5 w1 W.heap.size v1 (xs ++ wr x) ∨ (v1 = .slice A xs.length c ∧ wr x = [])) : BK.R 5 w1 base (fun k => True ∧ some k ≠ vw.ownBlock) v1 (xs ++ wr x) := by
  rcases hp with hp | ⟨rfl, hp⟩
  · exact Kd.R_lower (Kd.R_new' hp (Kd.R_lt h2)) hbase
  · rw [hp, List.append_nil]
    exact Kd.R_below h1 hb
section
variable {ops : Array Oper} {rest : List Oper} {o : Oper} {a : Act} {Q : Exit → Act → World → Prop}
/-- append(v, ys...), and another row u stays. -/
theorem want_append {w0 W : World} (base : Nat) (hgd : o.guard = none) (s x : Operand) (ho : o.op = .call { callee := .builtin .append, args := #[s, x], argTypes := #[22, 22] })
    (v : Value) (zs ys : List Int) (A : Option Addr) (m c : Nat) (u : Value) (xs : List Int) (hs : a.eval s = v) (hx : a.eval x = .slice A m c) (HO : BK.R 5 W base (fun _ => True) v zs) (HR : BK.C W A m ys)
    (HU : BK.R 5 W base (fun k => True ∧ some k ≠ v.ownBlock) u xs) (HB : Below base w0 W) (hbase : base ≤ W.heap.size) (hl : zs.length + m ≤ 140737488355328)
    (h : ∀ v1 w1, BK.R 5 w1 base (fun _ => True) v1 (zs ++ ys) → BK.R 5 w1 base (fun k => True ∧ some k ≠ v1.ownBlock) u xs → Below base w0 w1 → wpList Try.prog ops Q rest (a.put o.dst v1) w1) : wpList Try.prog ops Q (o :: rest) a W :=
  Kd.R_append_rows BK (w0 := w0) base hgd s x 22 5 (.int .u8 0) 1 ho Try.underlying22 info5 rfl (by decide) (by decide) v zs ys A m c (fun _ => True) (fun _ => False) hs hx HO HR
    (fun y cs hk => hk) (fun _ hk => hk.elim) (fun _ _ => trivial) HB hbase (by omega) (fun v1 w1 h1 h2 h3 h4 => h v1 w1 h1 (Kd.R_after HU h3 h4) h2)
end
set_option maxHeartbeats 1600000 in
theorem lawWrites (A : Option Addr) (c : Nat) (hd : List Int) (B : Option Addr) (cb : Nat) (l : List It) (w : World) (hc : BK.C w A hd.length hd) (hl : kI.C w B l.length l)
    (hn : ∀ x ∈ l, 0 ≤ x.n ∧ x.n < 18446744073709551616) (hs : hd.length + tot l ≤ 70368744177664) :
    Calls Try.prog 3 #[.slice A hd.length c, .slice B l.length cb] w fun e w' => e = .returned (.bool true) ∧ Below w.heap.size w w' := by
  have HC := Lib.hid hc
  have HD := Lib.hid hl
  have HN := Lib.hid hn
  have HS := Lib.hid hs
  have hll : l.length ≤ 9223372036854775807 := hl.2.1
  have HB := Lib.hid (Below.refl w.heap.size w)
  clear hc hl hn hs
  go_enter Try.func3, Try.ntmps3
  go_wp2_with (at_builtin; first
    | (have := HB1.out; go_must (refine want_append (w0 := w) w.heap.size rfl _ _ rfl _ [] hd _ _ _ _ hd rfl rfl (by exact ow0 _ _) (by exact Kd.C_below HC.out HB1.out) (by exact Kd.R_apart_nil HO1.out) (by exact HB1.out) (by exact HB1.out.size) ?hl ?_; (case hl => have := HS.out; simp; omega)); intro v2 w2 ho hu hb; rw [List.nil_append] at ho; have HV := Lib.hid ho; have HW := Lib.hid hu; have HB2 := Lib.hid hb; clear ho hu hb HO1 HB1)
    | (go_must (refine want_append (w0 := w) w.heap.size rfl _ _ rfl _ [] hd _ _ _ (.slice none 0 0) [] rfl rfl (by exact ow0 _ _) (by exact HC.out) (by exact Kd.R_nil _ _ _ _ _) (by exact HB.out) (by exact HB.out.size) ?hl ?_; (case hl => have := HS.out; simp; omega)); intro v1 w1 ho hu hb; rw [List.nil_append] at ho; have HO1 := Lib.hid ho; have HB1 := Lib.hid hb; clear ho hb hu))
  go_loopw [5, 6, 7] (fun b want i' wr => ∃ (k : Nat) (zs : List Int), i' = .int .i64 k ∧ Hid (BK.R 5 wr w.heap.size (fun k => True ∧ some k ≠ want.ownBlock) b zs) ∧ Hid (BK.R 5 wr w.heap.size (fun _ => True) want zs) ∧ Hid (zs = Z hd l k ∧ k ≤ l.length) ∧ Hid (Below w.heap.size w wr)) (fun _ _ i' _ => (l.length - intOf i').toNat)
  case atStart => exact ⟨0, hd, rfl, HW, HV, Lib.hid ⟨by simp [Z], by omega⟩, HB2⟩
  case round =>
    obtain ⟨k, zs, rfl, HW, HV, HZ, HB⟩ := hrel
    by_cases h : k < l.length
    · have h1 : decide (k < l.length) = true := decide_eq_true h
      have i0 : (0 : Int) ≤ k := by omega
      obtain ⟨ad, x, C, d, hx, hA, c0, c1, c2, c3, hle, hC⟩ := at_I (Kd.C_below HD.out HB.out) k h
      subst hA
      have hlz : zs.length + tot l ≤ 140737488355328 := by
        have := Z_len (hd := hd) k HN.out (by have := HS.out; omega)
        have := HZ.out.1
        have := HS.out
        subst zs
        omega
      have hxt := tot_get hx
      have hxn := HN.out x (List.mem_of_getElem? hx)
      have hwl := wr_len x hxn (by omega)
      have HX := Lib.hid hx
      have HY := Lib.hid hC
      have HL := Lib.hid hlz
      have HN2 := Lib.hid hxn
      have HXT := Lib.hid hxt
      have HWL := Lib.hid hwl
      obtain ⟨A5, c5, rfl, hc5, hC5⟩ := Kd.R_reads HW.out
      have HC5 := Lib.hid hC5
      clear hx hC hlz hxn hxt hwl hC5 hle HC
      go_wp2_with fail
      refine (written_calls A5 c5 zs C d x wr hc5 HC5.out HY.out HN2.out (by have := HL.out; have := HXT.out; omega)).mono ?_
      rintro e w3 ⟨v1, v2, rfl, hp, ⟨B2, d2, rfl, hd2, hC2⟩, hb⟩
      have HW1 := Lib.hid (wr_step HB.out.size hb HW.out HV.out hp)
      have HV1 := Lib.hid (Kd.R_below HV.out hb)
      have HB3 := Lib.hid (below_then HB.out HB.out.size hb)
      have HC2 := Lib.hid hC2
      clear hp hb hC2 hd2 hc5 c0 c1 c2 c3 HW HV HB HC5 HY
      go_wp2_with (at_builtin; go_must (refine want_append (w0 := w) w.heap.size rfl _ _ rfl _ _ _ _ _ _ _ _ rfl rfl (by exact HV1.out) (by exact HC2.out) (by exact HW1.out) (by exact HB3.out) (by exact HB3.out.size) ?hl ?_; (case hl => have := HL.out; have := HXT.out; have := HWL.out; omega)); intro v3 w4 ho hu hb; have HV2 := Lib.hid ho; have HW2 := Lib.hid hu; have HB4 := Lib.hid hb; clear ho hu hb HV1 HW1 HB3)
      obtain ⟨ys, hys⟩ : ∃ ys, ys = zs ++ WireL.wr x := ⟨_, rfl⟩
      rw [← hys] at HW2 HV2
      have HYS := Lib.hid hys
      clear hys
      obtain ⟨A6, c6, rfl, _, hC6⟩ := Kd.R_reads HW2.out
      obtain ⟨A7, c7, rfl, _, hC7⟩ := Kd.R_reads HV2.out
      refine (same_calls A6 A7 _ c6 c7 _ w4 hC6 hC7).mono ?_
      rintro e w5 ⟨rfl, hb⟩
      have HW3 := Lib.hid (Kd.R_below HW2.out hb)
      have HV3 := Lib.hid (Kd.R_below HV2.out hb)
      have HB5 := Lib.hid (below_then HB4.out HB4.out.size hb)
      clear hb hC6 hC7 HW2 HV2 HB4
      go_wp2_with fail
      go_roundw
      case rel =>
        refine ⟨k + 1, _, ?_, HW3, HV3, Lib.hid ⟨?_, by omega⟩, HB5⟩
        · rw [show ((k : Int) + 1) = ((k + 1 : Nat) : Int) by omega]
        · rw [Z_succ HX.out, ← HZ.out.1, ← HYS.out]
      case measure => simp only [intOf]; omega
    · have h1 : decide (k < l.length) = false := decide_eq_false h
      clear h
      go_wp2_with fail
      refine (awake_calls _).mono ?_
      rintro e w3 ⟨rfl, hb⟩
      have HB5 := Lib.hid (below_then HB.out HB.out.size hb)
      clear hb
      go_wp2_with fail
      go_ret
      exact ⟨rfl, HB5.out⟩
theorem lbulk_bytes (b : List Int) : lbulk (fun _ => 1) b = b.length := by
  induction b with
  | nil => rfl
  | cons y b ih => rw [lbulk_cons, ih, List.length_cons]; omega
theorem tot_bulk (l : List It) : tot l ≤ 2 * lbulk (fun x => 1 + (1 + ((lbulk (fun _ => 1) x.b + 1) + 1)) + 1) l := by
  induction l with
  | nil => simp [tot, lbulk]
  | cons y l ih =>
    rw [lbulk_cons, lbulk_bytes]
    have e : tot (y :: l) = y.b.length + 10 + tot l := by simp [tot]
    rw [e]; omega
theorem wf_u64 {n : Int} (h : (Lit.int .u64 n).wf = true) : 0 ≤ n ∧ n < 18446744073709551616 := by
  simp [Lit.wf, IntKind.min, IntKind.max, IntKind.signed, IntKind.bits] at h
  omega
theorem walkWrites (A : Option Addr) (c : Nat) (hd : List Int) (B : Option Addr) (cb : Nat) (l : List It) (w : World) (_ : hd.length ≤ c) (hc : BK.C w A hd.length hd) (_ : (∀ x ∈ hd, (Lit.int .u8 x).wf = true) ∧ hd.length * 1 ≤ reachBytes) (hk : lbulk (fun _ => 1) hd + 1 ≤ 1048576)
    (_ : l.length ≤ cb) (hl : kI.C w B l.length l) (hgl : (∀ x ∈ l, goodI x) ∧ l.length * 48 ≤ reachBytes) (hb : lbulk (fun x => 1 + (1 + ((lbulk (fun _ => 1) x.b + 1) + 1)) + 1) l + 1 ≤ 1048576) :
    Calls Try.prog 3 #[.slice A hd.length c, .slice B l.length cb] w fun e w' => e = .returned (.bool true) ∧ Below w.heap.size w w' := by
  refine lawWrites A c hd B cb l w hc hl (fun x hx => wf_u64 (hgl.1 x hx).2.1) ?_
  have h1 := tot_bulk l
  rw [lbulk_bytes] at hk
  omega
end Go.Proofs.Ytdogkhbfpbdfpaa.WireM
