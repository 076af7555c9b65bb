import Derived.Test.YtdogkhbfpbdfpaaWireV
import Derived.WalkLawsBesides
import Derived.BigQuiet
import Derived.Lib.LazyBuf
import Derived.Great.Walk
/- What a reader does. -/
namespace Go.Proofs.Ytdogkhbfpbdfpaa.WireR
open Go.RowKit Go.Proofs.YtdogkhbfpbdfpaaW.PrintWords Mem WireP WireW WireV
/-- A reader: its bytes, how far it is, what was wrong. -/
def IsRd (w : World) (base p : Nat) (xs : List Int) (a : Nat) (e : Int) : Prop :=
  ∃ A c, BK.R 5 w base (fun k => k ≠ p) (.slice A xs.length c) xs ∧ w.heap[p]? = some (.cells #[.slice A xs.length c, .int .i64 a, .int .i64 e] 72 (0, 0)) ∧ base ≤ p ∧ a ≤ xs.length
theorem IsRd.grown {w w1 : World} {base p : Nat} {xs : List Int} {a : Nat} {e : Int} (h : IsRd w base p xs a e) (hb : Below w.heap.size w w1) : IsRd w1 base p xs a e := by
  obtain ⟨A, c, h1, h2, h3, h4⟩ := h
  exact ⟨A, c, Kd.R_below h1 hb, blk_below h2 hb, h3, h4⟩
theorem IsRd.lower {w : World} {base base' p : Nat} {xs : List Int} {a : Nat} {e : Int} (h : IsRd w base p xs a e) (hb : base' ≤ base) : IsRd w base' p xs a e := by
  obtain ⟨A, c, h1, h2, h3, h4⟩ := h
  exact ⟨A, c, Kd.R_lower h1 hb, h2, Nat.le_trans hb h3, h4⟩
theorem grown_set (w : World) (p j : Nat) (u : Value) : w.grownBy (w.setCell ⟨p, j, none⟩ u) (some p) := by
  have e := setCells_same p [u] j w
  simp only [World.setCells] at e
  exact ⟨e.1, e.2.1, e.2.2.1, by rw [e.2.2.2]; exact Nat.le_refl _, fun k _ hk => Below.heap_setCell w _ _ _ (fun h => hk (by rw [h]))⟩
theorem IsRd.set1 {w : World} {base p : Nat} {xs : List Int} {a : Nat} {e : Int} (h : IsRd w base p xs a e) (a' : Nat) (ha : a' ≤ xs.length) : IsRd (w.setCell ⟨p, 1, none⟩ (.int .i64 a')) base p xs a' e := by
  obtain ⟨A, c, h1, h2, h3, h4⟩ := h
  exact ⟨A, c, Kd.R_far h1 (fun k hk => hk) _, blk_put h2 1 _ rfl, h3, ha⟩
theorem IsRd.set2 {w : World} {base p : Nat} {xs : List Int} {a : Nat} {e : Int} (h : IsRd w base p xs a e) (e' : Int) : IsRd (w.setCell ⟨p, 2, none⟩ (.int .i64 e')) base p xs a e' := by
  obtain ⟨A, c, h1, h2, h3, h4⟩ := h
  exact ⟨A, c, Kd.R_far h1 (fun k hk => hk) _, blk_put h2 2 _ rfl, h3, h4⟩
theorem IsRd.lt {w : World} {base p : Nat} {xs : List Int} {a : Nat} {e : Int} (h : IsRd w base p xs a e) : p < w.heap.size := by
  obtain ⟨A, c, h1, h2, h3, h4⟩ := h
  exact blk_lt h2
theorem IsRd.cells {w : World} {base p : Nat} {xs : List Int} {a : Nat} {e : Int} (h : IsRd w base p xs a e) : ∃ A c, xs.length ≤ c ∧ BK.C w A xs.length xs ∧ w.cell? ⟨p, 0, none⟩ = some (.slice A xs.length c) ∧ w.cell? ⟨p, 1, none⟩ = some (.int .i64 a) ∧ w.cell? ⟨p, 2, none⟩ = some (.int .i64 e) ∧ (∀ j, w.frozen? ⟨p, j, none⟩ = false) := by
  obtain ⟨A, c, h1, h2, h3, h4⟩ := h
  obtain ⟨_, hc, hC⟩ := Kd.R_reads' h1
  exact ⟨A, c, hc, hC, blk_cell h2 0, blk_cell h2 1, blk_cell h2 2, blk_frozen h2⟩
theorem clone_calls (A : Option Addr) (c : Nat) (xs : List Int) (w : World) (_ : xs.length ≤ c) (hx : BK.C w A xs.length xs) (hl : xs.length ≤ 140737488355328) :
    Calls Try.prog 46 #[.slice A xs.length c] w fun e w' => ∃ v, e = .returned v ∧ Ow .u8 5 w' w.heap.size v xs ∧ Below w.heap.size w w' := by
  have hq := fun W n c => Go.run_eql_slice_nil (P := Try.prog) W 22 5 A n c Try.underlying22
  cases A with
  | none =>
    have e : xs = [] := by
      rcases Nat.eq_zero_or_pos xs.length with h0 | h0
      · exact List.eq_nil_of_length_eq_zero h0
      · obtain ⟨ad, h, _⟩ := hx.2.2 h0
        cases h
    subst e
    clear hx hl
    go_enter Try.func46, Try.ntmps46
    go_wp2
    go_ret
    exact ⟨_, rfl, ow0 _ _, Below.refl _ _⟩
  | some ad =>
    have HC := Lib.hid hx
    have HL := Lib.hid hl
    have HB := Lib.hid (below_alloc (Below.refl w.heap.size w) (.cells #[] 5))
    have HO : Hid (BK.R 5 (w.alloc (.cells #[] 5)) w.heap.size (fun _ => True) (.slice (some ⟨w.heap.size, 0, none⟩) 0 0) []) := Lib.hid ⟨fun _ _ => trivial, OwnRow.lit w w.heap.size (ps := []) (inner := []) (Reps.none _ _) (Nat.le_refl _) (Nat.zero_le _)⟩
    clear hx hl
    go_enter Try.func46, Try.ntmps46
    go_wp2_with (at_builtin; go_must (refine Kd.R_append_rows BK (w0 := w) w.heap.size rfl _ _ 22 5 (.int .u8 0) 1 rfl Try.underlying22 info5 rfl (by decide) (by decide) _ [] xs _ _ _ (fun _ => True) (fun _ => False) rfl rfl (by exact HO.out) (by exact Kd.C_alloc HC.out _) (fun y cs hk => hk) (fun _ hk => hk.elim) (fun _ _ => trivial) (by exact HB.out) (by exact HB.out.size) ?hl ?_; (case hl => have := HL.out; simp; omega)); intro v1 w2 ho hb hg hg2; rw [List.nil_append] at ho; clear HB hg hg2 HO; have HO := Lib.hid ho; have HB := Lib.hid hb; clear ho hb)
    go_ret
    exact ⟨_, rfl, HO.out, HB.out⟩
theorem read_calls (A : Option Addr) (c : Nat) (xs : List Int) (w : World) (hc : xs.length ≤ c) (hx : BK.C w A xs.length xs) (hl : xs.length ≤ 140737488355328) :
    Calls Try.prog 24 #[.slice A xs.length c] w fun e w' => ∃ p, e = .returned (.pointer (some ⟨p, 0, none⟩)) ∧ IsRd w' w.heap.size p xs 0 0 ∧ Below w.heap.size w w' := by
  go_enter Try.func24, Try.ntmps24
  go_wp2_with fail
  refine (clone_calls A c xs w hc hx hl).mono ?_
  rintro e w1 ⟨v, rfl, ho, hb⟩
  obtain ⟨A1, c1, rfl, hc1, _⟩ := ho.reads
  have HO := Lib.hid ho
  have HB := Lib.hid hb
  clear ho hb hx hc hl hc1
  go_wp2_with fail
  go_ret
  refine ⟨_, rfl, ⟨A1, c1, Kd.R_mono (Kd.R_alloc (Kd.R_bound HO.out) _) (fun k hk => by have := hk.2.2.1; omega), heap_alloc_new _ _, HB.out.size, Nat.zero_le _⟩, below_alloc HB.out _⟩
theorem fine_calls (base p : Nat) (xs : List Int) (a : Nat) (e : Int) (w : World) (h : IsRd w base p xs a e) :
    Calls Try.prog 47 #[.pointer (some ⟨p, 0, none⟩)] w fun r w' => r = .returned (.bool (e == 0)) ∧ w = w' := by
  obtain ⟨A, c, _, _, c0, c1, c2, cf⟩ := h.cells
  clear h
  go_enter Try.func47, Try.ntmps47
  go_wp2
  go_ret
  exact ⟨rfl, rfl⟩
theorem fail_calls (base p : Nat) (xs : List Int) (a : Nat) (e e1 : Int) (w : World) (h : IsRd w base p xs a e) :
    Calls Try.prog 49 #[.pointer (some ⟨p, 0, none⟩), .int .i64 e1] w fun r w' => r = .returned (.tuple #[]) ∧ IsRd w' base p xs a (if e = 0 then e1 else e) ∧ w.grownBy w' (some p) := by
  obtain ⟨A, c, _, _, c0, c1, c2, cf⟩ := h.cells
  have H := Lib.hid h
  clear h
  by_cases he : e = 0
  · subst he
    go_enter Try.func49, Try.ntmps49
    go_wp2
    refine Go.Great.bodyPost_end0 (by kernel_rfl) rfl ?_
    exact ⟨rfl, H.out.set2 _, grown_set _ _ _ _⟩
  · have h1 : (e == 0) = false := beq_eq_false_iff_ne.2 he
    have HE := Lib.hid he
    clear he
    go_enter Try.func49, Try.ntmps49
    go_wp2
    refine Go.Great.bodyPost_end0 (by kernel_rfl) rfl ?_
    exact ⟨rfl, H.out, World.grownBy.refl _ _⟩
theorem err_calls (base p : Nat) (xs : List Int) (a : Nat) (e : Int) (w : World) (h : IsRd w base p xs a e) :
    Calls Try.prog 27 #[.pointer (some ⟨p, 0, none⟩)] w fun r w' => r = .returned (.int .i64 e) ∧ w = w' := by
  obtain ⟨A, c, _, _, c0, c1, c2, cf⟩ := h.cells
  clear h
  go_enter Try.func27, Try.ntmps27
  go_wp2
  go_ret
  exact ⟨rfl, rfl⟩
theorem info5' : ∃ i, Try.prog.info? 5 = some i ∧ i.size = 1 := by
  obtain ⟨i, hi, hz⟩ := Option.map_eq_some_iff.1 info5
  simp only [Prod.mk.injEq] at hz
  exact ⟨i, hi, hz.2.1⟩
theorem cut_bytes (A : Option Addr) (c : Nat) (xs : List Int) (m : Nat) (hm : m ≤ xs.length) (hc : xs.length ≤ c) : ∃ A' : Option Addr, (∀ W : World, (Instr.slice 22 (.slice A xs.length c) (some (.int .i64 (m : Int))) none none).run Try.prog W = .ok (.slice A' (xs.length - m) (c - m)) W) ∧
    ∀ w : World, BK.C w A xs.length xs → BK.C w A' (xs.length - m) (xs.drop m) := by
  obtain ⟨i, hi, hz⟩ := info5'
  obtain ⟨A', h1, h2⟩ := print_cut (P := Try.prog) 22 5 .i64 Try.underlying22 hi hz A xs.length c m hm
  exact ⟨A', h1, fun w h => Kd.C_of_reads (d := (0 : Int)) (h2 w .u8 xs hc (Kd.reads_of_C h))⟩
theorem at_B {w : World} {A : Option Addr} {n : Nat} {xs : List Int} (h : BK.C w A n xs) (i : Nat) (h1 : i < n) : ∃ ad x, xs[i]? = some x ∧ A = some ad ∧ w.cell? (ad.add i) = some (.int .u8 x) := by
  have hr : ReadsOf (Value.int .u8) (0 : Int) w A n xs := Kd.reads_of_C h
  obtain ⟨ad, e, hcell⟩ := hr.2.2 (by omega)
  have hl : i < xs.length := by have := hr.1; omega
  have := hcell i h1
  rw [List.getD_eq_getElem?_getD, List.getElem?_eq_getElem hl] at this
  exact ⟨ad, _, List.getElem?_eq_getElem hl, e, this⟩
theorem and127' : ∀ k : Fin 256, Go.bits .and .u8 ((k.1 : Nat) : Int) 127 = ((k.1 % 128 : Nat) : Int) := by decide +kernel
theorem pow7 (k : Nat) : (2 : Nat) ^ (7 * k) = 128 ^ k := by rw [Nat.pow_mul]
theorem digit {k y acc : Nat} {x : Int} (hk : k ≤ 8 ∨ (k = 9 ∧ y ≤ 1)) (hy : y < 256) (hx : x = (y : Int)) (ha : acc < 128 ^ k) :
    ∃ (z : Int) (s : Nat), Op.shift .shl .u64 (IntKind.u64.wrap (Go.bits .and .u8 x 127)) .i64 (wrap64 (7 * (k : Int))) = pure (.int .u64 z) ∧ Go.bits .or .u64 (acc : Int) z = (s : Int) ∧ s = acc + (y % 128) * 128 ^ k := by
  subst hx
  have e1 := and127' ⟨y, hy⟩
  simp only at e1
  have hb : (y % 128) * 128 ^ k < 18446744073709551616 := by
    rcases hk with hk | ⟨rfl, hy1⟩
    · have h6 : 128 ^ k ≤ 128 ^ 8 := Nat.pow_le_pow_right (by omega) hk
      have h7 : y % 128 * 128 ^ k ≤ 127 * 128 ^ 8 := Nat.mul_le_mul (by omega) h6
      exact Nat.lt_of_le_of_lt h7 (by decide +kernel)
    · have h7 : y % 128 * 128 ^ 9 ≤ 1 * 128 ^ 9 := Nat.mul_le_mul_right _ (by omega)
      exact Nat.lt_of_le_of_lt h7 (by decide +kernel)
  have hac : acc < 18446744073709551616 := by
    have h6 : 128 ^ k ≤ 128 ^ 9 := Nat.pow_le_pow_right (by omega) (by omega)
    exact Nat.lt_of_lt_of_le ha (Nat.le_trans h6 (by decide +kernel))
  have e2 : wrap64 (7 * (k : Int)) = ((7 * k : Nat) : Int) := by unfold wrap64; omega
  have e3 : IntKind.u64.wrap (((y % 128 : Nat) : Int)) = ((y % 128 : Nat) : Int) := by rw [Go.IntKind.wrap_u64]; omega
  have e4 : IntKind.u64.wrap (((y % 128 : Nat) : Int) * 2 ^ (7 * k)) = (((y % 128) * 128 ^ k : Nat) : Int) := by
    have : ((y % 128 : Nat) : Int) * 2 ^ (7 * k) = (((y % 128) * 128 ^ k : Nat) : Int) := by
      rw [Int.natCast_mul, ← pow7, Int.natCast_pow]; rfl
    rw [this, Go.IntKind.wrap_u64]
    omega
  refine ⟨(((y % 128) * 128 ^ k : Nat) : Int), acc + (y % 128) * 128 ^ k, ?_, ?_, rfl⟩
  · rw [e1, e3, e2, shift_shl_any _ _ _ _ (by omega), show min ((7 * k : Nat) : Int).toNat (IntKind.u64).bits = 7 * k by simp [IntKind.bits]; omega, e4]
  · rw [bits_or_u64_nat _ _ hac hb]
    congr 1
    have := Nat.two_pow_add_eq_or_of_lt (i := 7 * k) (b := acc) (by rw [pow7]; exact ha) (y % 128)
    rw [pow7] at this
    rw [Nat.or_comm, Nat.mul_comm (y % 128), ← this]
    omega
set_option maxHeartbeats 1600000 in
theorem peek_calls (base p : Nat) (xs : List Int) (a : Nat) (e : Int) (w : World) (h : IsRd w base p xs a e) (hb : ∀ c ∈ xs, 0 ≤ c ∧ c < 256) :
    Calls Try.prog 48 #[.pointer (some ⟨p, 0, none⟩)] w fun r w' => ∃ n k : Nat, r = .returned (.tuple #[.int .u64 n, .int .i64 k]) ∧ PkOk (xs.drop a) n k ∧ Below w.heap.size w w' := by
  obtain ⟨A, c, hc, hC, c0, c1, c2, cf⟩ := h.cells
  have ha : a ≤ xs.length := h.choose_spec.choose_spec.2.2.2
  obtain ⟨A1, hcut, hC1⟩ := cut_bytes A c xs a ha hc
  have hlen : (xs.drop a).length = xs.length - a := List.length_drop ..
  have hC2 := hC1 w hC
  rw [← hlen] at hC2 hcut
  have HC := Lib.hid hC2
  have hyl : (xs.drop a).length ≤ 9223372036854775807 := by have := hC.2.1; omega
  have HX : Hid (∀ c ∈ xs.drop a, 0 ≤ c ∧ c < 256) := Lib.hid (fun c hc => hb c (List.mem_of_mem_drop hc))
  have HB := Lib.hid (Below.refl w.heap.size w)
  clear hC1 hC hC2 hb h hc hlen
  generalize hys : xs.drop a = ys at *
  clear hys
  go_enter Try.func48, Try.ntmps48
  go_wp2_with fail
  go_quiet (fail)
  have HB := Lib.hid (below_drew HB.out)
  go_wp2_with fail
  go_loopw [4, 17] (fun n' i' wr => ∃ k acc : Nat, n' = .int .u64 acc ∧ i' = .int .i64 k ∧ Hid (PkI ys k acc) ∧ Hid (Below w.heap.size w wr)) (fun _ i' _ => (ys.length - intOf i').toNat)
  case atStart => exact ⟨0, 0, rfl, rfl, Lib.hid (pkI_start _), Lib.hid (by first | exact HB.out | exact pw_below_drewN (Below.refl _ _) _)⟩
  case round =>
    obtain ⟨k, acc, rfl, rfl, HI, HB⟩ := hrel
    by_cases h : k < ys.length
    · have h1 : decide (k < ys.length) = true := decide_eq_true h
      have i0 : (0 : Int) ≤ k := by omega
      obtain ⟨ad, x, hx, hA, cx⟩ := at_B (Kd.C_below HC.out HB.out) k h
      subst hA
      have hxr := HX.out x (List.mem_of_getElem? hx)
      obtain ⟨y, hy⟩ := Int.eq_ofNat_of_zero_le hxr.1
      have HY := Lib.hid hx
      have HR := Lib.hid hxr
      have HXY := Lib.hid hy
      clear hx hxr hy
      have n9 : (k == 9) = ((k : Int) == 9) := by rw [Bool.eq_iff_iff, beq_iff_eq, beq_iff_eq]; omega
      have nk : decide (0 < k) = decide ((0 : Int) < k) := by rw [decide_eq_decide]; omega
      cases b9 : ((k : Int) == 9) <;> cases b1 : decide (1 < x) <;> cases bz : (x == 0) <;> cases bk : decide ((0 : Int) < k) <;> cases bl : decide (x < 128)
      all_goals
        rw [b9] at n9
        rw [bk] at nk
        have HF := Lib.hid (And.intro b9 (And.intro b1 (And.intro bz (And.intro bk bl))))
        first
          | (exfalso; simp only [beq_iff_eq, beq_eq_false_iff_ne, decide_eq_true_eq, decide_eq_false_iff_not] at b9 b1 bz bk bl; have := HR.out; have := HI.out.k9; omega)
          | skip
      all_goals
        first
          | (have hbad : k = 9 ∧ 1 < x := by simp only [beq_iff_eq, decide_eq_true_eq] at b9 b1; omega
             have HP := Lib.hid (pkI_big (hbad.1 ▸ HI.out) (hbad.1 ▸ HY.out) hbad.2)
             clear hbad
             go_wp2_with fail
             go_ret2
             exact ⟨0, 0, rfl, HP.out, HB.out⟩)
          | (have hbad : x = 0 ∧ 0 < k := by simp only [beq_iff_eq, decide_eq_true_eq] at bz bk; omega
             have HP := Lib.hid (pkI_zero HI.out (hbad.1 ▸ HY.out) hbad.2)
             clear hbad
             go_wp2_with fail
             go_ret2
             exact ⟨0, 0, rfl, HP.out, HB.out⟩)
          | (have hd : x < 128 ∧ (k = 9 → x ≤ 1) ∧ (x = 0 → k = 0) := by simp only [beq_iff_eq, beq_eq_false_iff_ne, decide_eq_true_eq, decide_eq_false_iff_not] at b9 b1 bz bk bl; omega
             obtain ⟨z, s, hs1, hs2, hs3⟩ := digit (k := k) (y := y) (acc := acc) (x := x) (by have := HI.out.k9; have := HXY.out; omega) (by have := HR.out; have := HXY.out; omega) HXY.out HI.out.lt
             have HP := Lib.hid (pkI_done (c := y) HI.out (by rw [← HXY.out]; exact HY.out) (by have := HXY.out; omega) (by have := HXY.out; omega) (by have := HXY.out; omega))
             have HS := Lib.hid hs3
             have HYS : Hid (y < 128) := Lib.hid (by have := HXY.out; omega)
             clear hd hs3
             go_wp2_with fail
             go_ret2
             refine ⟨s, k + 1, rfl, ?_, HB.out⟩
             rw [HS.out, Nat.mod_eq_of_lt HYS.out]
             exact HP.out)
          | (have hd : 128 ≤ x ∧ k ≤ 8 := by have := HI.out.k9; simp only [beq_iff_eq, beq_eq_false_iff_ne, decide_eq_true_eq, decide_eq_false_iff_not] at b9 b1 bz bk bl; omega
             obtain ⟨z, s, hs1, hs2, hs3⟩ := digit (k := k) (y := y) (acc := acc) (x := x) (by omega) (by have := HR.out; have := HXY.out; omega) HXY.out HI.out.lt
             have HP := Lib.hid (pkI_more (c := y) HI.out hd.2 (by rw [← HXY.out]; exact HY.out) (by have := HXY.out; omega) (by have := HXY.out; have := HR.out; omega))
             have HS := Lib.hid hs3
             clear hd hs3
             go_wp2_with fail
             go_roundw
             case rel =>
               refine ⟨k + 1, s, rfl, ?_, Lib.hid (by rw [HS.out]; exact HP.out), HB⟩
               first | rfl | (rw [show ((k : Int) + 1) = ((k + 1 : Nat) : Int) by omega]) | (rw [show wrap64 ((k : Int) + 1) = ((k + 1 : Nat) : Int) by unfold wrap64; omega])
             case measure => simp only [intOf]; first | omega | (unfold wrap64; omega))
    · have h1 : decide (k < ys.length) = false := decide_eq_false h
      have HP := Lib.hid (pkI_end HI.out (by omega))
      clear h
      go_wp2_with fail
      go_ret2
      exact ⟨0, 0, rfl, HP.out, HB.out⟩
theorem pk_len {ys : List Int} {n k : Nat} (h : PkOk ys n k) : k ≤ ys.length := by
  rcases h with ⟨_, _, h1, h2⟩ | ⟨_, h2, _⟩
  · rw [h2]; exact h1.length_le
  · omega
theorem pk_lt {ys : List Int} {n k : Nat} (h : PkOk ys n k) : n < 18446744073709551616 := by
  rcases h with ⟨_, h1, _⟩ | ⟨h2, _⟩ <;> omega
/-- What reading a number does. -/
def Rd1 (xs : List Int) (a : Nat) (e : Int) (n a' : Nat) (e' : Int) : Prop := (e ≠ 0 ∧ n = 0 ∧ a' = a ∧ e' = e) ∨ (e = 0 ∧ ∃ k, PkOk (xs.drop a) n k ∧ a' = a + k ∧ e' = if k = 0 then 5 else 0)
theorem grown_none {w w1 : World} (hb : Below w.heap.size w w1) (p : Nat) : w.grownBy w1 (some p) := grown_of_below hb _
theorem IsRd.le {w : World} {base p : Nat} {xs : List Int} {a : Nat} {e : Int} (h : IsRd w base p xs a e) : a ≤ xs.length := h.choose_spec.choose_spec.2.2.2
theorem IsRd.small {w : World} {base p : Nat} {xs : List Int} {a : Nat} {e : Int} (h : IsRd w base p xs a e) : xs.length ≤ 9223372036854775807 := by
  obtain ⟨A, c, _, hC, _⟩ := h.cells
  exact hC.2.1
theorem uvarintR_calls (base p : Nat) (xs : List Int) (a : Nat) (e : Int) (w : World) (h : IsRd w base p xs a e) (hb : ∀ c ∈ xs, 0 ≤ c ∧ c < 256) :
    Calls Try.prog 25 #[.pointer (some ⟨p, 0, none⟩)] w fun r w' => ∃ (n a' : Nat) (e' : Int), r = .returned (.int .u64 n) ∧ Rd1 xs a e n a' e' ∧ IsRd w' base p xs a' e' ∧ w.grownBy w' (some p) := by
  have H := Lib.hid h
  have HR := Lib.hid hb
  clear h hb
  by_cases he : e = 0
  · subst he
    go_enter Try.func25, Try.ntmps25
    go_wp2_with fail
    refine (fine_calls base p xs a 0 w H.out).mono ?_
    rintro r w1 ⟨rfl, rfl⟩
    go_wp2_with fail
    refine (peek_calls base p xs a 0 w H.out HR.out).mono ?_
    rintro r w1 ⟨n, k, rfl, hp, hb⟩
    have HP := Lib.hid hp
    have H1 := Lib.hid (H.out.grown hb)
    have HG := Lib.hid (grown_none hb p)
    have HK := Lib.hid (pk_len hp)
    clear hb hp
    by_cases hk : k = 0
    · subst hk
      go_wp2_with fail
      refine (fail_calls base p xs a 0 5 w1 H1.out).mono ?_
      rintro r w2 ⟨rfl, h2, hg⟩
      have H2 := Lib.hid h2
      have HG2 := Lib.hid (World.grownBy.trans HG.out hg)
      obtain ⟨A, c, _, _, c0, c1, c2, cf⟩ := h2.cells
      clear h2 hg
      go_wp2_with fail
      go_ret
      refine ⟨n, a, 5, rfl, .inr ⟨rfl, 0, HP.out, rfl, rfl⟩, ?_, ?_⟩
      · have h5 := H2.out.set1 a H2.out.le
        rwa [show ((a : Nat) : Int) = wrap64 (a : Int) by unfold wrap64; have := H2.out.small; have := H2.out.le; omega] at h5
      · exact World.grownBy.trans HG2.out (grown_set _ _ _ _)
    · have b1 : ((k : Int) == 0) = false := by rw [beq_eq_false_iff_ne]; omega
      have HK0 := Lib.hid hk
      clear hk
      obtain ⟨A, c, _, _, c0, c1, c2, cf⟩ := H1.out.cells
      go_wp2_with fail
      go_ret
      refine ⟨n, a + k, 0, rfl, .inr ⟨rfl, k, HP.out, rfl, by rw [if_neg HK0.out]⟩, ?_, ?_⟩
      · have hk2 := HK.out
        have hle := H1.out.le
        rw [List.length_drop] at hk2
        have h5 := H1.out.set1 (a + k) (by omega)
        rwa [show ((a + k : Nat) : Int) = wrap64 ((a : Int) + k) by unfold wrap64; have := H1.out.small; omega] at h5
      · exact World.grownBy.trans HG.out (grown_set _ _ _ _)
  · have h1 : (e == 0) = false := beq_eq_false_iff_ne.2 he
    have HE := Lib.hid he
    clear he
    go_enter Try.func25, Try.ntmps25
    go_wp2_with fail
    refine (fine_calls base p xs a e w H.out).mono ?_
    rintro r w1 ⟨rfl, rfl⟩
    go_wp2_with fail
    go_ret
    exact ⟨0, a, e, rfl, .inl ⟨HE.out, rfl, rfl, rfl⟩, H.out, World.grownBy.refl _ _⟩
theorem left_calls (base p : Nat) (xs : List Int) (a : Nat) (e : Int) (w : World) (h : IsRd w base p xs a e) :
    Calls Try.prog 26 #[.pointer (some ⟨p, 0, none⟩)] w fun r w' => r = .returned (.int .i64 ((xs.length - a : Nat) : Int)) ∧ Below w.heap.size w w' := by
  obtain ⟨A, c, _, _, c0, c1, c2, cf⟩ := h.cells
  have ha := h.le
  have hs := h.small
  have HB := Lib.hid (Below.refl w.heap.size w)
  obtain ⟨z, hz⟩ : ∃ z : Int, z = ((xs.length - a : Nat) : Int) := ⟨_, rfl⟩
  have e1 : wrap64 z = z := by unfold wrap64; omega
  have e2 : ((xs.length : Int) - a) = z := by omega
  rw [← hz]
  clear h hz ha hs
  go_enter Try.func26, Try.ntmps26
  go_wp2_with fail
  go_quiet (fail)
  go_wp2_with fail
  go_ret
  exact ⟨congrArg (fun y => Ending.returned (Value.int .i64 y)) e1, by first | exact HB.out | exact pw_below_drewN (Below.refl _ _) _⟩
theorem done_calls (base p : Nat) (xs : List Int) (a : Nat) (e : Int) (w : World) (h : IsRd w base p xs a e) :
    Calls Try.prog 34 #[.pointer (some ⟨p, 0, none⟩)] w fun r w' => r = .returned (.int .i64 (if e = 0 then (if a < xs.length then 5 else 0) else e)) ∧ Below w.heap.size w w' := by
  have H := Lib.hid h
  have ha := h.le
  clear h
  by_cases he : e = 0
  · subst he
    rw [if_pos rfl]
    by_cases hl : a < xs.length
    · rw [if_pos hl]
      have h1 : decide ((0 : Int) < ((xs.length - a : Nat) : Int)) = true := decide_eq_true (by omega)
      obtain ⟨z, hz⟩ : ∃ z : Int, z = ((xs.length - a : Nat) : Int) := ⟨_, rfl⟩
      rw [← hz] at h1
      have HZ := Lib.hid hz
      clear hz hl ha
      go_enter Try.func34, Try.ntmps34
      go_wp2_with fail
      refine (err_calls base p xs a 0 w H.out).mono ?_
      rintro r w1 ⟨rfl, rfl⟩
      go_wp2_with fail
      refine (left_calls base p xs a 0 w H.out).mono ?_
      rw [← HZ.out]
      rintro r w1 ⟨rfl, hb⟩
      have HB := Lib.hid hb
      clear hb
      go_wp2_with fail
      go_ret
      exact ⟨rfl, HB.out⟩
    · rw [if_neg hl]
      have hz : xs.length - a = 0 := by omega
      have HZ := Lib.hid hz
      clear hz hl ha
      go_enter Try.func34, Try.ntmps34
      go_wp2_with fail
      refine (err_calls base p xs a 0 w H.out).mono ?_
      rintro r w1 ⟨rfl, rfl⟩
      go_wp2_with fail
      refine (left_calls base p xs a 0 w H.out).mono ?_
      rw [HZ.out]
      rintro r w1 ⟨rfl, hb⟩
      have HB := Lib.hid hb
      clear hb
      go_wp2_with fail
      go_ret
      exact ⟨rfl, HB.out⟩
  · have h1 : (e == 0) = false := beq_eq_false_iff_ne.2 he
    have h2 : (e != 0) = true := by rw [bne_iff_ne]; exact he
    rw [if_neg he]
    clear he ha
    go_enter Try.func34, Try.ntmps34
    go_wp2_with fail
    refine (err_calls base p xs a e w H.out).mono ?_
    rintro r w1 ⟨rfl, rfl⟩
    go_wp2_with fail
    go_ret
    exact ⟨rfl, Below.refl _ _⟩
/-- A number without sign, read as one with. -/
def unzig (n : Nat) : Int := if n % 2 = 0 then (n / 2 : Nat) else -((n / 2 : Nat) : Int) - 1
theorem unzig_zig {n : Int} : unzig (zig n) = n := by
  unfold unzig zig
  split <;> split <;> omega
theorem zig_unzig (n : Nat) : zig (unzig n) = n := by
  unfold unzig zig
  split <;> split <;> omega
theorem unzig_bits {n : Nat} (h : n < 18446744073709551616) : Go.bits .xor .i64 (wrap64 ((n : Int) / 2)) (wrap64 (-wrap64 (Go.bits .and .u64 (n : Int) 1))) = unzig n := by
  have e1 : Go.bits .and .u64 (n : Int) 1 = ((n % 2 : Nat) : Int) := by
    have := bits_and_u64_nat n 1 h (by omega)
    rw [Nat.and_one_is_mod] at this
    exact this
  have e2 : wrap64 ((n : Int) / 2) = ((n / 2 : Nat) : Int) := by unfold wrap64; omega
  rw [e1, e2]
  have hm : n / 2 < 9223372036854775808 := by omega
  unfold unzig
  generalize n / 2 = m at *
  have h2 : (BitVec.ofInt 64 (m : Int)).toNat = m := by
    rw [BitVec.ofInt_natCast, BitVec.toNat_ofNat]; exact Nat.mod_eq_of_lt (by omega)
  split
  · rename_i hz
    rw [hz, show wrap64 (-wrap64 ((0 : Nat) : Int)) = 0 by unfold wrap64; omega]
    show IntKind.i64.wrap ((BitVec.ofInt 64 (m : Int) ^^^ BitVec.ofInt 64 0).toNat : Int) = _
    rw [show BitVec.ofInt 64 0 = 0#64 from rfl, BitVec.xor_zero, h2, Go.IntKind.wrap_i64]
    omega
  · rename_i hz
    rw [show n % 2 = 1 by omega, show wrap64 (-wrap64 ((1 : Nat) : Int)) = -1 by unfold wrap64; omega]
    show IntKind.i64.wrap ((BitVec.ofInt 64 (m : Int) ^^^ BitVec.ofInt 64 (-1)).toNat : Int) = _
    rw [show BitVec.ofInt 64 (-1) = BitVec.allOnes 64 by decide, BitVec.xor_allOnes, BitVec.toNat_not, h2, Go.IntKind.wrap_i64]
    omega
theorem varintR_calls (base p : Nat) (xs : List Int) (a : Nat) (e : Int) (w : World) (h : IsRd w base p xs a e) (hb : ∀ c ∈ xs, 0 ≤ c ∧ c < 256) :
    Calls Try.prog 29 #[.pointer (some ⟨p, 0, none⟩)] w fun r w' => ∃ (n a' : Nat) (e' : Int), r = .returned (.int .i64 (unzig n)) ∧ Rd1 xs a e n a' e' ∧ IsRd w' base p xs a' e' ∧ w.grownBy w' (some p) := by
  have H := Lib.hid h
  have HR := Lib.hid hb
  clear h hb
  go_enter Try.func29, Try.ntmps29
  go_wp2_with fail
  refine (uvarintR_calls base p xs a e w H.out HR.out).mono ?_
  rintro r w1 ⟨n, a', e', rfl, h1, h2, h3⟩
  have H1 := Lib.hid h1
  have H2 := Lib.hid h2
  have H3 := Lib.hid h3
  clear h1 h2 h3
  go_wp2_with fail
  go_ret
  have hn : n < 18446744073709551616 := by
    rcases H1.out with ⟨_, h, _⟩ | ⟨_, k, h, _⟩
    · omega
    · exact pk_lt h
  refine ⟨n, a', e', ?_, H1.out, H2.out, H3.out⟩
  rw [← unzig_bits hn]
  rfl
end Go.Proofs.Ytdogkhbfpbdfpaa.WireR
