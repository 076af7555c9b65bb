import Derived.Test.YtcilojakgnjjmaaKUnl1
import Derived.WalkLawsBesides
import Derived.BigQuiet
import Derived.Lib.LazyBuf
import Derived.Great.Walk
import Derived.Deep.RegionWith
import Derived.Deep.QuietTactic
/- Merged texts, one behind the other: RdK, MeD, GeW, GeX, DeW, ByW, MeO, LmD, LmC, MeY, LmT, LmO. -/
/- What the program's reader does. -/
set_option linter.unusedSimpArgs false
set_option linter.unusedVariables false
namespace Go.Proofs.Ytcilojakgnjjmaa.RdK
open Go.RowKit Go.Proofs.YtcilojakgnjjmaaW.PrintWords Mem WireP UvW
/-- A reader: its bytes, how far it is, what was wrong. -/
def IsRd (w : World) (base p : Nat) (xs : List Int) (a : Nat) (e : Int) : Prop :=
  ∃ A c, BK.R 5 w base (fun k => k ≠ p) (.slice A xs.length c) xs ∧ w.heap[p]? = some (.cells #[.slice A xs.length c, .int .i64 a, .int .i64 e] 76 (0, 0)) ∧ base ≤ p ∧ a ≤ xs.length
theorem IsRd.grown {w w1 : World} {base p : Nat} {xs : List Int} {a : Nat} {e : Int} (h : IsRd w base p xs a e) (hb : Below w.heap.size w w1) : IsRd w1 base p xs a e := by
  obtain ⟨A, c, h1, h2, h3, h4⟩ := h
  exact ⟨A, c, Kd.R_below h1 hb, blk_below h2 hb, h3, h4⟩
theorem IsRd.lower {w : World} {base base' p : Nat} {xs : List Int} {a : Nat} {e : Int} (h : IsRd w base p xs a e) (hb : base' ≤ base) : IsRd w base' p xs a e := by
  obtain ⟨A, c, h1, h2, h3, h4⟩ := h
  exact ⟨A, c, Kd.R_lower h1 hb, h2, Nat.le_trans hb h3, h4⟩
theorem grown_set (w : World) (p j : Nat) (u : Value) : w.grownBy (w.setCell ⟨p, j, none⟩ u) (some p) := by
  have e := setCells_same p [u] j w
  simp only [World.setCells] at e
  exact ⟨e.1, e.2.1, e.2.2.1, by rw [e.2.2.2]; exact Nat.le_refl _, fun k _ hk => Below.heap_setCell w _ _ _ (fun h => hk (by rw [h]))⟩
theorem IsRd.set1 {w : World} {base p : Nat} {xs : List Int} {a : Nat} {e : Int} (h : IsRd w base p xs a e) (a' : Nat) (ha : a' ≤ xs.length) : IsRd (w.setCell ⟨p, 1, none⟩ (.int .i64 a')) base p xs a' e := by
  obtain ⟨A, c, h1, h2, h3, h4⟩ := h
  exact ⟨A, c, Kd.R_far h1 (fun k hk => hk) _, blk_put h2 1 _ rfl, h3, ha⟩
theorem IsRd.set2 {w : World} {base p : Nat} {xs : List Int} {a : Nat} {e : Int} (h : IsRd w base p xs a e) (e' : Int) : IsRd (w.setCell ⟨p, 2, none⟩ (.int .i64 e')) base p xs a e' := by
  obtain ⟨A, c, h1, h2, h3, h4⟩ := h
  exact ⟨A, c, Kd.R_far h1 (fun k hk => hk) _, blk_put h2 2 _ rfl, h3, h4⟩
theorem IsRd.lt {w : World} {base p : Nat} {xs : List Int} {a : Nat} {e : Int} (h : IsRd w base p xs a e) : p < w.heap.size := by
  obtain ⟨A, c, h1, h2, h3, h4⟩ := h
  exact blk_lt h2
theorem IsRd.cells {w : World} {base p : Nat} {xs : List Int} {a : Nat} {e : Int} (h : IsRd w base p xs a e) : ∃ A c, xs.length ≤ c ∧ BK.C w A xs.length xs ∧ w.cell? ⟨p, 0, none⟩ = some (.slice A xs.length c) ∧ w.cell? ⟨p, 1, none⟩ = some (.int .i64 a) ∧ w.cell? ⟨p, 2, none⟩ = some (.int .i64 e) ∧ (∀ j, w.frozen? ⟨p, j, none⟩ = false) := by
  obtain ⟨A, c, h1, h2, h3, h4⟩ := h
  obtain ⟨_, hc, hC⟩ := Kd.R_reads' h1
  exact ⟨A, c, hc, hC, blk_cell h2 0, blk_cell h2 1, blk_cell h2 2, blk_frozen h2⟩
theorem clone_calls (A : Option Addr) (c : Nat) (xs : List Int) (w : World) (_ : xs.length ≤ c) (hx : BK.C w A xs.length xs) (hl : xs.length ≤ 140737488355328) :
    Calls Try.prog 50 #[.slice A xs.length c] w fun e w' => ∃ v, e = .returned v ∧ Ow .u8 5 w' w.heap.size v xs ∧ Below w.heap.size w w' := by
  have hq := fun W n c => Go.run_eql_slice_nil (P := Try.prog) W 39 5 A n c Try.underlying39
  cases A with
  | none =>
    have e : xs = [] := by
      rcases Nat.eq_zero_or_pos xs.length with h0 | h0
      · exact List.eq_nil_of_length_eq_zero h0
      · obtain ⟨ad, h, _⟩ := hx.2.2 h0
        cases h
    subst e
    clear hx hl
    go_enter Try.func50, Try.ntmps50
    go_wp2
    go_ret
    exact ⟨_, rfl, ow0 _ _, Below.refl _ _⟩
  | some ad =>
    have HC := Lib.hid hx
    have HL := Lib.hid hl
    have HB := Lib.hid (below_alloc (Below.refl w.heap.size w) (.cells #[] 5))
    have HO : Hid (BK.R 5 (w.alloc (.cells #[] 5)) w.heap.size (fun _ => True) (.slice (some ⟨w.heap.size, 0, none⟩) 0 0) []) := Lib.hid ⟨fun _ _ => trivial, OwnRow.lit w w.heap.size (ps := []) (inner := []) (Reps.none _ _) (Nat.le_refl _) (Nat.zero_le _)⟩
    clear hx hl
    go_enter Try.func50, Try.ntmps50
    go_wp2_with (at_builtin; go_must (refine Kd.R_append_rows BK (w0 := w) w.heap.size rfl _ _ 39 5 (.int .u8 0) 1 rfl Try.underlying39 info5 rfl (by decide) (by decide) _ [] xs _ _ _ (fun _ => True) (fun _ => False) rfl rfl (by exact HO.out) (by exact Kd.C_alloc HC.out _) (fun y cs hk => hk) (fun _ hk => hk.elim) (fun _ _ => trivial) (by exact HB.out) (by exact HB.out.size) ?hl ?_; (case hl => have := HL.out; simp; omega)); intro v1 w2 ho hb hg hg2; rw [List.nil_append] at ho; clear HB hg hg2 HO; have HO := Lib.hid ho; have HB := Lib.hid hb; clear ho hb)
    go_ret
    exact ⟨_, rfl, HO.out, HB.out⟩
theorem read_calls (A : Option Addr) (c : Nat) (xs : List Int) (w : World) (hc : xs.length ≤ c) (hx : BK.C w A xs.length xs) (hl : xs.length ≤ 140737488355328) :
    Calls Try.prog 39 #[.slice A xs.length c] w fun e w' => ∃ p, e = .returned (.pointer (some ⟨p, 0, none⟩)) ∧ IsRd w' w.heap.size p xs 0 0 ∧ Below w.heap.size w w' := by
  go_enter Try.func39, Try.ntmps39
  go_wp2_with fail
  refine (clone_calls A c xs w hc hx hl).mono ?_
  rintro e w1 ⟨v, rfl, ho, hb⟩
  obtain ⟨A1, c1, rfl, hc1, _⟩ := ho.reads
  have HO := Lib.hid ho
  have HB := Lib.hid hb
  clear ho hb hx hc hl hc1
  go_wp2_with fail
  go_ret
  refine ⟨_, rfl, ⟨A1, c1, Kd.R_mono (Kd.R_alloc (Kd.R_bound HO.out) _) (fun k hk => by have := hk.2.2.1; omega), heap_alloc_new _ _, HB.out.size, Nat.zero_le _⟩, below_alloc HB.out _⟩
theorem fine_calls (base p : Nat) (xs : List Int) (a : Nat) (e : Int) (w : World) (h : IsRd w base p xs a e) :
    Calls Try.prog 62 #[.pointer (some ⟨p, 0, none⟩)] w fun r w' => r = .returned (.bool (e == 0)) ∧ w = w' := by
  obtain ⟨A, c, _, _, c0, c1, c2, cf⟩ := h.cells
  clear h
  go_enter Try.func62, Try.ntmps62
  go_wp2
  go_ret
  exact ⟨rfl, rfl⟩
theorem fail_calls (base p : Nat) (xs : List Int) (a : Nat) (e e1 : Int) (w : World) (h : IsRd w base p xs a e) :
    Calls Try.prog 61 #[.pointer (some ⟨p, 0, none⟩), .int .i64 e1] w fun r w' => r = .returned (.tuple #[]) ∧ IsRd w' base p xs a (if e = 0 then e1 else e) ∧ w.grownBy w' (some p) := by
  obtain ⟨A, c, _, _, c0, c1, c2, cf⟩ := h.cells
  have H := Lib.hid h
  clear h
  by_cases he : e = 0
  · subst he
    go_enter Try.func61, Try.ntmps61
    go_wp2
    refine Go.Great.bodyPost_end0 (by kernel_rfl) rfl ?_
    exact ⟨rfl, H.out.set2 _, grown_set _ _ _ _⟩
  · have h1 : (e == 0) = false := beq_eq_false_iff_ne.2 he
    have HE := Lib.hid he
    clear he
    go_enter Try.func61, Try.ntmps61
    go_wp2
    refine Go.Great.bodyPost_end0 (by kernel_rfl) rfl ?_
    exact ⟨rfl, H.out, World.grownBy.refl _ _⟩
theorem err_calls (base p : Nat) (xs : List Int) (a : Nat) (e : Int) (w : World) (h : IsRd w base p xs a e) :
    Calls Try.prog 52 #[.pointer (some ⟨p, 0, none⟩)] w fun r w' => r = .returned (.int .i64 e) ∧ w = w' := by
  obtain ⟨A, c, _, _, c0, c1, c2, cf⟩ := h.cells
  clear h
  go_enter Try.func52, Try.ntmps52
  go_wp2
  go_ret
  exact ⟨rfl, rfl⟩
theorem info5' : ∃ i, Try.prog.info? 5 = some i ∧ i.size = 1 := by
  obtain ⟨i, hi, hz⟩ := Option.map_eq_some_iff.1 info5
  simp only [Prod.mk.injEq] at hz
  exact ⟨i, hi, hz.2.1⟩
theorem cut_bytes (A : Option Addr) (c : Nat) (xs : List Int) (m : Nat) (hm : m ≤ xs.length) (hc : xs.length ≤ c) : ∃ A' : Option Addr, (∀ W : World, (Instr.slice 39 (.slice A xs.length c) (some (.int .i64 (m : Int))) none none).run Try.prog W = .ok (.slice A' (xs.length - m) (c - m)) W) ∧
    ∀ w : World, BK.C w A xs.length xs → BK.C w A' (xs.length - m) (xs.drop m) := by
  obtain ⟨i, hi, hz⟩ := info5'
  obtain ⟨A', h1, h2⟩ := print_cut (P := Try.prog) 39 5 .i64 Try.underlying39 hi hz A xs.length c m hm
  exact ⟨A', h1, fun w h => Kd.C_of_reads (d := (0 : Int)) (h2 w .u8 xs hc (Kd.reads_of_C h))⟩
theorem at_B {w : World} {A : Option Addr} {n : Nat} {xs : List Int} (h : BK.C w A n xs) (i : Nat) (h1 : i < n) : ∃ ad x, xs[i]? = some x ∧ A = some ad ∧ w.cell? (ad.add i) = some (.int .u8 x) := by
  have hr : ReadsOf (Value.int .u8) (0 : Int) w A n xs := Kd.reads_of_C h
  obtain ⟨ad, e, hcell⟩ := hr.2.2 (by omega)
  have hl : i < xs.length := by have := hr.1; omega
  have := hcell i h1
  rw [List.getD_eq_getElem?_getD, List.getElem?_eq_getElem hl] at this
  exact ⟨ad, _, List.getElem?_eq_getElem hl, e, this⟩
theorem and127' : ∀ k : Fin 256, Go.bits .and .u8 ((k.1 : Nat) : Int) 127 = ((k.1 % 128 : Nat) : Int) := by decide +kernel
theorem pow7 (k : Nat) : (2 : Nat) ^ (7 * k) = 128 ^ k := by rw [Nat.pow_mul]
theorem digit {k y acc : Nat} {x : Int} (hk : k ≤ 8 ∨ (k = 9 ∧ y ≤ 1)) (hy : y < 256) (hx : x = (y : Int)) (ha : acc < 128 ^ k) :
    ∃ (z : Int) (s : Nat), Op.shift .shl .u64 (IntKind.u64.wrap (Go.bits .and .u8 x 127)) .i64 (wrap64 (7 * (k : Int))) = pure (.int .u64 z) ∧ Go.bits .or .u64 (acc : Int) z = (s : Int) ∧ s = acc + (y % 128) * 128 ^ k := by
  subst hx
  have e1 := and127' ⟨y, hy⟩
  simp only at e1
  have hb : (y % 128) * 128 ^ k < 18446744073709551616 := by
    rcases hk with hk | ⟨rfl, hy1⟩
    · have h6 : 128 ^ k ≤ 128 ^ 8 := Nat.pow_le_pow_right (by omega) hk
      have h7 : y % 128 * 128 ^ k ≤ 127 * 128 ^ 8 := Nat.mul_le_mul (by omega) h6
      exact Nat.lt_of_le_of_lt h7 (by decide +kernel)
    · have h7 : y % 128 * 128 ^ 9 ≤ 1 * 128 ^ 9 := Nat.mul_le_mul_right _ (by omega)
      exact Nat.lt_of_le_of_lt h7 (by decide +kernel)
  have hac : acc < 18446744073709551616 := by
    have h6 : 128 ^ k ≤ 128 ^ 9 := Nat.pow_le_pow_right (by omega) (by omega)
    exact Nat.lt_of_lt_of_le ha (Nat.le_trans h6 (by decide +kernel))
  have e2 : wrap64 (7 * (k : Int)) = ((7 * k : Nat) : Int) := by unfold wrap64; omega
  have e3 : IntKind.u64.wrap (((y % 128 : Nat) : Int)) = ((y % 128 : Nat) : Int) := by rw [Go.IntKind.wrap_u64]; omega
  have e4 : IntKind.u64.wrap (((y % 128 : Nat) : Int) * 2 ^ (7 * k)) = (((y % 128) * 128 ^ k : Nat) : Int) := by
    have : ((y % 128 : Nat) : Int) * 2 ^ (7 * k) = (((y % 128) * 128 ^ k : Nat) : Int) := by
      rw [Int.natCast_mul, ← pow7, Int.natCast_pow]; rfl
    rw [this, Go.IntKind.wrap_u64]
    omega
  refine ⟨(((y % 128) * 128 ^ k : Nat) : Int), acc + (y % 128) * 128 ^ k, ?_, ?_, rfl⟩
  · rw [e1, e3, e2, shift_shl_any _ _ _ _ (by omega), show min ((7 * k : Nat) : Int).toNat (IntKind.u64).bits = 7 * k by simp [IntKind.bits]; omega, e4]
  · rw [bits_or_u64_nat _ _ hac hb]
    congr 1
    have := Nat.two_pow_add_eq_or_of_lt (i := 7 * k) (b := acc) (by rw [pow7]; exact ha) (y % 128)
    rw [pow7] at this
    rw [Nat.or_comm, Nat.mul_comm (y % 128), ← this]
    omega
set_option maxHeartbeats 1600000 in
theorem peek_calls (base p : Nat) (xs : List Int) (a : Nat) (e : Int) (w : World) (h : IsRd w base p xs a e) (hb : ∀ c ∈ xs, 0 ≤ c ∧ c < 256) :
    Calls Try.prog 63 #[.pointer (some ⟨p, 0, none⟩)] w fun r w' => ∃ n k : Nat, r = .returned (.tuple #[.int .u64 n, .int .i64 k]) ∧ PkOk (xs.drop a) n k ∧ Below w.heap.size w w' := by
  obtain ⟨A, c, hc, hC, c0, c1, c2, cf⟩ := h.cells
  have ha : a ≤ xs.length := h.choose_spec.choose_spec.2.2.2
  obtain ⟨A1, hcut, hC1⟩ := cut_bytes A c xs a ha hc
  have hlen : (xs.drop a).length = xs.length - a := List.length_drop ..
  have hC2 := hC1 w hC
  rw [← hlen] at hC2 hcut
  have HC := Lib.hid hC2
  have hyl : (xs.drop a).length ≤ 9223372036854775807 := by have := hC.2.1; omega
  have HX : Hid (∀ c ∈ xs.drop a, 0 ≤ c ∧ c < 256) := Lib.hid (fun c hc => hb c (List.mem_of_mem_drop hc))
  have HB := Lib.hid (Below.refl w.heap.size w)
  clear hC1 hC hC2 hb h hc hlen
  generalize hys : xs.drop a = ys at *
  clear hys
  go_enter Try.func63, Try.ntmps63
  go_wp2_with fail
  go_quiet (fail)
  have HB := Lib.hid (below_drew HB.out)
  go_wp2_with fail
  go_loopw [4, 17] (fun n' i' wr => ∃ k acc : Nat, n' = .int .u64 acc ∧ i' = .int .i64 k ∧ Hid (PkI ys k acc) ∧ Hid (Below w.heap.size w wr)) (fun _ i' _ => (ys.length - intOf i').toNat)
  case atStart => exact ⟨0, 0, rfl, rfl, Lib.hid (pkI_start _), Lib.hid (by first | exact HB.out | exact pw_below_drewN (Below.refl _ _) _)⟩
  case round =>
    obtain ⟨k, acc, rfl, rfl, HI, HB⟩ := hrel
    by_cases h : k < ys.length
    · have h1 : decide (k < ys.length) = true := decide_eq_true h
      have i0 : (0 : Int) ≤ k := by omega
      obtain ⟨ad, x, hx, hA, cx⟩ := at_B (Kd.C_below HC.out HB.out) k h
      subst hA
      have hxr := HX.out x (List.mem_of_getElem? hx)
      obtain ⟨y, hy⟩ := Int.eq_ofNat_of_zero_le hxr.1
      have HY := Lib.hid hx
      have HR := Lib.hid hxr
      have HXY := Lib.hid hy
      clear hx hxr hy
      have n9 : (k == 9) = ((k : Int) == 9) := by rw [Bool.eq_iff_iff, beq_iff_eq, beq_iff_eq]; omega
      have nk : decide (0 < k) = decide ((0 : Int) < k) := by rw [decide_eq_decide]; omega
      cases b9 : ((k : Int) == 9) <;> cases b1 : decide (1 < x) <;> cases bz : (x == 0) <;> cases bk : decide ((0 : Int) < k) <;> cases bl : decide (x < 128)
      all_goals
        rw [b9] at n9
        rw [bk] at nk
        have HF := Lib.hid (And.intro b9 (And.intro b1 (And.intro bz (And.intro bk bl))))
        first
          | (exfalso; simp only [beq_iff_eq, beq_eq_false_iff_ne, decide_eq_true_eq, decide_eq_false_iff_not] at b9 b1 bz bk bl; have := HR.out; have := HI.out.k9; omega)
          | skip
      all_goals
        first
          | (have hbad : k = 9 ∧ 1 < x := by simp only [beq_iff_eq, decide_eq_true_eq] at b9 b1; omega
             have HP := Lib.hid (pkI_big (hbad.1 ▸ HI.out) (hbad.1 ▸ HY.out) hbad.2)
             clear hbad
             go_wp2_with fail
             go_ret2
             exact ⟨0, 0, rfl, HP.out, HB.out⟩)
          | (have hbad : x = 0 ∧ 0 < k := by simp only [beq_iff_eq, decide_eq_true_eq] at bz bk; omega
             have HP := Lib.hid (pkI_zero HI.out (hbad.1 ▸ HY.out) hbad.2)
             clear hbad
             go_wp2_with fail
             go_ret2
             exact ⟨0, 0, rfl, HP.out, HB.out⟩)
          | (have hd : x < 128 ∧ (k = 9 → x ≤ 1) ∧ (x = 0 → k = 0) := by simp only [beq_iff_eq, beq_eq_false_iff_ne, decide_eq_true_eq, decide_eq_false_iff_not] at b9 b1 bz bk bl; omega
             obtain ⟨z, s, hs1, hs2, hs3⟩ := digit (k := k) (y := y) (acc := acc) (x := x) (by have := HI.out.k9; have := HXY.out; omega) (by have := HR.out; have := HXY.out; omega) HXY.out HI.out.lt
             have HP := Lib.hid (pkI_done (c := y) HI.out (by rw [← HXY.out]; exact HY.out) (by have := HXY.out; omega) (by have := HXY.out; omega) (by have := HXY.out; omega))
             have HS := Lib.hid hs3
             have HYS : Hid (y < 128) := Lib.hid (by have := HXY.out; omega)
             clear hd hs3
             go_wp2_with fail
             go_ret2
             refine ⟨s, k + 1, rfl, ?_, HB.out⟩
             rw [HS.out, Nat.mod_eq_of_lt HYS.out]
             exact HP.out)
          | (have hd : 128 ≤ x ∧ k ≤ 8 := by have := HI.out.k9; simp only [beq_iff_eq, beq_eq_false_iff_ne, decide_eq_true_eq, decide_eq_false_iff_not] at b9 b1 bz bk bl; omega
             obtain ⟨z, s, hs1, hs2, hs3⟩ := digit (k := k) (y := y) (acc := acc) (x := x) (by omega) (by have := HR.out; have := HXY.out; omega) HXY.out HI.out.lt
             have HP := Lib.hid (pkI_more (c := y) HI.out hd.2 (by rw [← HXY.out]; exact HY.out) (by have := HXY.out; omega) (by have := HXY.out; have := HR.out; omega))
             have HS := Lib.hid hs3
             clear hd hs3
             go_wp2_with fail
             go_roundw
             case rel =>
               refine ⟨k + 1, s, rfl, ?_, Lib.hid (by rw [HS.out]; exact HP.out), HB⟩
               first | rfl | (rw [show ((k : Int) + 1) = ((k + 1 : Nat) : Int) by omega]) | (rw [show wrap64 ((k : Int) + 1) = ((k + 1 : Nat) : Int) by unfold wrap64; omega])
             case measure => simp only [intOf]; first | omega | (unfold wrap64; omega))
    · have h1 : decide (k < ys.length) = false := decide_eq_false h
      have HP := Lib.hid (pkI_end HI.out (by omega))
      clear h
      go_wp2_with fail
      go_ret2
      exact ⟨0, 0, rfl, HP.out, HB.out⟩
theorem pk_len {ys : List Int} {n k : Nat} (h : PkOk ys n k) : k ≤ ys.length := by
  rcases h with ⟨_, _, h1, h2⟩ | ⟨_, h2, _⟩
  · rw [h2]; exact h1.length_le
  · omega
theorem pk_lt {ys : List Int} {n k : Nat} (h : PkOk ys n k) : n < 18446744073709551616 := by
  rcases h with ⟨_, h1, _⟩ | ⟨h2, _⟩ <;> omega
/-- What reading a number does. -/
def Rd1 (xs : List Int) (a : Nat) (e : Int) (n a' : Nat) (e' : Int) : Prop := (e ≠ 0 ∧ n = 0 ∧ a' = a ∧ e' = e) ∨ (e = 0 ∧ ∃ k, PkOk (xs.drop a) n k ∧ a' = a + k ∧ e' = if k = 0 then 5 else 0)
theorem grown_none {w w1 : World} (hb : Below w.heap.size w w1) (p : Nat) : w.grownBy w1 (some p) := grown_of_below hb _
theorem IsRd.le {w : World} {base p : Nat} {xs : List Int} {a : Nat} {e : Int} (h : IsRd w base p xs a e) : a ≤ xs.length := h.choose_spec.choose_spec.2.2.2
theorem IsRd.small {w : World} {base p : Nat} {xs : List Int} {a : Nat} {e : Int} (h : IsRd w base p xs a e) : xs.length ≤ 9223372036854775807 := by
  obtain ⟨A, c, _, hC, _⟩ := h.cells
  exact hC.2.1
theorem left_calls (base p : Nat) (xs : List Int) (a : Nat) (e : Int) (w : World) (h : IsRd w base p xs a e) :
    Calls Try.prog 56 #[.pointer (some ⟨p, 0, none⟩)] w fun r w' => r = .returned (.int .i64 ((xs.length - a : Nat) : Int)) ∧ Below w.heap.size w w' := by
  obtain ⟨A, c, _, _, c0, c1, c2, cf⟩ := h.cells
  have ha := h.le
  have hs := h.small
  have HB := Lib.hid (Below.refl w.heap.size w)
  obtain ⟨z, hz⟩ : ∃ z : Int, z = ((xs.length - a : Nat) : Int) := ⟨_, rfl⟩
  have e1 : wrap64 z = z := by unfold wrap64; omega
  have e2 : ((xs.length : Int) - a) = z := by omega
  rw [← hz]
  clear h hz ha hs
  go_enter Try.func56, Try.ntmps56
  go_wp2_with fail
  go_quiet (fail)
  go_wp2_with fail
  go_ret
  exact ⟨congrArg (fun y => Ending.returned (Value.int .i64 y)) e1, by first | exact HB.out | exact pw_below_drewN (Below.refl _ _) _⟩
theorem done_calls (base p : Nat) (xs : List Int) (a : Nat) (e : Int) (w : World) (h : IsRd w base p xs a e) :
    Calls Try.prog 41 #[.pointer (some ⟨p, 0, none⟩)] w fun r w' => r = .returned (.int .i64 (if e = 0 then (if a < xs.length then 5 else 0) else e)) ∧ Below w.heap.size w w' := by
  have H := Lib.hid h
  have ha := h.le
  clear h
  by_cases he : e = 0
  · subst he
    rw [if_pos rfl]
    by_cases hl : a < xs.length
    · rw [if_pos hl]
      have h1 : decide ((0 : Int) < ((xs.length - a : Nat) : Int)) = true := decide_eq_true (by omega)
      obtain ⟨z, hz⟩ : ∃ z : Int, z = ((xs.length - a : Nat) : Int) := ⟨_, rfl⟩
      rw [← hz] at h1
      have HZ := Lib.hid hz
      clear hz hl ha
      go_enter Try.func41, Try.ntmps41
      go_wp2_with fail
      refine (err_calls base p xs a 0 w H.out).mono ?_
      rintro r w1 ⟨rfl, rfl⟩
      go_wp2_with fail
      refine (left_calls base p xs a 0 w H.out).mono ?_
      rw [← HZ.out]
      rintro r w1 ⟨rfl, hb⟩
      have HB := Lib.hid hb
      clear hb
      go_wp2_with fail
      go_ret
      exact ⟨rfl, HB.out⟩
    · rw [if_neg hl]
      have hz : xs.length - a = 0 := by omega
      have HZ := Lib.hid hz
      clear hz hl ha
      go_enter Try.func41, Try.ntmps41
      go_wp2_with fail
      refine (err_calls base p xs a 0 w H.out).mono ?_
      rintro r w1 ⟨rfl, rfl⟩
      go_wp2_with fail
      refine (left_calls base p xs a 0 w H.out).mono ?_
      rw [HZ.out]
      rintro r w1 ⟨rfl, hb⟩
      have HB := Lib.hid hb
      clear hb
      go_wp2_with fail
      go_ret
      exact ⟨rfl, HB.out⟩
  · have h1 : (e == 0) = false := beq_eq_false_iff_ne.2 he
    have h2 : (e != 0) = true := by rw [bne_iff_ne]; exact he
    rw [if_neg he]
    clear he ha
    go_enter Try.func41, Try.ntmps41
    go_wp2_with fail
    refine (err_calls base p xs a e w H.out).mono ?_
    rintro r w1 ⟨rfl, rfl⟩
    go_wp2_with fail
    go_ret
    exact ⟨rfl, Below.refl _ _⟩
/-- A number without sign, read as one with. -/
theorem set1' {w : World} {base p : Nat} {xs : List Int} {a : Nat} {e : Int} (h : IsRd w base p xs a e) (a' : Nat) (ha : a' ≤ xs.length) (s : Int) (hs : s = (a' : Int)) : IsRd (w.setCell ⟨p, 1, none⟩ (.int .i64 s)) base p xs a' e := by
  subst hs
  exact h.set1 a' ha
def RdN (xs : List Int) (a : Nat) (e most n : Int) (a' : Nat) (e' : Int) : Prop :=
  (e ≠ 0 ∧ n = 0 ∧ a' = a ∧ e' = e) ∨ (e = 0 ∧ ∃ m k, PkOk (xs.drop a) m k ∧ ((k = 0 ∧ n = 0 ∧ a' = a ∧ e' = 5) ∨ (0 < k ∧ most < (m : Int) ∧ n = 0 ∧ a' = a ∧ e' = 3) ∨ (0 < k ∧ (m : Int) ≤ most ∧ n = m ∧ a' = a + k ∧ e' = 0)))
theorem rdN_unique {xs : List Int} {a : Nat} {e most n m e' e2 : Int} {a' a2 : Nat} (h : RdN xs a e most n a' e') (h' : RdN xs a e most m a2 e2) : n = m ∧ a' = a2 ∧ e' = e2 := by
  rcases h with ⟨h1, rfl, rfl, rfl⟩ | ⟨h1, p, k, hp, h⟩ <;> rcases h' with ⟨k1, rfl, rfl, rfl⟩ | ⟨k1, q, j, hq, k2⟩
  · exact ⟨rfl, rfl, rfl⟩
  · exact absurd k1 h1
  · exact absurd h1 k1
  · obtain ⟨rfl, rfl⟩ := pk_unique hp hq
    rcases h with ⟨h2, rfl, rfl, rfl⟩ | ⟨h2, h3, rfl, rfl, rfl⟩ | ⟨h2, h3, rfl, rfl, rfl⟩ <;> rcases k2 with ⟨k2, rfl, rfl, rfl⟩ | ⟨k2, k3, rfl, rfl, rfl⟩ | ⟨k2, k3, rfl, rfl, rfl⟩ <;> first | exact ⟨rfl, rfl, rfl⟩ | (exfalso; omega)
/-- What the next number of at most another one is, and how many bytes it has. -/
def NmR (xs : List Int) (a : Nat) (e most : Int) (n kk : Nat) (e' : Int) : Prop :=
  (e ≠ 0 ∧ n = 0 ∧ kk = 0 ∧ e' = e) ∨ (e = 0 ∧ ∃ m k, PkOk (xs.drop a) m k ∧ ((k = 0 ∧ n = 0 ∧ kk = 0 ∧ e' = 5) ∨ (0 < k ∧ most < (m : Int) ∧ n = 0 ∧ kk = 0 ∧ e' = 3) ∨ (0 < k ∧ (m : Int) ≤ most ∧ n = m ∧ kk = k ∧ e' = 0)))
set_option maxHeartbeats 800000 in
theorem number_calls (base p : Nat) (xs : List Int) (a : Nat) (e most : Int) (w : World) (h : IsRd w base p xs a e) (hb : ∀ c ∈ xs, 0 ≤ c ∧ c < 256) (hm : -9223372036854775808 ≤ most ∧ most < 9223372036854775808) :
    Calls Try.prog 60 #[.pointer (some ⟨p, 0, none⟩), .int .i64 most] w fun r w' => ∃ (n k : Nat) (e' : Int), r = .returned (.tuple #[.int .i64 n, .int .i64 k]) ∧ NmR xs a e most n k e' ∧ IsRd w' base p xs a e' ∧ w.grownBy w' (some p) := by
  have H := Lib.hid h
  have HR := Lib.hid hb
  have HM := Lib.hid hm
  clear h hb hm
  by_cases he : e = 0
  · subst he
    go_enter Try.func60, Try.ntmps60
    go_wp2_with fail
    refine (fine_calls base p xs a 0 w H.out).mono ?_
    rintro r w1 ⟨rfl, rfl⟩
    go_wp2_with fail
    refine (peek_calls base p xs a 0 w H.out HR.out).mono ?_
    rintro r w1 ⟨n, k, rfl, hp, hb⟩
    have HP := Lib.hid hp
    have H1 := Lib.hid (H.out.grown hb)
    have HG := Lib.hid (grown_none hb p)
    have HN := Lib.hid (pk_lt hp)
    clear hb hp
    by_cases hk : k = 0
    · subst hk
      go_wp2_with fail
      refine (fail_calls base p xs a 0 5 w1 H1.out).mono ?_
      rintro r w2 ⟨rfl, h2, hg⟩
      have H2 := Lib.hid h2
      have HG2 := Lib.hid (World.grownBy.trans HG.out hg)
      clear h2 hg
      go_wp2_with fail
      go_ret2
      exact ⟨0, 0, 5, rfl, .inr ⟨rfl, n, 0, HP.out, .inl ⟨rfl, rfl, rfl, rfl⟩⟩, H2.out, HG2.out⟩
    · have b1 : ((k : Int) == 0) = false := by rw [beq_eq_false_iff_ne]; omega
      have HK0 := Lib.hid hk
      clear hk
      by_cases hx : 9223372036854775807 < n
      · have hd : decide ((9223372036854775807 : Int) < (n : Int)) = true := decide_eq_true (by omega)
        have HX := Lib.hid hx
        clear hx
        go_wp2_with fail
        refine (fail_calls base p xs a 0 3 w1 H1.out).mono ?_
        rintro r w2 ⟨rfl, h2, hg⟩
        have H2 := Lib.hid h2
        have HG2 := Lib.hid (World.grownBy.trans HG.out hg)
        clear h2 hg
        go_wp2_with fail
        go_ret2
        exact ⟨0, 0, 3, rfl, .inr ⟨rfl, n, k, HP.out, .inr (.inl ⟨by have := HK0.out; omega, by have := HX.out; have := HM.out; omega, rfl, rfl, rfl⟩)⟩, H2.out, HG2.out⟩
      · have hd : decide ((9223372036854775807 : Int) < (n : Int)) = false := decide_eq_false (by omega)
        have ew : wrap64 (n : Int) = (n : Int) := by unfold wrap64; omega
        have HX := Lib.hid hx
        clear hx
        by_cases hmo : most < (n : Int)
        · have hd2 : decide (most < (n : Int)) = true := decide_eq_true hmo
          have HMO := Lib.hid hmo
          clear hmo
          go_wp2_with fail
          refine (fail_calls base p xs a 0 3 w1 H1.out).mono ?_
          rintro r w2 ⟨rfl, h2, hg⟩
          have H2 := Lib.hid h2
          have HG2 := Lib.hid (World.grownBy.trans HG.out hg)
          clear h2 hg
          go_wp2_with fail
          go_ret2
          exact ⟨0, 0, 3, rfl, .inr ⟨rfl, n, k, HP.out, .inr (.inl ⟨by have := HK0.out; omega, HMO.out, rfl, rfl, rfl⟩)⟩, H2.out, HG2.out⟩
        · have hd2 : decide (most < (n : Int)) = false := decide_eq_false hmo
          have HMO := Lib.hid hmo
          clear hmo
          go_wp2_with fail
          go_ret2
          exact ⟨n, k, 0, congrArg (fun z => Ending.returned (Value.tuple #[.int .i64 z, .int .i64 (k : Int)])) (by first | rfl | exact ew), .inr ⟨rfl, n, k, HP.out, .inr (.inr ⟨by have := HK0.out; omega, by have := HMO.out; omega, rfl, rfl, rfl⟩)⟩, H1.out, HG.out⟩
  · have HE := Lib.hid he
    have h1 : (e == 0) = false := beq_eq_false_iff_ne.2 he
    clear he
    go_enter Try.func60, Try.ntmps60
    go_wp2_with fail
    refine (fine_calls base p xs a e w H.out).mono ?_
    rintro r w1 ⟨rfl, rfl⟩
    go_wp2_with fail
    go_ret2
    exact ⟨0, 0, e, rfl, .inl ⟨HE.out, rfl, rfl, rfl⟩, H.out, World.grownBy.refl _ _⟩
theorem nmR_len {xs : List Int} {a : Nat} {e most : Int} {n k : Nat} {e' : Int} (h : NmR xs a e most n k e') (ha : a ≤ xs.length) : a + k ≤ xs.length := by
  rcases h with ⟨_, _, h, _⟩ | ⟨_, m, j, hp, h⟩
  · omega
  · have h1 := pk_len hp
    rw [List.length_drop] at h1
    rcases h with ⟨_, _, h, _⟩ | ⟨_, _, _, h, _⟩ | ⟨_, _, _, h, _⟩ <;> omega
theorem numberR (base p : Nat) (xs : List Int) (a : Nat) (e most : Int) (w : World) (h : IsRd w base p xs a e) (hb : ∀ c ∈ xs, 0 ≤ c ∧ c < 256) (hm : -9223372036854775808 ≤ most ∧ most < 9223372036854775808) :
    Calls Try.prog 55 #[.pointer (some ⟨p, 0, none⟩), .int .i64 most] w fun r w' => ∃ (n : Int) (a' : Nat) (e' : Int), r = .returned (.int .i64 n) ∧ RdN xs a e most n a' e' ∧ IsRd w' base p xs a' e' ∧ w.grownBy w' (some p) := by
  have H := Lib.hid h
  have HR := Lib.hid hb
  have HM := Lib.hid hm
  clear h hb hm
  go_enter Try.func55, Try.ntmps55
  go_wp2_with fail
  refine (number_calls base p xs a e most w H.out HR.out HM.out).mono ?_
  rintro r w1 ⟨n, k, e', rfl, hp, h1, hg⟩
  have HP := Lib.hid hp
  have H1 := Lib.hid h1
  have HG := Lib.hid hg
  have hl := nmR_len hp h1.le
  have hs := h1.small
  obtain ⟨A, c, _, _, c0, c1, c2, cf⟩ := h1.cells
  have HL := Lib.hid hl
  clear hp h1 hg
  by_cases hk : 0 < k
  · have hd : decide ((0 : Int) < (k : Int)) = true := decide_eq_true (by omega)
    have hd' : decide (0 < k) = true := decide_eq_true hk
    have hsum : (a : Int) + (k : Int) ≤ 9223372036854775807 := by omega
    have HK := Lib.hid hk
    clear hl hs hk
    go_wp2_with fail
    go_ret
    refine ⟨n, a + k, e', rfl, ?_, set1' H1.out (a + k) HL.out _ (by omega), World.grownBy.trans HG.out (grown_set _ _ _ _)⟩
    have hk := HK.out
    rcases HP.out with ⟨_, _, h, _⟩ | ⟨h0, m, j, hp, h⟩
    · omega
    · rcases h with ⟨_, _, h, _⟩ | ⟨_, _, _, h, _⟩ | ⟨g1, g2, rfl, rfl, rfl⟩
      · omega
      · omega
      · exact .inr ⟨h0, n, k, hp, .inr (.inr ⟨g1, g2, rfl, rfl, rfl⟩)⟩
  · obtain rfl : k = 0 := by omega
    clear hl hs hk
    go_wp2_with fail
    go_ret
    refine ⟨n, a, e', rfl, ?_, H1.out, HG.out⟩
    rcases HP.out with ⟨g1, g2, g3, g4⟩ | ⟨h0, m, j, hp, h⟩
    · exact .inl ⟨g1, by rw [g2]; rfl, rfl, g4⟩
    · rcases h with ⟨g1, rfl, _, g4⟩ | ⟨g1, g2, rfl, _, g5⟩ | ⟨g1, _, _, g2, _⟩
      · exact .inr ⟨h0, m, j, hp, .inl ⟨g1, rfl, rfl, g4⟩⟩
      · exact .inr ⟨h0, m, j, hp, .inr (.inl ⟨g1, g2, rfl, rfl, g5⟩)⟩
      · omega
theorem uvarintR_calls (base p : Nat) (xs : List Int) (a : Nat) (e : Int) (w : World) (h : IsRd w base p xs a e) (hb : ∀ c ∈ xs, 0 ≤ c ∧ c < 256) :
    Calls Try.prog 59 #[.pointer (some ⟨p, 0, none⟩)] w fun r w' => ∃ (n a' : Nat) (e' : Int), r = .returned (.int .u64 n) ∧ Rd1 xs a e n a' e' ∧ IsRd w' base p xs a' e' ∧ w.grownBy w' (some p) := by
  have H := Lib.hid h
  have HR := Lib.hid hb
  clear h hb
  by_cases he : e = 0
  · subst he
    go_enter Try.func59, Try.ntmps59
    go_wp2_with fail
    refine (fine_calls base p xs a 0 w H.out).mono ?_
    rintro r w1 ⟨rfl, rfl⟩
    go_wp2_with fail
    refine (peek_calls base p xs a 0 w H.out HR.out).mono ?_
    rintro r w1 ⟨n, k, rfl, hp, hb⟩
    have HP := Lib.hid hp
    have H1 := Lib.hid (H.out.grown hb)
    have HG := Lib.hid (grown_none hb p)
    have HK := Lib.hid (pk_len hp)
    clear hb hp
    by_cases hk : k = 0
    · subst hk
      go_wp2_with fail
      refine (fail_calls base p xs a 0 5 w1 H1.out).mono ?_
      rintro r w2 ⟨rfl, h2, hg⟩
      have H2 := Lib.hid h2
      have HG2 := Lib.hid (World.grownBy.trans HG.out hg)
      obtain ⟨A, c, _, _, c0, c1, c2, cf⟩ := h2.cells
      clear h2 hg
      go_wp2_with fail
      go_ret
      refine ⟨n, a, 5, rfl, .inr ⟨rfl, 0, HP.out, rfl, rfl⟩, ?_, ?_⟩
      · have h5 := H2.out.set1 a H2.out.le
        rwa [show ((a : Nat) : Int) = wrap64 (a : Int) by unfold wrap64; have := H2.out.small; have := H2.out.le; omega] at h5
      · exact World.grownBy.trans HG2.out (grown_set _ _ _ _)
    · have b1 : ((k : Int) == 0) = false := by rw [beq_eq_false_iff_ne]; omega
      have HK0 := Lib.hid hk
      clear hk
      obtain ⟨A, c, _, _, c0, c1, c2, cf⟩ := H1.out.cells
      go_wp2_with fail
      go_ret
      refine ⟨n, a + k, 0, rfl, .inr ⟨rfl, k, HP.out, rfl, by rw [if_neg HK0.out]⟩, ?_, ?_⟩
      · have hk2 := HK.out
        have hle := H1.out.le
        rw [List.length_drop] at hk2
        have h5 := H1.out.set1 (a + k) (by omega)
        rwa [show ((a + k : Nat) : Int) = wrap64 ((a : Int) + k) by unfold wrap64; have := H1.out.small; omega] at h5
      · exact World.grownBy.trans HG.out (grown_set _ _ _ _)
  · have h1 : (e == 0) = false := beq_eq_false_iff_ne.2 he
    have HE := Lib.hid he
    clear he
    go_enter Try.func59, Try.ntmps59
    go_wp2_with fail
    refine (fine_calls base p xs a e w H.out).mono ?_
    rintro r w1 ⟨rfl, rfl⟩
    go_wp2_with fail
    go_ret
    exact ⟨0, a, e, rfl, .inl ⟨HE.out, rfl, rfl, rfl⟩, H.out, World.grownBy.refl _ _⟩
/-- A number without sign, read as one with. -/
def unzig (n : Nat) : Int := if n % 2 = 0 then (n / 2 : Nat) else -((n / 2 : Nat) : Int) - 1
theorem unzig_zig {n : Int} : unzig (zig n) = n := by
  unfold unzig zig
  split <;> split <;> omega
theorem zig_unzig (n : Nat) : zig (unzig n) = n := by
  unfold unzig zig
  split <;> split <;> omega
theorem unzig_bits {n : Nat} (h : n < 18446744073709551616) : Go.bits .xor .i64 (wrap64 ((n : Int) / 2)) (wrap64 (-wrap64 (Go.bits .and .u64 (n : Int) 1))) = unzig n := by
  have e1 : Go.bits .and .u64 (n : Int) 1 = ((n % 2 : Nat) : Int) := by
    have := bits_and_u64_nat n 1 h (by omega)
    rw [Nat.and_one_is_mod] at this
    exact this
  have e2 : wrap64 ((n : Int) / 2) = ((n / 2 : Nat) : Int) := by unfold wrap64; omega
  rw [e1, e2]
  have hm : n / 2 < 9223372036854775808 := by omega
  unfold unzig
  generalize n / 2 = m at *
  have h2 : (BitVec.ofInt 64 (m : Int)).toNat = m := by
    rw [BitVec.ofInt_natCast, BitVec.toNat_ofNat]; exact Nat.mod_eq_of_lt (by omega)
  split
  · rename_i hz
    rw [hz, show wrap64 (-wrap64 ((0 : Nat) : Int)) = 0 by unfold wrap64; omega]
    show IntKind.i64.wrap ((BitVec.ofInt 64 (m : Int) ^^^ BitVec.ofInt 64 0).toNat : Int) = _
    rw [show BitVec.ofInt 64 0 = 0#64 from rfl, BitVec.xor_zero, h2, Go.IntKind.wrap_i64]
    omega
  · rename_i hz
    rw [show n % 2 = 1 by omega, show wrap64 (-wrap64 ((1 : Nat) : Int)) = -1 by unfold wrap64; omega]
    show IntKind.i64.wrap ((BitVec.ofInt 64 (m : Int) ^^^ BitVec.ofInt 64 (-1)).toNat : Int) = _
    rw [show BitVec.ofInt 64 (-1) = BitVec.allOnes 64 by decide, BitVec.xor_allOnes, BitVec.toNat_not, h2, Go.IntKind.wrap_i64]
    omega
theorem varintR_calls (base p : Nat) (xs : List Int) (a : Nat) (e : Int) (w : World) (h : IsRd w base p xs a e) (hb : ∀ c ∈ xs, 0 ≤ c ∧ c < 256) :
    Calls Try.prog 53 #[.pointer (some ⟨p, 0, none⟩)] w fun r w' => ∃ (n a' : Nat) (e' : Int), r = .returned (.int .i64 (unzig n)) ∧ Rd1 xs a e n a' e' ∧ IsRd w' base p xs a' e' ∧ w.grownBy w' (some p) := by
  have H := Lib.hid h
  have HR := Lib.hid hb
  clear h hb
  go_enter Try.func53, Try.ntmps53
  go_wp2_with fail
  refine (uvarintR_calls base p xs a e w H.out HR.out).mono ?_
  rintro r w1 ⟨n, a', e', rfl, h1, h2, h3⟩
  have H1 := Lib.hid h1
  have H2 := Lib.hid h2
  have H3 := Lib.hid h3
  clear h1 h2 h3
  go_wp2_with fail
  go_ret
  have hn : n < 18446744073709551616 := by
    rcases H1.out with ⟨_, h, _⟩ | ⟨_, k, h, _⟩
    · omega
    · exact pk_lt h
  refine ⟨n, a', e', ?_, H1.out, H2.out, H3.out⟩
  rw [← unzig_bits hn]
  rfl
theorem take_no (base p : Nat) (xs : List Int) (a : Nat) (e n : Int) (w : World) (h : IsRd w base p xs a e) (he : e ≠ 0) :
    Calls Try.prog 58 #[.pointer (some ⟨p, 0, none⟩), .int .i64 n] w fun r w' => r = .returned (.slice none 0 0) ∧ w = w' := by
  have H := Lib.hid h
  have h1 : (e == 0) = false := beq_eq_false_iff_ne.2 he
  clear h he
  go_enter Try.func58, Try.ntmps58
  go_wp2_with fail
  refine (fine_calls base p xs a e w H.out).mono ?_
  rintro r w1 ⟨rfl, rfl⟩
  go_wp2_with fail
  go_ret
  exact ⟨rfl, rfl⟩
theorem take_few (base p : Nat) (xs : List Int) (a n : Nat) (w : World) (h : IsRd w base p xs a 0) (hn : xs.length < a + n) :
    Calls Try.prog 58 #[.pointer (some ⟨p, 0, none⟩), .int .i64 (n : Int)] w fun r w' => r = .returned (.slice none 0 0) ∧ IsRd w' base p xs a 5 ∧ w.grownBy w' (some p) := by
  have H := Lib.hid h
  obtain ⟨A, c, _, _, c0, c1, c2, cf⟩ := h.cells
  have ha := h.le
  have hs := h.small
  obtain ⟨z, hz⟩ : ∃ z : Int, z = ((xs.length - a : Nat) : Int) := ⟨_, rfl⟩
  have e1 : wrap64 z = z := by unfold wrap64; omega
  have e2 : ((xs.length : Int) - a) = z := by omega
  have h1 : decide (z < (n : Int)) = true := decide_eq_true (by omega)
  clear h hz ha hs hn
  go_enter Try.func58, Try.ntmps58
  go_wp2_with fail
  refine (fine_calls base p xs a 0 w H.out).mono ?_
  rintro r w1 ⟨rfl, rfl⟩
  go_wp2_with fail
  go_quiet (fail)
  go_wp2_with fail
  refine (fail_calls base p xs a 0 5 _ (H.out.grown (pw_below_drewN (Below.refl _ _) _))).mono ?_
  rintro r w2 ⟨rfl, h2, hg⟩
  have H2 := Lib.hid h2
  have HG := Lib.hid (World.grownBy.trans (grown_none (pw_below_drewN (Below.refl _ _) _) p) hg)
  clear h2 hg
  go_wp2_with fail
  go_ret
  exact ⟨rfl, H2.out, HG.out⟩
theorem cut_two (A : Option Addr) (c : Nat) (xs : List Int) (a n : Nat) (h : a + n ≤ xs.length) (hc : xs.length ≤ c) : ∃ A' : Option Addr, (∀ W : World, (Instr.slice 39 (.slice A xs.length c) (some (.int .i64 (a : Int))) (some (.int .i64 ((a : Int) + (n : Int)))) none).run Try.prog W = .ok (.slice A' n (c - a)) W) ∧
    ∀ w : World, BK.C w A xs.length xs → BK.C w A' n ((xs.drop a).take n) := by
  obtain ⟨i, hi, hz⟩ := info5'
  have h1 := cut_mid (P := Try.prog) 39 5 .i64 .i64 Try.underlying39 hi 1 hz A xs.length c (a : Int) ((a : Int) + (n : Int)) (by omega) (by omega) (by omega) hc
  refine ⟨_, fun W => by rw [h1 W, show ((a : Int) + (n : Int)).toNat - (a : Int).toNat = n by omega, show ((a : Int)).toNat = a by omega], fun w hC => ?_⟩
  have := Kd.C_mid (c := c) (lo := a) (hi := a + n) hC (by omega) h hc
  have e : ((xs.take (a + n)).drop a) = (xs.drop a).take n := by rw [List.drop_take]; congr 1; omega
  rw [e, show ((xs.drop a).take n).length = n by rw [List.length_take, List.length_drop]; omega] at this
  exact this
set_option maxHeartbeats 800000 in
theorem take_ok (base p : Nat) (xs : List Int) (a n : Nat) (w : World) (h : IsRd w base p xs a 0) (hn : a + n ≤ xs.length) :
    Calls Try.prog 58 #[.pointer (some ⟨p, 0, none⟩), .int .i64 (n : Int)] w fun r w' => ∃ A c, r = .returned (.slice A n c) ∧ n ≤ c ∧ BK.C w' A n ((xs.drop a).take n) ∧ IsRd w' base p xs (a + n) 0 ∧ w.grownBy w' (some p) := by
  have H := Lib.hid h
  obtain ⟨A, c, r1, r2, r3, r4⟩ := h
  have hc := (Kd.R_reads' r1).2.1
  have c0 := blk_cell r2 0
  have c1 := blk_cell r2 1
  have c2 := blk_cell r2 2
  have cf := blk_frozen r2
  have HR := Lib.hid r1
  have ha := H.out.le
  have hs := H.out.small
  obtain ⟨A', hcut, hC⟩ := cut_two A c xs a n hn hc
  have HC := Lib.hid hC
  obtain ⟨z, hz⟩ : ∃ z : Int, z = ((xs.length - a : Nat) : Int) := ⟨_, rfl⟩
  have e1 : wrap64 z = z := by unfold wrap64; omega
  have e2 : ((xs.length : Int) - a) = z := by omega
  have h1 : decide (z < (n : Int)) = false := decide_eq_false (by omega)
  have hsum : (a : Int) + (n : Int) ≤ 9223372036854775807 := by omega
  have HN := Lib.hid hn
  have HCC := Lib.hid hc
  have n0 : 0 ≤ (n : Int) := by omega
  have a0 : 0 ≤ (a : Int) := by omega
  have e3 : IntKind.i64.wrap ((a : Int) + (n : Int) - (n : Int)) = (a : Int) := by rw [Go.IntKind.wrap_i64]; omega
  have e4 : IntKind.i64.wrap (a : Int) = (a : Int) := by rw [Go.IntKind.wrap_i64]; omega
  have e5 : wrap64 (a : Int) = (a : Int) := by unfold wrap64; omega
  clear r1 r2 r3 r4 hz ha hs hn hC hc
  go_enter Try.func58, Try.ntmps58
  go_wp2_with fail
  refine (fine_calls base p xs a 0 w H.out).mono ?_
  rintro r w1 ⟨rfl, rfl⟩
  go_wp2_with fail
  go_quiet (fail)
  go_wp2_with fail
  go_quiet (fail)
  go_wp2_with fail
  go_ret
  refine ⟨A', c - a, rfl, by have := HN.out; have := HCC.out; omega, ?_, ?_, ?_⟩
  · exact HC.out _ (Kd.R_reads' (Kd.R_below (Kd.R_far (Kd.R_below HR.out (pw_below_drewN (Below.refl _ _) _)) (fun k hk => hk) _) (pw_below_drewN (Below.refl _ _) _))).2.2
  · exact (set1' (H.out.grown (pw_below_drewN (Below.refl _ _) _)) (a + n) HN.out _ (by omega)).grown (pw_below_drewN (Below.refl _ _) _)
  · exact World.grownBy.trans (World.grownBy.trans (grown_none (pw_below_drewN (Below.refl _ _) _) p) (grown_set _ _ _ _)) (grown_none (pw_below_drewN (Below.refl _ _) _) p)
/-- What reading bytes does. -/
def RdB (xs : List Int) (a : Nat) (e most : Int) (ys : List Int) (a' : Nat) (e' : Int) : Prop :=
  (e ≠ 0 ∧ ys = [] ∧ a' = a ∧ e' = e) ∨ (e = 0 ∧ ∃ m k, PkOk (xs.drop a) m k ∧ ((k = 0 ∧ ys = [] ∧ a' = a ∧ e' = 5) ∨ (0 < k ∧ most < (m : Int) ∧ ys = [] ∧ a' = a ∧ e' = 3) ∨ (0 < k ∧ (m : Int) ≤ most ∧ xs.length < a + k + m ∧ ys = [] ∧ a' = a ∧ e' = 5) ∨ (0 < k ∧ (m : Int) ≤ most ∧ a + k + m ≤ xs.length ∧ ys = (xs.drop (a + k)).take m ∧ a' = a + k + m ∧ e' = 0)))
theorem clone_any (A : Option Addr) (n c : Nat) (xs : List Int) (w : World) (hc : n ≤ c) (hx : BK.C w A n xs) (hl : n ≤ 140737488355328) :
    Calls Try.prog 50 #[.slice A n c] w fun e w' => ∃ A' c', e = .returned (.slice A' xs.length c') ∧ Ow .u8 5 w' w.heap.size (.slice A' xs.length c') xs ∧ Below w.heap.size w w' := by
  obtain rfl : n = xs.length := hx.1.symm
  exact (clone_calls A c xs w hc hx hl).mono (fun e w' ⟨v, h1, h2, h3⟩ => by
    obtain ⟨A', c', rfl, h4, h5⟩ := h2.reads
    exact ⟨A', c', h1, h2, h3⟩)
set_option maxHeartbeats 1600000 in
theorem bytesR (base p : Nat) (xs : List Int) (a : Nat) (e most : Int) (w : World) (h : IsRd w base p xs a e) (hb : ∀ c ∈ xs, 0 ≤ c ∧ c < 256) (hm : -9223372036854775808 ≤ most ∧ most < 9223372036854775808) (hl : xs.length ≤ 140737488355328) :
    Calls Try.prog 54 #[.pointer (some ⟨p, 0, none⟩), .int .i64 most] w fun r w' => ∃ (A : Option Addr) (c : Nat) (ys : List Int) (a' : Nat) (e' : Int), r = .returned (.slice A ys.length c) ∧ Ow .u8 5 w' w.heap.size (.slice A ys.length c) ys ∧ RdB xs a e most ys a' e' ∧ IsRd w' base p xs a' e' ∧ w.grownBy w' (some p) := by
  have H := Lib.hid h
  have HR := Lib.hid hb
  have HM := Lib.hid hm
  have HLL := Lib.hid hl
  clear h hb hm hl
  go_enter Try.func54, Try.ntmps54
  go_wp2_with fail
  refine (number_calls base p xs a e most w H.out HR.out HM.out).mono ?_
  rintro r w1 ⟨n, k, e', rfl, hp, h1, hg⟩
  have HP := Lib.hid hp
  have H1 := Lib.hid h1
  have HG := Lib.hid hg
  by_cases hk : k = 0
  · subst hk
    clear hp h1 hg
    go_wp2_with fail
    go_ret
    refine ⟨none, 0, [], a, e', rfl, ow0 _ _, ?_, H1.out, HG.out⟩
    rcases HP.out with ⟨g1, g2, g3, g4⟩ | ⟨h0, m, j, hp, h⟩
    · exact .inl ⟨g1, rfl, rfl, g4⟩
    · rcases h with ⟨g1, rfl, _, g4⟩ | ⟨g1, g2, rfl, _, g5⟩ | ⟨g1, _, _, g2, _⟩
      · exact .inr ⟨h0, m, j, hp, .inl ⟨g1, rfl, rfl, g4⟩⟩
      · exact .inr ⟨h0, m, j, hp, .inr (.inl ⟨g1, g2, rfl, rfl, g5⟩)⟩
      · omega
  · have b1 : ((k : Int) == 0) = false := by rw [beq_eq_false_iff_ne]; omega
    have hq : e = 0 ∧ PkOk (xs.drop a) n k ∧ (n : Int) ≤ most ∧ e' = 0 := by
      rcases hp with ⟨_, _, h, _⟩ | ⟨h0, m, j, hp, h⟩
      · omega
      · rcases h with ⟨_, _, h, _⟩ | ⟨_, _, _, h, _⟩ | ⟨g1, g2, rfl, rfl, rfl⟩
        · omega
        · omega
        · exact ⟨h0, hp, g2, rfl⟩
    obtain ⟨rfl, hpk, hmo, rfl⟩ := hq
    have HPK := Lib.hid hpk
    have HMO := Lib.hid hmo
    have HK0 : Hid (0 < k) := Lib.hid (by omega)
    have ha := h1.le
    have hs := h1.small
    have hkl := nmR_len hp ha
    obtain ⟨A, c, _, _, c0, c1, c2, cf⟩ := h1.cells
    obtain ⟨z, hz⟩ : ∃ z : Int, z = ((xs.length - a : Nat) : Int) := ⟨_, rfl⟩
    have e1 : wrap64 z = z := by unfold wrap64; omega
    have e2 : ((xs.length : Int) - a) = z := by omega
    obtain ⟨y, hy⟩ : ∃ y : Int, y = ((xs.length - a - k : Nat) : Int) := ⟨_, rfl⟩
    have e3 : wrap64 y = y := by unfold wrap64; omega
    have e4 : z - (k : Int) = y := by omega
    by_cases hfew : xs.length < a + k + n
    · have hd : decide (y < (n : Int)) = true := decide_eq_true (by omega)
      have HF := Lib.hid hfew
      clear hp h1 hg hk hpk hmo hz hy hfew ha hs hkl
      go_wp2_with fail
      go_quiet (fail)
      go_wp2_with fail
      refine (fail_calls base p xs a 0 5 _ (H1.out.grown (pw_below_drewN (Below.refl _ _) _))).mono ?_
      rintro r w2 ⟨rfl, h2, hg⟩
      have H2 := Lib.hid h2
      have HG2 := Lib.hid (World.grownBy.trans (World.grownBy.trans HG.out (grown_none (pw_below_drewN (Below.refl _ _) _) p)) hg)
      clear h2 hg
      go_wp2_with fail
      go_ret
      exact ⟨none, 0, [], a, 5, rfl, ow0 _ _, .inr ⟨rfl, n, k, HPK.out, .inr (.inr (.inl ⟨HK0.out, HMO.out, HF.out, rfl, rfl, rfl⟩))⟩, H2.out, HG2.out⟩
    · have hd : decide (y < (n : Int)) = false := decide_eq_false (by omega)
      have HF := Lib.hid hfew
      have HKL := Lib.hid hkl
      have hsum : (a : Int) + (k : Int) ≤ 9223372036854775807 := by omega
      clear hp h1 hg hk hpk hmo hz hy hfew ha hs hkl
      go_wp2_with fail
      go_quiet (fail)
      go_wp2_with fail
      refine (take_ok base p xs (a + k) n _ (set1' (H1.out.grown (pw_below_drewN (Below.refl _ _) _)) (a + k) HKL.out _ (by omega)) (by have := HF.out; omega)).mono ?_
      rintro r w2 ⟨A2, c2', rfl, hc2, hC2, h2, hg⟩
      have H2 := Lib.hid h2
      have HG2 := Lib.hid (World.grownBy.trans (World.grownBy.trans (World.grownBy.trans HG.out (grown_none (pw_below_drewN (Below.refl _ _) _) p)) (grown_set _ _ _ _)) hg)
      clear h2 hg
      obtain ⟨ys, hys⟩ : ∃ ys, ys = (xs.drop (a + k)).take n := ⟨_, rfl⟩
      rw [← hys] at hC2
      have HY := Lib.hid hys
      clear hys
      have HC2 := Lib.hid hC2
      have hn : n ≤ 140737488355328 := by have := HF.out; have := HLL.out; omega
      clear hC2
      go_wp2_with fail
      refine (clone_any A2 n c2' _ w2 hc2 HC2.out hn).mono ?_
      rintro r w3 ⟨A3, c3, rfl, ho3, hb⟩
      have H3 := Lib.hid (H2.out.grown hb)
      have HG3 := Lib.hid (World.grownBy.trans HG2.out (grown_none hb p))
      have HO3 := Lib.hid (Ow.lower ho3 HG2.out.size)
      clear hb ho3 hn hc2
      go_wp2_with fail
      go_ret
      exact ⟨A3, c3, ys, a + k + n, 0, rfl, HO3.out, .inr ⟨rfl, n, k, HPK.out, .inr (.inr (.inr ⟨HK0.out, HMO.out, by have := HF.out; omega, HY.out, rfl, rfl⟩))⟩, H3.out, HG3.out⟩
/-- What reading a byte does. -/
def RdY (xs : List Int) (a : Nat) (n : Int) (a' : Nat) (e' : Int) : Prop := (xs.length < a + 1 ∧ n = 0 ∧ a' = a ∧ e' = 5) ∨ (xs[a]? = some n ∧ a' = a + 1 ∧ e' = 0)
set_option maxHeartbeats 1600000 in
theorem byteR (base p : Nat) (xs : List Int) (a : Nat) (w : World) (h : IsRd w base p xs a 0) :
    Calls Try.prog 51 #[.pointer (some ⟨p, 0, none⟩)] w fun r w' => ∃ (n : Int) (a' : Nat) (e' : Int), r = .returned (.int .u8 n) ∧ RdY xs a n a' e' ∧ IsRd w' base p xs a' e' ∧ w.grownBy w' (some p) := by
  have H := Lib.hid h
  by_cases hn : xs.length < a + 1
  · have T := Lib.hid (take_few base p xs a 1 w h hn)
    have HN := Lib.hid hn
    clear h hn
    go_enter Try.func51, Try.ntmps51
    go_wp2_with fail
    refine T.out.mono ?_
    rintro r w1 ⟨rfl, h1, hg⟩
    have H1 := Lib.hid h1
    have HG := Lib.hid hg
    clear h1 hg T
    go_wp2_with fail
    go_ret
    exact ⟨0, a, 5, rfl, .inl ⟨HN.out, rfl, rfl, rfl⟩, H1.out, HG.out⟩
  · have T := Lib.hid (take_ok base p xs a 1 w h (by omega))
    have ha : a < xs.length := by omega
    have HN := Lib.hid ha
    clear h hn
    go_enter Try.func51, Try.ntmps51
    go_wp2_with fail
    refine T.out.mono ?_
    rintro r w1 ⟨A, c, rfl, hc, hC, h1, hg⟩
    have hx : xs[a]? = some xs[a] := List.getElem?_eq_getElem ha
    have e : (xs.drop a).take 1 = [xs[a]] := by rw [List.drop_eq_getElem_cons ha]; rfl
    rw [e] at hC
    obtain ⟨ad, x, hx1, hA, c0⟩ := at_B hC 0 (by decide)
    obtain rfl : xs[a] = x := Option.some.inj hx1
    subst hA
    have H1 := Lib.hid h1
    have HG := Lib.hid hg
    have HX := Lib.hid hx
    obtain ⟨z, hz⟩ : ∃ z, z = xs[a] := ⟨_, rfl⟩
    rw [← hz] at c0 HX
    have c0' : w1.cell? ad = some (.int .u8 z) := c0
    have n0 : 0 < c := hc
    clear h1 hg T hx e hx1 hC ha hz
    have hq := fun W => Go.run_eql_slice_nil (P := Try.prog) W 39 5 (some ad) 1 c Try.underlying39
    go_wp2_with fail
    go_ret
    exact ⟨z, a + 1, 0, rfl, .inr ⟨HX.out, rfl, rfl⟩, H1.out, HG.out⟩
end Go.Proofs.Ytcilojakgnjjmaa.RdK
/- No value's bytes begin another one's: the plain law. -/
set_option linter.unusedSimpArgs false
set_option linter.unusedVariables false
namespace Go.Proofs.Ytcilojakgnjjmaa.MeD
open Go Go.RowKit PAll MeP MeA MeT MeV MeQ MeU WireP RdK
theorem byt_nums {xs : List Int} (h : ∀ c ∈ xs, 0 ≤ c ∧ c < 256) : byt (strOfNums xs) = xs := by
  have e : (strOfNums xs).data.toList = xs.map fun n => UInt8.ofNat n.toNat := rfl
  unfold byt
  rw [e, List.map_map]
  conv => rhs; rw [← List.map_id xs]
  refine List.map_congr_left fun c hc => ?_
  have := h c hc
  show ((UInt8.ofNat c.toNat).toNat : Int) = c
  rw [UInt8.toNat_ofNat']
  omega
theorem byt_range (s : ByteArray) : ∀ c ∈ byt s, 0 ≤ c ∧ c < 256 := by
  intro c hc
  unfold byt at hc
  obtain ⟨b, _, rfl⟩ := List.mem_map.1 hc
  have := b.toNat_lt
  omega
theorem uv_range : ∀ (n : Nat), ∀ c ∈ uv n, 0 ≤ c ∧ c < 256 := by
  intro n
  induction n using Nat.strongRecOn with
  | _ n ih =>
    intro c hc
    by_cases h : n < 128
    · rw [uv_lt h, List.mem_singleton] at hc
      omega
    · rw [uv_ge (by omega)] at hc
      rcases List.mem_cons.1 hc with rfl | hc
      · omega
      · exact ih (n / 128) (by omega) c hc
/-- What a value that may be is, and its bytes. -/
theorem shape {n : Nat} {v : V} (hm : mayN n v = true) :
    (v = ⟨0, 0, ⟨#[]⟩, []⟩ ∧ encN n v = [0]) ∨ (v = ⟨1, 0, ⟨#[]⟩, []⟩ ∧ encN n v = [1]) ∨ (v = ⟨1, 1, ⟨#[]⟩, []⟩ ∧ encN n v = [2]) ∨
    (∃ x, v = ⟨2, x, ⟨#[]⟩, []⟩ ∧ encN n v = 3 :: uv (zig x)) ∨ (∃ s, v = ⟨3, 0, s, []⟩ ∧ encN n v = 4 :: (uv (byt s).length ++ byt s)) ∨
    (∃ s, v = ⟨4, 0, s, []⟩ ∧ encN n v = 5 :: (uv (byt s).length ++ byt s)) ∨
    (∃ m l, n = m + 1 ∧ v = ⟨5, 0, ⟨#[]⟩, l⟩ ∧ (∀ x ∈ l, mayN m x = true) ∧ encN n v = 6 :: (uv l.length ++ l.flatMap (encN m))) := by
  have hs := mayN_sh hm
  have hk := kinds hm
  have hL := fun h => leaf_nil (v := v) hm h
  obtain ⟨f0, f1, f2, f3⟩ := v
  simp only at hk hL
  have hlf : ∀ (h : f0 = 0 ∨ f0 = 1 ∨ f0 = 2 ∨ f0 = 3 ∨ f0 = 4), encN n ⟨f0, f1, f2, f3⟩ = base ⟨f0, f1, f2, f3⟩ [] := fun h => enc_leaf h
  rcases hk with rfl | rfl | rfl | rfl | rfl | rfl
  · obtain rfl := hL (by decide)
    have hs' : (f1 == 0 && (nt f2 && true)) = true := hs
    simp only [Bool.and_eq_true, beq_iff_eq, Bool.and_true] at hs'
    obtain ⟨rfl, q2⟩ := hs'
    obtain rfl := nt_eq q2
    exact .inl ⟨rfl, hlf (.inl rfl)⟩
  · obtain rfl := hL (by decide)
    have hs' : ((f1 == 0 || f1 == 1) && (nt f2 && true)) = true := hs
    simp only [Bool.and_eq_true, Bool.or_eq_true, beq_iff_eq, Bool.and_true] at hs'
    obtain ⟨rfl | rfl, q2⟩ := hs'
    · obtain rfl := nt_eq q2
      exact .inr (.inl ⟨rfl, hlf (.inr (.inl rfl))⟩)
    · obtain rfl := nt_eq q2
      exact .inr (.inr (.inl ⟨rfl, hlf (.inr (.inl rfl))⟩))
  · obtain rfl := hL (by decide)
    have hs' : (nt f2 && true) = true := hs
    simp only [Bool.and_true] at hs'
    obtain rfl := nt_eq hs'
    exact .inr (.inr (.inr (.inl ⟨f1, rfl, hlf (.inr (.inr (.inl rfl)))⟩)))
  · obtain rfl := hL (by decide)
    have hs' : (f1 == 0 && true) = true := hs
    simp only [Bool.and_true, beq_iff_eq] at hs'
    obtain rfl := hs'
    exact .inr (.inr (.inr (.inr (.inl ⟨f2, rfl, hlf (.inr (.inr (.inr (.inl rfl))))⟩))))
  · obtain rfl := hL (by decide)
    have hs' : (f1 == 0 && true) = true := hs
    simp only [Bool.and_true, beq_iff_eq] at hs'
    obtain rfl := hs'
    exact .inr (.inr (.inr (.inr (.inr (.inl ⟨f2, rfl, hlf (.inr (.inr (.inr (.inr rfl))))⟩)))))
  · obtain ⟨m, rfl, hall⟩ := mayN_list rfl hm
    have hs' : (f1 == 0 && nt f2) = true := hs
    simp only [Bool.and_eq_true, beq_iff_eq] at hs'
    obtain ⟨rfl, q2⟩ := hs'
    obtain rfl := nt_eq q2
    exact .inr (.inr (.inr (.inr (.inr (.inr ⟨m, f3, rfl, rfl, hall, rfl⟩)))))
theorem uv_cut {a b : Nat} {s t : List Int} (h : uv a ++ s = uv b ++ t) : a = b ∧ s = t := by
  have e := uv_prefix a b t ⟨s, h⟩
  subst e
  exact ⟨rfl, List.append_cancel_left h⟩
theorem zig_inj {x y : Int} (h : zig x = zig y) : x = y := by
  have := congrArg unzig h
  rwa [unzig_zig, unzig_zig] at this
theorem byt_inj {s t : ByteArray} (h : byt s = byt t) : s = t := by
  have := congrArg strOfNums h
  rwa [byt_str, byt_str] at this
theorem text_cut {a b : ByteArray} {s t : List Int} (h : uv (byt a).length ++ byt a ++ s = uv (byt b).length ++ byt b ++ t) : a = b ∧ s = t := by
  rw [List.append_assoc, List.append_assoc] at h
  obtain ⟨h1, h2⟩ := uv_cut h
  obtain ⟨h3, h4⟩ := List.append_inj h2 h1
  exact ⟨byt_inj h3, h4⟩
theorem list_cut {m k : Nat} (ih : ∀ v : V, mayN m v = true → ∀ (u : V) (s t : List Int), mayN k u = true → encN m v ++ s = encN k u ++ t → v = u ∧ s = t) : ∀ (l q : List V) (s t : List Int), (∀ x ∈ l, mayN m x = true) → (∀ x ∈ q, mayN k x = true) → l.length = q.length → l.flatMap (encN m) ++ s = q.flatMap (encN k) ++ t → l = q ∧ s = t := by
  intro l
  induction l with
  | nil =>
    intro q s t _ _ hl h
    obtain rfl : q = [] := List.eq_nil_of_length_eq_zero (by simpa using hl.symm)
    exact ⟨rfl, h⟩
  | cons x l ih2 =>
    intro q s t h1 h2 hl h
    cases q with
    | nil => simp at hl
    | cons y q =>
      rw [List.flatMap_cons, List.flatMap_cons, List.append_assoc, List.append_assoc] at h
      obtain ⟨rfl, h3⟩ := ih x (h1 x (List.mem_cons_self ..)) y _ _ (h2 y (List.mem_cons_self ..)) h
      obtain ⟨rfl, h4⟩ := ih2 q s t (fun z hz => h1 z (List.mem_cons_of_mem _ hz)) (fun z hz => h2 z (List.mem_cons_of_mem _ hz)) (by simpa using hl) h3
      exact ⟨rfl, h4⟩
/-- No value's bytes begin another one's. -/
theorem enc_cut : ∀ (n : Nat) (v : V), mayN n v = true → ∀ (k : Nat) (u : V) (s t : List Int), mayN k u = true → encN n v ++ s = encN k u ++ t → v = u ∧ s = t := by
  intro n
  induction n with
  | zero =>
    intro v hv k u s t hu h
    rcases shape hv with ⟨rfl, e⟩ | ⟨rfl, e⟩ | ⟨rfl, e⟩ | ⟨x, rfl, e⟩ | ⟨x, rfl, e⟩ | ⟨x, rfl, e⟩ | ⟨m, l, h0, _⟩
    case inr.inr.inr.inr.inr.inr => omega
    all_goals
      rcases shape hu with ⟨rfl, f⟩ | ⟨rfl, f⟩ | ⟨rfl, f⟩ | ⟨y, rfl, f⟩ | ⟨y, rfl, f⟩ | ⟨y, rfl, f⟩ | ⟨m, l, rfl, rfl, hl, f⟩ <;> rw [e, f] at h <;> simp only [List.cons_append, List.nil_append, List.cons.injEq, true_and, false_and, reduceCtorEq] at h <;> first
      | (exfalso; omega)
      | exact ⟨rfl, h⟩
      | (obtain ⟨h1, h2⟩ := uv_cut h
         obtain rfl := zig_inj h1
         exact ⟨rfl, h2⟩)
      | (obtain ⟨rfl, h2⟩ := text_cut h
         exact ⟨rfl, h2⟩)
  | succ n ih =>
    intro v hv k u s t hu h
    rcases shape hv with ⟨rfl, e⟩ | ⟨rfl, e⟩ | ⟨rfl, e⟩ | ⟨x, rfl, e⟩ | ⟨x, rfl, e⟩ | ⟨x, rfl, e⟩ | ⟨m, l, h0, rfl, hl, e⟩
    all_goals
      rcases shape hu with ⟨rfl, f⟩ | ⟨rfl, f⟩ | ⟨rfl, f⟩ | ⟨y, rfl, f⟩ | ⟨y, rfl, f⟩ | ⟨y, rfl, f⟩ | ⟨m2, l2, rfl, rfl, hl2, f⟩ <;> rw [e, f] at h <;> simp only [List.cons_append, List.nil_append, List.cons.injEq, true_and, false_and, reduceCtorEq] at h <;> first
      | (exfalso; omega)
      | exact ⟨rfl, h⟩
      | (obtain ⟨h1, h2⟩ := uv_cut h
         obtain rfl := zig_inj h1
         exact ⟨rfl, h2⟩)
      | (obtain ⟨rfl, h2⟩ := text_cut h
         exact ⟨rfl, h2⟩)
      | (obtain rfl : m = n := by omega
         rw [List.append_assoc, List.append_assoc] at h
         obtain ⟨h1, h2⟩ := uv_cut h
         obtain ⟨rfl, h3⟩ := list_cut (fun v hv u s t hu h => ih v hv m2 u s t hu h) l l2 s t hl hl2 h1 h2
         exact ⟨rfl, h3⟩)
theorem enc_pos {n : Nat} {v : V} (hm : mayN n v = true) : 0 < (encN n v).length := by
  rcases shape hm with ⟨_, e⟩ | ⟨_, e⟩ | ⟨_, e⟩ | ⟨_, _, e⟩ | ⟨_, _, e⟩ | ⟨_, _, e⟩ | ⟨_, _, _, _, _, e⟩ <;> rw [e] <;> simp
theorem flat_len {m : Nat} : ∀ {l : List V}, (∀ x ∈ l, mayN m x = true) → l.length ≤ (l.flatMap (encN m)).length
  | [], _ => by simp
  | x :: l, h => by
    rw [List.flatMap_cons, List.length_append, List.length_cons]
    have h1 := enc_pos (h x (List.mem_cons_self ..))
    have h2 := flat_len (l := l) (fun z hz => h z (List.mem_cons_of_mem _ hz))
    omega
theorem enc_range : ∀ (n : Nat) (v : V), mayN n v = true → ∀ c ∈ encN n v, 0 ≤ c ∧ c < 256 := by
  intro n
  induction n with
  | zero =>
    intro v hv c hc
    rcases shape hv with ⟨_, e⟩ | ⟨_, e⟩ | ⟨_, e⟩ | ⟨x, _, e⟩ | ⟨x, _, e⟩ | ⟨x, _, e⟩ | ⟨m, l, h0, _⟩
    case inr.inr.inr.inr.inr.inr => omega
    all_goals
      rw [e] at hc
      simp only [List.mem_cons, List.mem_append, List.not_mem_nil, or_false] at hc
      first
      | (omega)
      | (rcases hc with rfl | hc
         · omega
         · exact uv_range _ c hc)
      | (rcases hc with rfl | hc | hc
         · omega
         · exact uv_range _ c hc
         · exact byt_range _ c hc)
  | succ n ih =>
    intro v hv c hc
    rcases shape hv with ⟨_, e⟩ | ⟨_, e⟩ | ⟨_, e⟩ | ⟨x, _, e⟩ | ⟨x, _, e⟩ | ⟨x, _, e⟩ | ⟨m, l, h0, _, hl, e⟩
    all_goals
      rw [e] at hc
      simp only [List.mem_cons, List.mem_append, List.not_mem_nil, or_false, List.mem_flatMap] at hc
      first
      | (omega)
      | (rcases hc with rfl | hc
         · omega
         · exact uv_range _ c hc)
      | (rcases hc with rfl | hc | hc
         · omega
         · exact uv_range _ c hc
         · exact byt_range _ c hc)
      | (obtain rfl : m = n := by omega
         rcases hc with rfl | hc | ⟨x, hx, hc⟩
         · omega
         · exact uv_range _ c hc
         · exact ih x (hl x hx) c hc)
end Go.Proofs.Ytcilojakgnjjmaa.MeD
/- A tree read. -/
set_option linter.unusedSimpArgs false
set_option linter.unusedVariables false
namespace Go.Proofs.Ytcilojakgnjjmaa.GeW
open Go Go.RowKit Go.Proofs.YtcilojakgnjjmaaW.PrintWords Go.Proofs.YtcilojakgnjjmaaW.PrintLast Go.Proofs.YtcilojakgnjjmaaW.PrintMore Mem PAll MeP MeN MeA MeT MeV MeQ MeU MeD WireP UvW VrW RdK
theorem nt_e : nt ⟨#[]⟩ = true := by
  unfold nt
  rw [Lib.toList_data]
  rfl
theorem may0 (n : Nat) : mayN n ⟨0, 0, ⟨#[]⟩, []⟩ = true := by
  rw [mayN_leaf (by simp)]
  show ((0 : Int) == 0 && (nt ⟨#[]⟩ && true)) = true
  rw [nt_e]; rfl
theorem may1 (n : Nat) : mayN n ⟨1, 0, ⟨#[]⟩, []⟩ = true := by
  rw [mayN_leaf (by simp)]
  show (((0 : Int) == 0 || (0 : Int) == 1) && (nt ⟨#[]⟩ && true)) = true
  rw [nt_e]; rfl
theorem may1t (n : Nat) : mayN n ⟨1, 1, ⟨#[]⟩, []⟩ = true := by
  rw [mayN_leaf (by simp)]
  show (((1 : Int) == 0 || (1 : Int) == 1) && (nt ⟨#[]⟩ && true)) = true
  rw [nt_e]; rfl
theorem may2 (n : Nat) (x : Int) : mayN n ⟨2, x, ⟨#[]⟩, []⟩ = true := by
  rw [mayN_leaf (by simp)]
  show (nt ⟨#[]⟩ && true) = true
  rw [nt_e]; rfl
theorem may3 (n : Nat) (s : ByteArray) : mayN n ⟨3, 0, s, []⟩ = true := by
  rw [mayN_leaf (by simp)]
  rfl
theorem may4 (n : Nat) (s : ByteArray) : mayN n ⟨4, 0, s, []⟩ = true := by
  rw [mayN_leaf (by simp)]
  rfl
theorem quiet_any {P : Program} {f : FuncId} {args : Array Value} {w : World} {n : Nat} {v : Value} (c : ∀ m, Calls P f args (w.drewN m) fun e w' => e = .returned v ∧ ∃ k, w' = (w.drewN m).drewN k) :
    Calls P f args (w.drewN n) fun e w'' => e = .returned v ∧ ∃ m, w'' = w.drewN m :=
  (c n).mono fun _ _ ⟨he, m, hm⟩ => ⟨he, n + m, by rw [hm, World.drewN_drewN]⟩
/-- What get gives: a value's tree, or none is there. -/
def Got (xs : List Int) (d : Int) (a base p : Nat) (w w' : World) (r : Ending) : Prop :=
  ∃ (av : Value) (ok : Bool) (b : Nat) (e : Int), r = .returned (.tuple #[av, .bool ok]) ∧ IsRd w' base p xs b e ∧ w.grownBy w' (some p) ∧ w.heap.size ≤ w'.heap.size ∧
    ((ok = false ∧ ∀ (u : V) (t : List Int), mayN d.toNat u = true → Fit d.toNat u → xs.drop a ≠ encN d.toNat u ++ t) ∨
     (ok = true ∧ e = 0 ∧ a < b ∧ ∃ v, mayN d.toNat v = true ∧ Sz v ∧ An d.toNat w' (fun k => w.heap.size ≤ k) v av ∧ xs.drop a = encN d.toNat v ++ xs.drop b))
theorem byte_end (base p : Nat) (xs : List Int) (a : Nat) (w : World) (h : IsRd w base p xs a 0) (hx : xs.length ≤ a) :
    Calls Try.prog 51 #[.pointer (some ⟨p, 0, none⟩)] w fun r w' => r = .returned (.int .u8 0) ∧ IsRd w' base p xs a 5 ∧ w.grownBy w' (some p) :=
  (byteR base p xs a w h).mono (fun r w' ⟨n, a', e', h1, h2, h3, h4⟩ => by
    rcases h2 with ⟨_, rfl, rfl, rfl⟩ | ⟨g, _⟩
    · exact ⟨h1, h3, h4⟩
    · rw [List.getElem?_eq_none (by omega)] at g
      cases g)
theorem byte_at (base p : Nat) (xs : List Int) (a : Nat) (w : World) (n : Int) (h : IsRd w base p xs a 0) (hx : xs[a]? = some n) :
    Calls Try.prog 51 #[.pointer (some ⟨p, 0, none⟩)] w fun r w' => r = .returned (.int .u8 n) ∧ IsRd w' base p xs (a + 1) 0 ∧ w.grownBy w' (some p) :=
  (byteR base p xs a w h).mono (fun r w' ⟨m, a', e', h1, h2, h3, h4⟩ => by
    rcases h2 with ⟨g, _⟩ | ⟨g, rfl, rfl⟩
    · have := (List.getElem?_eq_some_iff.1 hx).1
      omega
    · rw [hx] at g
      obtain rfl := Option.some.inj g
      exact ⟨h1, h3, h4⟩)
theorem drop_at {xs : List Int} {a : Nat} {n : Int} (h : xs[a]? = some n) : xs.drop a = n :: xs.drop (a + 1) := by
  obtain ⟨h1, rfl⟩ := List.getElem?_eq_some_iff.1 h
  exact List.drop_eq_getElem_cons h1
theorem err_q {w : World} {base p : Nat} {xs : List Int} {a : Nat} {e : Int} (h : IsRd w base p xs a e) : ∀ m, Calls Try.prog 52 #[.pointer (some ⟨p, 0, none⟩)] (w.drewN m) fun r w' => r = .returned (.int .i64 e) ∧ ∃ k, w' = (w.drewN m).drewN k :=
  fun m => (err_calls base p xs a e _ (h.grown (pw_below_drewN (Below.refl _ _) _))).mono (fun r w' ⟨k1, k2⟩ => ⟨k1, 0, k2.symm⟩)
/-- A first byte that is none of a value's. -/
theorem none_head {n : Nat} {u : V} {xs t : List Int} {x : Int} {ys : List Int} (hm : mayN n u = true) (hx : xs = x :: ys) (h : xs = encN n u ++ t) : 0 ≤ x ∧ x ≤ 6 ∧ (x = 6 → ∃ m l, n = m + 1 ∧ u = ⟨5, 0, ⟨#[]⟩, l⟩ ∧ (∀ y ∈ l, mayN m y = true) ∧ ys = uv l.length ++ (l.flatMap (encN m) ++ t)) ∧ (x = 3 → ∃ y, u = ⟨2, y, ⟨#[]⟩, []⟩ ∧ ys = uv (zig y) ++ t) ∧ (x = 4 → ∃ s, u = ⟨3, 0, s, []⟩ ∧ ys = uv (byt s).length ++ (byt s ++ t)) ∧ (x = 5 → ∃ s, u = ⟨4, 0, s, []⟩ ∧ ys = uv (byt s).length ++ (byt s ++ t)) := by
  rw [hx] at h
  rcases MeD.shape hm with ⟨rfl, e⟩ | ⟨rfl, e⟩ | ⟨rfl, e⟩ | ⟨y, rfl, e⟩ | ⟨s, rfl, e⟩ | ⟨s, rfl, e⟩ | ⟨m, l, rfl, rfl, hl, e⟩ <;> rw [e] at h <;> simp only [List.cons_append, List.nil_append, List.cons.injEq] at h <;> obtain ⟨rfl, h⟩ := h <;> refine ⟨by omega, by omega, ?_, ?_, ?_, ?_⟩ <;> intro hk <;> first
    | (exfalso; omega)
    | exact ⟨_, rfl, h⟩
    | exact ⟨_, rfl, by rw [h, List.append_assoc]⟩
    | exact ⟨m, l, rfl, rfl, hl, by rw [h, List.append_assoc]⟩
set_option maxHeartbeats 4000000 in
theorem get_end (base p : Nat) (xs : List Int) (a : Nat) (d : Int) (w : World) (h : IsRd w base p xs a 0) (hx : xs.length ≤ a) :
    Calls Try.prog 40 #[.pointer (some ⟨p, 0, none⟩), .int .i64 d] w fun r w' => Got xs d a base p w w' r := by
  have T := Lib.hid (byte_end base p xs a w h hx)
  have HX := Lib.hid hx
  clear h hx
  go_enter Try.func40, Try.ntmps40
  go_wp2_with fail
  refine T.out.mono ?_
  rintro r w1 ⟨rfl, h1, hg⟩
  have H1 := Lib.hid h1
  have HG := Lib.hid hg
  clear h1 hg T
  go_wp2_with fail
  refine (err_calls base p xs a 5 w1 H1.out).mono ?_
  rintro r w9 ⟨rfl, rfl⟩
  go_wp2_with fail
  go_ret2
  refine ⟨_, _, a, 5, rfl, H1.out, HG.out, HG.out.size, .inl ⟨rfl, fun u t hm _ he => ?_⟩⟩
  rw [List.drop_eq_nil_of_le HX.out] at he
  have h1 := enc_pos hm
  have h2 := congrArg List.length he
  rw [List.length_append] at h2
  simp only [List.length_nil] at h2
  omega
set_option maxHeartbeats 4000000 in
theorem get_other (base p : Nat) (xs : List Int) (a : Nat) (d : Int) (w : World) (n : Int) (h : IsRd w base p xs a 0) (hx : xs[a]? = some n) (hn : n < 0 ∨ 6 < n) :
    Calls Try.prog 40 #[.pointer (some ⟨p, 0, none⟩), .int .i64 d] w fun r w' => Got xs d a base p w w' r := by
  have T := Lib.hid (byte_at base p xs a w n h hx)
  have HX := Lib.hid hx
  have HN := Lib.hid hn
  have n0 : (n == 0) = false := beq_eq_false_iff_ne.2 (by omega)
  have n1 : (n == 1) = false := beq_eq_false_iff_ne.2 (by omega)
  have n2 : (n == 2) = false := beq_eq_false_iff_ne.2 (by omega)
  have n3 : (n == 3) = false := beq_eq_false_iff_ne.2 (by omega)
  have n4 : (n == 4) = false := beq_eq_false_iff_ne.2 (by omega)
  have n5 : (n == 5) = false := beq_eq_false_iff_ne.2 (by omega)
  have n6 : (n == 6) = false := beq_eq_false_iff_ne.2 (by omega)
  clear h hx hn
  go_enter Try.func40, Try.ntmps40
  go_wp2_with fail
  refine T.out.mono ?_
  rintro r w1 ⟨rfl, h1, hg⟩
  have H1 := Lib.hid h1
  have HG := Lib.hid hg
  clear h1 hg T
  go_wp2_with fail
  go_ret2
  refine ⟨_, _, a + 1, 0, rfl, H1.out, HG.out, HG.out.size, .inl ⟨rfl, fun u t hm _ he => ?_⟩⟩
  have h1 := none_head hm (drop_at HX.out) he
  have h2 := HN.out
  omega
set_option maxHeartbeats 4000000 in
theorem get0 (base p : Nat) (xs : List Int) (a : Nat) (d : Int) (w : World) (h : IsRd w base p xs a 0) (hx : xs[a]? = some 0) :
    Calls Try.prog 40 #[.pointer (some ⟨p, 0, none⟩), .int .i64 d] w fun r w' => Got xs d a base p w w' r := by
  have T := Lib.hid (byte_at base p xs a w 0 h hx)
  have HX := Lib.hid hx
  clear h hx
  go_enter Try.func40, Try.ntmps40
  go_wp2_with fail
  refine T.out.mono ?_
  rintro r w1 ⟨rfl, h1, hg⟩
  have H1 := Lib.hid h1
  have HG := Lib.hid hg
  clear h1 hg T
  go_wp2_with fail
  refine (err_calls base p xs (a + 1) 0 w1 H1.out).mono ?_
  rintro r w9 ⟨rfl, rfl⟩
  go_wp2_with fail
  go_ret2
  refine ⟨_, _, a + 1, 0, rfl, H1.out, HG.out, HG.out.size, .inr ⟨rfl, rfl, by omega, ⟨0, 0, ⟨#[]⟩, []⟩, ?_, ?_, ?_, ?_⟩⟩
  · exact may0 _
  · exact .mk _ (by decide) (fun x hx => nomatch hx)
  · unfold An
    exact .inl ⟨rfl, rfl⟩
  · rw [drop_at HX.out, enc_leaf (by simp)]
    rfl
set_option maxHeartbeats 4000000 in
theorem get1 (base p : Nat) (xs : List Int) (a : Nat) (d : Int) (w : World) (h : IsRd w base p xs a 0) (hx : xs[a]? = some 1) :
    Calls Try.prog 40 #[.pointer (some ⟨p, 0, none⟩), .int .i64 d] w fun r w' => Got xs d a base p w w' r := by
  have T := Lib.hid (byte_at base p xs a w 1 h hx)
  have HX := Lib.hid hx
  clear h hx
  go_enter Try.func40, Try.ntmps40
  go_wp2_with fail
  refine T.out.mono ?_
  rintro r w1 ⟨rfl, h1, hg⟩
  have H1 := Lib.hid h1
  have HG := Lib.hid hg
  clear h1 hg T
  go_wp2_with fail
  go_ret2
  refine ⟨_, _, a + 1, 0, rfl, H1.out, HG.out, HG.out.size, .inr ⟨rfl, rfl, by omega, ⟨1, 0, ⟨#[]⟩, []⟩, ?_, ?_, ?_, ?_⟩⟩
  · exact may1 _
  · exact .mk _ (by decide) (fun x hx => nomatch hx)
  · unfold An
    exact .inr (.inl ⟨rfl, rfl⟩)
  · rw [drop_at HX.out, enc_leaf (by simp)]
    rfl
set_option maxHeartbeats 4000000 in
theorem get2 (base p : Nat) (xs : List Int) (a : Nat) (d : Int) (w : World) (h : IsRd w base p xs a 0) (hx : xs[a]? = some 2) :
    Calls Try.prog 40 #[.pointer (some ⟨p, 0, none⟩), .int .i64 d] w fun r w' => Got xs d a base p w w' r := by
  have T := Lib.hid (byte_at base p xs a w 2 h hx)
  have HX := Lib.hid hx
  clear h hx
  go_enter Try.func40, Try.ntmps40
  go_wp2_with fail
  refine T.out.mono ?_
  rintro r w1 ⟨rfl, h1, hg⟩
  have H1 := Lib.hid h1
  have HG := Lib.hid hg
  clear h1 hg T
  go_wp2_with fail
  go_ret2
  refine ⟨_, _, a + 1, 0, rfl, H1.out, HG.out, HG.out.size, .inr ⟨rfl, rfl, by omega, ⟨1, 1, ⟨#[]⟩, []⟩, ?_, ?_, ?_, ?_⟩⟩
  · exact may1t _
  · exact .mk _ (by decide) (fun x hx => nomatch hx)
  · unfold An
    exact .inr (.inl ⟨rfl, rfl⟩)
  · rw [drop_at HX.out, enc_leaf (by simp)]
    rfl
theorem leaf_sz {f0 f1 : Int} {f2 : ByteArray} (h : (-9223372036854775808 ≤ f1 ∧ f1 < 9223372036854775808) ∧ f2.size ≤ 140737488355328) : Sz ⟨f0, f1, f2, []⟩ :=
  .mk _ ⟨Nat.zero_le _, h⟩ (fun x hx => nomatch hx)
theorem unzig_range {n : Nat} (h : n < 18446744073709551616) : -9223372036854775808 ≤ unzig n ∧ unzig n < 9223372036854775808 := by
  unfold unzig
  split <;> omega
set_option maxHeartbeats 4000000 in
theorem get3 (base p : Nat) (xs : List Int) (a : Nat) (d : Int) (w : World) (h : IsRd w base p xs a 0) (hx : xs[a]? = some 3) (hb : ∀ c ∈ xs, 0 ≤ c ∧ c < 256) :
    Calls Try.prog 40 #[.pointer (some ⟨p, 0, none⟩), .int .i64 d] w fun r w' => Got xs d a base p w w' r := by
  have T := Lib.hid (byte_at base p xs a w 3 h hx)
  have HX := Lib.hid hx
  have HBY := Lib.hid hb
  clear h hx hb
  go_enter Try.func40, Try.ntmps40
  go_wp2_with fail
  refine T.out.mono ?_
  rintro r w1 ⟨rfl, h1, hg⟩
  have H1 := Lib.hid h1
  have HG := Lib.hid hg
  clear h1 hg T
  go_wp2_with fail
  refine (varintR_calls base p xs (a + 1) 0 w1 H1.out HBY.out).mono ?_
  rintro r w2 ⟨n, b, e, rfl, h1, h2, hg⟩
  have HR := Lib.hid h1
  have H2 := Lib.hid h2
  have HG2 := Lib.hid (World.grownBy.trans HG.out hg)
  have hcs : (e = 0 ∧ ∃ k, PkOk (xs.drop (a + 1)) n k ∧ b = a + 1 + k ∧ 0 < k) ∨ (e = 5 ∧ PkOk (xs.drop (a + 1)) n 0) := by
    rcases h1 with ⟨h, _⟩ | ⟨_, k, hp, hb, he⟩
    · exact absurd rfl h
    · by_cases hk : k = 0
      · rw [if_pos hk] at he
        rw [hk] at hp
        exact .inr ⟨he, hp⟩
      · rw [if_neg hk] at he
        exact .inl ⟨he, k, hp, hb, by omega⟩
  clear h1 h2 hg
  rcases hcs with ⟨rfl, k, hp, hb, hk⟩ | ⟨rfl, hp⟩
  · have HP := Lib.hid hp
    have HB := Lib.hid hb
    have HK := Lib.hid hk
    clear hp hb hk
    go_wp2_with fail
    refine (err_calls base p xs b 0 w2 H2.out).mono ?_
    rintro r w9 ⟨rfl, rfl⟩
    go_wp2_with fail
    go_ret2
    rcases HP.out with ⟨_, hn, ⟨t, ht⟩, hkk⟩ | ⟨_, h, _⟩
    · refine ⟨_, _, b, 0, rfl, H2.out, HG2.out, HG2.out.size, .inr ⟨rfl, rfl, by have := HB.out; omega, ⟨2, unzig n, ⟨#[]⟩, []⟩, ?_, ?_, ?_, ?_⟩⟩
      · exact may2 _ _
      · exact leaf_sz ⟨unzig_range hn, by decide⟩
      · unfold An
        exact .inr (.inr (.inl ⟨rfl, rfl⟩))
      · rw [drop_at HX.out, enc_leaf (.inr (.inr (.inl rfl)))]
        show 3 :: xs.drop (a + 1) = 3 :: (uv (zig (unzig n)) ++ xs.drop b)
        have e : xs.drop (a + 1 + k) = (xs.drop (a + 1)).drop k := by rw [List.drop_drop]
        rw [zig_unzig, HB.out, e, ← ht, hkk, List.drop_left]
    · have := HK.out
      omega
  · have HP := Lib.hid hp
    clear hp
    go_wp2_with fail
    refine (err_calls base p xs b 5 w2 H2.out).mono ?_
    rintro r w9 ⟨rfl, rfl⟩
    go_wp2_with fail
    go_ret2
    refine ⟨_, _, b, 5, rfl, H2.out, HG2.out, HG2.out.size, .inl ⟨rfl, fun u t hm hf he => ?_⟩⟩
    obtain ⟨y, rfl, hy⟩ := (none_head hm (drop_at HX.out) he).2.2.2.1 rfl
    have hr := hf.here.2.1
    rcases HP.out with ⟨h, _⟩ | ⟨_, _, h⟩
    · omega
    · exact h _ (zig_lt hr) ⟨t, hy.symm⟩
set_option maxHeartbeats 4000000 in
theorem get4 (base p : Nat) (xs : List Int) (a : Nat) (d : Int) (w : World) (h : IsRd w base p xs a 0) (hx : xs[a]? = some 4) (hb : ∀ c ∈ xs, 0 ≤ c ∧ c < 256) (hl : xs.length ≤ 1048576) :
    Calls Try.prog 40 #[.pointer (some ⟨p, 0, none⟩), .int .i64 d] w fun r w' => Got xs d a base p w w' r := by
  have T := Lib.hid (byte_at base p xs a w 4 h hx)
  have HX := Lib.hid hx
  have HBY := Lib.hid hb
  have HLL := Lib.hid hl
  have HLT := Lib.hid h.lt
  clear h hx hb hl
  go_enter Try.func40, Try.ntmps40
  go_wp2_with fail
  refine T.out.mono ?_
  rintro r w1 ⟨rfl, h1, hg⟩
  have H1 := Lib.hid h1
  have HG := Lib.hid hg
  clear h1 hg T
  go_wp2_with fail
  refine (bytesR base p xs (a + 1) 0 1048576 w1 H1.out HBY.out (by decide) (by have := HLL.out; omega)).mono ?_
  rintro r w2 ⟨A2, c2, ys, b, e, rfl, ho, h1, h2, hg⟩
  have H2 := Lib.hid h2
  have HG2 := Lib.hid (World.grownBy.trans HG.out hg)
  have HS1 := Lib.hid HG.out.size
  obtain ⟨_, _, hsl, hc2, hC2⟩ := ho.reads
  injection hsl with q1 q2 q3
  subst q1
  subst q3
  clear q2
  have hcs : (e = 0 ∧ ∃ n k, PkOk (xs.drop (a + 1)) n k ∧ 0 < k ∧ a + 1 + k + n ≤ xs.length ∧ ys = (xs.drop (a + 1 + k)).take n ∧ b = a + 1 + k + n) ∨ (e ≠ 0 ∧ ∀ (s : ByteArray) (t : List Int), xs.drop (a + 1) ≠ uv (byt s).length ++ (byt s ++ t)) := by
    have hle : ∀ (s : ByteArray) (t : List Int), xs.drop (a + 1) = uv (byt s).length ++ (byt s ++ t) → (byt s).length ≤ xs.length ∧ ∀ m k, PkOk (xs.drop (a + 1)) m k → m = (byt s).length ∧ k = (uv (byt s).length).length ∧ a + 1 + k + m ≤ xs.length := by
      intro s t h
      have e1 := congrArg List.length h
      simp only [List.length_drop, List.length_append] at e1
      have e2 := HLL.out
      have e0 := uv_pos (byt s).length
      refine ⟨by omega, fun m k hp => ?_⟩
      rw [h] at hp
      obtain ⟨rfl, rfl⟩ := pk_of_uv (by omega) hp
      exact ⟨rfl, rfl, by omega⟩
    rcases h1 with ⟨h, _⟩ | ⟨_, m, k, hp, h⟩
    · exact absurd rfl h
    · rcases h with ⟨rfl, _, _, rfl⟩ | ⟨h0, h1, _, _, rfl⟩ | ⟨h0, h1, h2, _, _, rfl⟩ | ⟨g0, g1, g2, g3, g4, rfl⟩
      · refine .inr ⟨by decide, fun s t h => ?_⟩
        obtain ⟨q1, q2⟩ := hle s t h
        obtain ⟨_, q3, _⟩ := q2 _ _ hp
        have := uv_pos (byt s).length
        omega
      · refine .inr ⟨by decide, fun s t h => ?_⟩
        obtain ⟨q1, q2⟩ := hle s t h
        obtain ⟨q4, q3, _⟩ := q2 _ _ hp
        have := HLL.out
        omega
      · refine .inr ⟨by decide, fun s t h => ?_⟩
        obtain ⟨q1, q2⟩ := hle s t h
        obtain ⟨q4, q3, q5⟩ := q2 _ _ hp
        omega
      · exact .inl ⟨rfl, m, k, hp, g0, g2, g3, g4⟩
  have hyr : ∀ c ∈ ys, 0 ≤ c ∧ c < 256 := by
    rcases h1 with ⟨_, rfl, _⟩ | ⟨_, m, k, hp, h⟩
    · intro c hc; exact nomatch hc
    · rcases h with ⟨_, rfl, _⟩ | ⟨_, _, rfl, _⟩ | ⟨_, _, _, rfl, _⟩ | ⟨_, _, _, rfl, _⟩
      · intro c hc; exact nomatch hc
      · intro c hc; exact nomatch hc
      · intro c hc; exact nomatch hc
      · intro c hc; exact HBY.out c (List.mem_of_mem_drop (List.mem_of_mem_take hc))
  have hyl : ys.length ≤ xs.length := by
    rcases h1 with ⟨_, rfl, _⟩ | ⟨_, m, k, hp, h⟩
    · simp
    · rcases h with ⟨_, rfl, _⟩ | ⟨_, _, rfl, _⟩ | ⟨_, _, _, rfl, _⟩ | ⟨_, _, _, rfl, _⟩
      · simp
      · simp
      · simp
      · simp only [List.length_take, List.length_drop]; omega
  have HYR := Lib.hid hyr
  have HYL := Lib.hid hyl
  have HCS := Lib.hid hcs
  have HO := Lib.hid ho
  have HC := Lib.hid hC2
  have TE := Lib.hid (err_q h2)
  have hcv := fun m => Kd.C_string (P := Try.prog) (c := c2) Try.underlying39 Try.underlying5 Try.underlying9 (Kd.C_below hC2 (pw_below_drewN (Below.refl _ _) m))
  have hcv0 := hcv 0
  have H0 := Lib.hid hcv
  clear h1 h2 hg ho hc2 hC2 hyr hyl hcs
  go_wp2_with fail
  clear hcv0
  have hcv := H0.out
  go_quiet (first | (go_at_call 52; exact quiet_any TE.out) | fail)
  go_wp2_with fail
  go_ret2
  have H3 := fun m => H2.out.grown (pw_below_drewN (Below.refl w2.heap.size w2) m)
  have HG3 := fun m => World.grownBy.trans HG2.out (grown_none (pw_below_drewN (Below.refl w2.heap.size w2) m) p)
  rcases HCS.out with ⟨rfl, n, k, hp, hk, hle, hy, hb⟩ | ⟨he, hno⟩
  · have hbs : (strOfNums ys).size = ys.length := by rw [← byt_len, byt_nums HYR.out]
    refine ⟨_, _, b, 0, rfl, (H3 _), (HG3 _), ((HG3 _)).size, .inr ⟨rfl, rfl, by omega, ⟨3, 0, strOfNums ys, []⟩, ?_, ?_, ?_, ?_⟩⟩
    · exact may3 _ _
    · exact leaf_sz ⟨by decide, by rw [hbs]; have := HYL.out; have := HLL.out; omega⟩
    · unfold An
      exact .inr (.inr (.inr (.inl ⟨rfl, rfl⟩)))
    · rw [drop_at HX.out, enc_leaf (by simp)]
      show 4 :: xs.drop (a + 1) = 4 :: (uv (byt (strOfNums ys)).length ++ byt (strOfNums ys) ++ xs.drop b)
      rw [byt_nums HYR.out, hb]
      rcases hp with ⟨_, hn, ⟨t, ht⟩, hkk⟩ | ⟨_, h, _⟩
      · have hy1 : ys.length = n := by rw [hy, List.length_take, List.length_drop]; omega
        have e : xs.drop (a + 1 + k + n) = (xs.drop (a + 1 + k)).drop n := by rw [List.drop_drop]
        have e2 : xs.drop (a + 1 + k) = (xs.drop (a + 1)).drop k := by rw [List.drop_drop]
        rw [hy1, e, List.append_assoc, hy, List.take_append_drop, e2, ← ht, hkk, List.drop_left]
      · omega
  · refine ⟨_, _, b, e, rfl, (H3 _), (HG3 _), ((HG3 _)).size, .inl ⟨by simpa using he, fun u t hm hf hq => ?_⟩⟩
    obtain ⟨s, rfl, hy⟩ := (none_head hm (drop_at HX.out) hq).2.2.2.2.1 rfl
    exact hno s t hy
theorem R_form0 {α : Type} {d : Kd α} {e : TypeId} {w : World} {base : Nat} {ok : Nat → Prop} {v : Value} {xs : List α} (h : d.R e w base ok v xs) (hn : ∃ k, v.ownBlock = some k) : ∃ g cap, v = .slice (some ⟨g, 0, none⟩) xs.length cap ∧ base ≤ g ∧ g < w.heap.size := by
  obtain ⟨k, hk⟩ := hn
  obtain ⟨inner, ho⟩ := Kd.R_own h
  have h1 := Kd.R_base h k hk
  have h2 := Kd.R_lt h k hk
  rcases ho.2 with ⟨rfl, _⟩ | ⟨g, cap, cur, rfl, _⟩
  · cases hk
  · obtain rfl : g = k := Option.some.inj hk
    exact ⟨g, cap, rfl, h1, h2⟩
set_option maxHeartbeats 4000000 in
theorem get5 (base p : Nat) (xs : List Int) (a : Nat) (d : Int) (w : World) (h : IsRd w base p xs a 0) (hx : xs[a]? = some 5) (hb : ∀ c ∈ xs, 0 ≤ c ∧ c < 256) (hl : xs.length ≤ 1048576) :
    Calls Try.prog 40 #[.pointer (some ⟨p, 0, none⟩), .int .i64 d] w fun r w' => Got xs d a base p w w' r := by
  have T := Lib.hid (byte_at base p xs a w 5 h hx)
  have HX := Lib.hid hx
  have HBY := Lib.hid hb
  have HLL := Lib.hid hl
  have HLT := Lib.hid h.lt
  clear h hx hb hl
  go_enter Try.func40, Try.ntmps40
  go_wp2_with fail
  refine T.out.mono ?_
  rintro r w1 ⟨rfl, h1, hg⟩
  have H1 := Lib.hid h1
  have HG := Lib.hid hg
  clear h1 hg T
  go_wp2_with fail
  refine (bytesR base p xs (a + 1) 0 1048576 w1 H1.out HBY.out (by decide) (by have := HLL.out; omega)).mono ?_
  rintro r w2 ⟨A2, c2, ys, b, e, rfl, ho, h1, h2, hg⟩
  have H2 := Lib.hid h2
  have HG2 := Lib.hid (World.grownBy.trans HG.out hg)
  have HS1 := Lib.hid HG.out.size
  obtain ⟨_, _, hsl, hc2, hC2⟩ := ho.reads
  injection hsl with q1 q2 q3
  subst q1
  subst q3
  clear q2
  have hcs : (e = 0 ∧ ∃ n k, PkOk (xs.drop (a + 1)) n k ∧ 0 < k ∧ a + 1 + k + n ≤ xs.length ∧ ys = (xs.drop (a + 1 + k)).take n ∧ b = a + 1 + k + n) ∨ (e ≠ 0 ∧ ∀ (s : ByteArray) (t : List Int), xs.drop (a + 1) ≠ uv (byt s).length ++ (byt s ++ t)) := by
    have hle : ∀ (s : ByteArray) (t : List Int), xs.drop (a + 1) = uv (byt s).length ++ (byt s ++ t) → (byt s).length ≤ xs.length ∧ ∀ m k, PkOk (xs.drop (a + 1)) m k → m = (byt s).length ∧ k = (uv (byt s).length).length ∧ a + 1 + k + m ≤ xs.length := by
      intro s t h
      have e1 := congrArg List.length h
      simp only [List.length_drop, List.length_append] at e1
      have e2 := HLL.out
      have e0 := uv_pos (byt s).length
      refine ⟨by omega, fun m k hp => ?_⟩
      rw [h] at hp
      obtain ⟨rfl, rfl⟩ := pk_of_uv (by omega) hp
      exact ⟨rfl, rfl, by omega⟩
    rcases h1 with ⟨h, _⟩ | ⟨_, m, k, hp, h⟩
    · exact absurd rfl h
    · rcases h with ⟨rfl, _, _, rfl⟩ | ⟨h0, h1, _, _, rfl⟩ | ⟨h0, h1, h2, _, _, rfl⟩ | ⟨g0, g1, g2, g3, g4, rfl⟩
      · refine .inr ⟨by decide, fun s t h => ?_⟩
        obtain ⟨q1, q2⟩ := hle s t h
        obtain ⟨_, q3, _⟩ := q2 _ _ hp
        have := uv_pos (byt s).length
        omega
      · refine .inr ⟨by decide, fun s t h => ?_⟩
        obtain ⟨q1, q2⟩ := hle s t h
        obtain ⟨q4, q3, _⟩ := q2 _ _ hp
        have := HLL.out
        omega
      · refine .inr ⟨by decide, fun s t h => ?_⟩
        obtain ⟨q1, q2⟩ := hle s t h
        obtain ⟨q4, q3, q5⟩ := q2 _ _ hp
        omega
      · exact .inl ⟨rfl, m, k, hp, g0, g2, g3, g4⟩
  have hyr : ∀ c ∈ ys, 0 ≤ c ∧ c < 256 := by
    rcases h1 with ⟨_, rfl, _⟩ | ⟨_, m, k, hp, h⟩
    · intro c hc; exact nomatch hc
    · rcases h with ⟨_, rfl, _⟩ | ⟨_, _, rfl, _⟩ | ⟨_, _, _, rfl, _⟩ | ⟨_, _, _, rfl, _⟩
      · intro c hc; exact nomatch hc
      · intro c hc; exact nomatch hc
      · intro c hc; exact nomatch hc
      · intro c hc; exact HBY.out c (List.mem_of_mem_drop (List.mem_of_mem_take hc))
  have hyl : ys.length ≤ xs.length := by
    rcases h1 with ⟨_, rfl, _⟩ | ⟨_, m, k, hp, h⟩
    · simp
    · rcases h with ⟨_, rfl, _⟩ | ⟨_, _, rfl, _⟩ | ⟨_, _, _, rfl, _⟩ | ⟨_, _, _, rfl, _⟩
      · simp
      · simp
      · simp
      · simp only [List.length_take, List.length_drop]; omega
  have HYR := Lib.hid hyr
  have HYL := Lib.hid hyl
  have HCS := Lib.hid hcs
  have HO := Lib.hid ho
  have HC := Lib.hid hC2
  have HB3 := Lib.hid (below_alloc (Below.refl w2.heap.size w2) (.cells #[] 5))
  have HO3 : Hid (BK.R 5 (w2.alloc (.cells #[] 5)) w2.heap.size (fun _ => True) (.slice (some ⟨w2.heap.size, 0, none⟩) 0 0) []) := Lib.hid ⟨fun _ _ => trivial, OwnRow.lit w2 w2.heap.size (ps := []) (inner := []) (Reps.none _ _) (Nat.le_refl _) (Nat.zero_le _)⟩
  have HC3 := Lib.hid (Kd.C_alloc hC2 (.cells #[] 5))
  clear h1 h2 hg ho hc2 hC2 hyr hyl hcs
  go_wp2_with (at_builtin; go_must (refine Kd.R_append_rows BK (w0 := w2) w2.heap.size rfl _ _ 39 5 (.int .u8 0) 1 rfl Try.underlying39 info5 rfl (by decide) (by decide) _ [] ys _ _ _ (fun _ => True) (fun _ => False) rfl rfl (by exact HO3.out) (by exact HC3.out) (fun y cs hk => hk) (fun _ hk => hk.elim) (fun _ _ => trivial) (by exact HB3.out) (by exact HB3.out.size) ?hl ?_; (case hl => have h1 := HYL.out; have h2 := HLL.out; simp; omega)); intro v1 w3 ho hb hg hat; rw [List.nil_append] at ho; clear HB3 hg HO3 HC3; have HO4 := Lib.hid ho; have HB4 := Lib.hid hb; have HA4 := Lib.hid hat; clear ho hb hat)
  refine (err_calls base p xs b e w3 (H2.out.grown HB4.out)).mono ?_
  rintro r w9 ⟨rfl, rfl⟩
  go_wp2_with fail
  go_ret2
  have H3 := H2.out.grown HB4.out
  have HG3 := World.grownBy.trans HG2.out (grown_none HB4.out p)
  rcases HCS.out with ⟨rfl, n, k, hp, hk, hle, hy, hb⟩ | ⟨he, hno⟩
  · obtain ⟨g, cap, rfl, hg1, hg2⟩ := R_form0 HO4.out (by rcases HA4.out with h | ⟨b, h, _⟩; exact ⟨_, h⟩; exact ⟨_, h⟩)
    have hrd := Kd.R_reads' HO4.out
    have hrr : ReadsOf (Value.int .u8) (0 : Int) w3 (some ⟨g, 0, none⟩) ys.length ys := Kd.reads_of_C hrd.2.2
    have hbs : (strOfNums ys).size = ys.length := by rw [← byt_len, byt_nums HYR.out]
    refine ⟨_, _, b, 0, rfl, H3, HG3, (HG3).size, .inr ⟨rfl, rfl, by omega, ⟨4, 0, strOfNums ys, []⟩, ?_, ?_, ?_, ?_⟩⟩
    · exact may4 _ _
    · exact leaf_sz ⟨by decide, by rw [hbs]; have := HYL.out; have := HLL.out; omega⟩
    · unfold An
      refine .inr (.inr (.inr (.inr (.inl ⟨rfl, g, cap, ?_, ?_, Nat.le_trans HG2.out.size hg1, hg2, fun j b hb => ?_⟩))))
      · show Value.iface _ _ = Value.iface _ (.slice _ (byt (strOfNums ys)).length _)
        rw [byt_nums HYR.out]
      · show (byt (strOfNums ys)).length ≤ cap
        rw [byt_nums HYR.out]
        exact hrd.2.1
      · have hb' : (byt (strOfNums ys))[j]? = some b := hb
        rw [byt_nums HYR.out] at hb'
        obtain ⟨hj, rfl⟩ := List.getElem?_eq_some_iff.1 hb'
        obtain ⟨ad, e1, hc⟩ := hrr.2.2 (by omega)
        obtain rfl := Option.some.inj e1
        have := hc j hj
        rw [add_plain, List.getD_eq_getElem?_getD, List.getElem?_eq_getElem hj] at this
        simpa using this
    · rw [drop_at HX.out, enc_leaf (by simp)]
      show 5 :: xs.drop (a + 1) = 5 :: (uv (byt (strOfNums ys)).length ++ byt (strOfNums ys) ++ xs.drop b)
      rw [byt_nums HYR.out, hb]
      rcases hp with ⟨_, hn, ⟨t, ht⟩, hkk⟩ | ⟨_, h, _⟩
      · have hy1 : ys.length = n := by rw [hy, List.length_take, List.length_drop]; omega
        have e : xs.drop (a + 1 + k + n) = (xs.drop (a + 1 + k)).drop n := by rw [List.drop_drop]
        have e2 : xs.drop (a + 1 + k) = (xs.drop (a + 1)).drop k := by rw [List.drop_drop]
        rw [hy1, e, List.append_assoc, hy, List.take_append_drop, e2, ← ht, hkk, List.drop_left]
      · omega
  · refine ⟨_, _, b, e, rfl, H3, HG3, (HG3).size, .inl ⟨by simpa using he, fun u t hm hf hq => ?_⟩⟩
    obtain ⟨s, rfl, hy⟩ := (none_head hm (drop_at HX.out) hq).2.2.2.2.2 rfl
    exact hno s t hy
end Go.Proofs.Ytcilojakgnjjmaa.GeW
/- A tree read: lists; every tree. -/
set_option linter.unusedSimpArgs false
set_option linter.unusedVariables false
namespace Go.Proofs.Ytcilojakgnjjmaa.GeX
open Go Go.RowKit Go.Proofs.YtcilojakgnjjmaaW.PrintWords Go.Proofs.YtcilojakgnjjmaaW.PrintLast Go.Proofs.YtcilojakgnjjmaaW.PrintMore Mem PAll MeP MeN MeA MeT MeV MeQ MeU MeD WireP UvW VrW RdK GeW
/-- A row of trees, a reader moved. -/
theorem rd_row {w w1 : World} {base base' p : Nat} {ok : Nat → Prop} {xs : List Int} {a : Nat} {e : Int} {u : Value} {l : List OC} (h : IsRd w base p xs a e) (hu : kR.R 20 w base' ok u l) (hg : w.grownBy w1 u.ownBlock) : IsRd w1 base p xs a e := by
  obtain ⟨A, c, k1, k2, k3, k4⟩ := h
  refine ⟨A, c, Kd.R_grown2 k1 rfl hg (fun k hk => ?_), blk_grown k2 hg (Kd.R_ne hu k2 (by decide)), k3, k4⟩
  obtain ⟨_, _, _, q, hq, cells, hc⟩ := (Kd.R_bound hu).1 k hk
  have e : q = 20 := by
    have hq' : q ∈ [20] := hq
    exact List.mem_singleton.1 hq'
  subst e
  exact Kd.R_ne k1 hc (by decide)
theorem grown_row {w w4 w5 : World} {p : Nat} {o : Option Nat} (h : w.grownBy w4 (some p)) (g : w4.grownBy w5 o) (ho : ∀ k, o = some k → w.heap.size ≤ k) : w.grownBy w5 (some p) := by
  refine ⟨g.1.trans h.1, g.2.trans h.2, g.3.trans h.3, Nat.le_trans h.size g.size, fun k hk hne => ?_⟩
  rw [g.block k (Nat.lt_of_lt_of_le hk h.size) (fun e => by have := ho k e.symm; omega)]
  exact h.block k hk hne
set_option maxHeartbeats 16000000 in
set_option maxRecDepth 100000 in
theorem get6 (base p : Nat) (xs : List Int) (a : Nat) (d : Int) (w : World) (m : Nat) (h : IsRd w base p xs a 0) (hx : xs[a]? = some 6) (hb : ∀ c ∈ xs, 0 ≤ c ∧ c < 256) (hl : xs.length ≤ 1048576)
    (hd : -9223372036854775807 ≤ d ∧ d < 9223372036854775808) (hm : (d - 1).toNat = m)
    (T : ∀ (b : Nat) (w : World), a < b → IsRd w base p xs b 0 → Calls Try.prog 40 #[.pointer (some ⟨p, 0, none⟩), .int .i64 (d - 1)] w fun r w' => Got xs (d - 1) b base p w w' r) :
    Calls Try.prog 40 #[.pointer (some ⟨p, 0, none⟩), .int .i64 d] w fun r w' => Got xs d a base p w w' r := by
  have HLT0 := Lib.hid h.lt
  have T0 := Lib.hid (byte_at base p xs a w 6 h hx)
  have HX := Lib.hid hx
  have HBY := Lib.hid hb
  have HLL := Lib.hid hl
  have HT := Lib.hid T
  have HMM := Lib.hid hm
  have hdw : wrap64 (d - 1) = d - 1 := by unfold wrap64; omega
  have HDW := Lib.hid hdw
  have hdm : (0 < d ∧ d.toNat = m + 1) ∨ (¬ 0 < d ∧ m = 0 ∧ d.toNat = 0) := by omega
  have HDM := Lib.hid hdm
  clear h hx hb hl T hm hd hdw hdm
  go_enter Try.func40, Try.ntmps40
  go_wp2_with fail
  refine T0.out.mono ?_
  rintro r w1 ⟨rfl, h1, hg⟩
  have H1 := Lib.hid h1
  have HG := Lib.hid hg
  have HR1 : Hid (IsRd (w1.alloc (.cells #[] 20)) base p xs (a + 1) 0) := Lib.hid (h1.grown (below_alloc (Below.refl _ _) _))
  have HGA : Hid (w.grownBy (w1.alloc (.cells #[] 20)) (some p)) := Lib.hid (World.grownBy.trans hg (grown_none (below_alloc (Below.refl _ _) _) p))
  have HOA : Hid (kR.R 20 (w1.alloc (.cells #[] 20)) w.heap.size (fun _ => True) (.slice (some ⟨w1.heap.size, 0, none⟩) 0 0) []) := Lib.hid ⟨fun _ _ => trivial, OwnRow.lit w1 w.heap.size (ps := []) (inner := []) (Reps.none _ _) hg.size (Nat.zero_le _)⟩
  have HFA : Hid (∃ (g cc : Nat), Value.slice (some ⟨w1.heap.size, 0, none⟩) 0 0 = .slice (some ⟨g, 0, none⟩) ([] : List OC).length cc ∧ ([] : List OC).length ≤ cc ∧ w.heap.size ≤ g ∧ g < (w1.alloc (.cells #[] 20)).heap.size) := Lib.hid ⟨w1.heap.size, 0, rfl, Nat.le_refl _, hg.size, by simp only [World.alloc, Array.size_push]; omega⟩
  have TN := Lib.hid (numberR base p xs (a + 1) 0 1048576 _ HR1.out HBY.out (by decide))
  obtain ⟨wa, hwa⟩ : ∃ wa, wa = w1.alloc (.cells #[] 20) := ⟨_, rfl⟩
  have HWA := Lib.hid hwa
  rw [← hwa] at HR1 HGA HOA HFA TN
  clear h1 hg T0 hwa
  go_wp2_with fail
  rw [← HWA.out]
  refine TN.out.mono ?_
  rintro r w2 ⟨n', c0, e1, rfl, hrn, h2, hg⟩
  -- what was read
  have hcs : (e1 = 0 ∧ ∃ n k : Nat, n' = n ∧ PkOk (xs.drop (a + 1)) n k ∧ 0 < k ∧ n ≤ 1048576 ∧ c0 = a + 1 + k) ∨ (e1 ≠ 0 ∧ n' = ((0 : Nat) : Int) ∧ c0 = a + 1 ∧ ∀ (l : List V) (t : List Int), (∀ y ∈ l, mayN m y = true) → xs.drop (a + 1) ≠ uv l.length ++ (l.flatMap (encN m) ++ t)) := by
    have hle : ∀ (l : List V) (t : List Int), (∀ y ∈ l, mayN m y = true) → xs.drop (a + 1) = uv l.length ++ (l.flatMap (encN m) ++ t) → l.length ≤ 1048576 ∧ ∀ q k, PkOk (xs.drop (a + 1)) q k → q = l.length ∧ k = (uv l.length).length := by
      intro l t hlm h
      have e1 := congrArg List.length h
      simp only [List.length_drop, List.length_append] at e1
      have e2 := HLL.out
      have e3 := flat_len hlm
      refine ⟨by omega, fun q k hp => ?_⟩
      rw [h] at hp
      exact pk_of_uv (by omega) hp
    rcases hrn with ⟨h, _⟩ | ⟨_, q, k, hp, h⟩
    · exact absurd rfl h
    · rcases h with ⟨rfl, rfl, rfl, rfl⟩ | ⟨g0, g1, rfl, rfl, rfl⟩ | ⟨g0, g1, rfl, rfl, rfl⟩
      · refine .inr ⟨by decide, rfl, rfl, fun l t hlm h => ?_⟩
        have := ((hle l t hlm h).2 _ _ hp).2
        have := uv_pos l.length
        omega
      · refine .inr ⟨by decide, rfl, rfl, fun l t hlm h => ?_⟩
        have h1 := ((hle l t hlm h).2 _ _ hp).1
        have h2 := (hle l t hlm h).1
        omega
      · exact .inl ⟨rfl, q, k, rfl, hp, g0, by omega, rfl⟩
  obtain ⟨n, hn⟩ : ∃ n : Nat, n' = (n : Int) := by
    rcases hcs with ⟨_, n, _, h, _⟩ | ⟨_, h, _⟩
    · exact ⟨n, h⟩
    · exact ⟨0, h⟩
  subst hn
  have hnl : n ≤ 1048576 := by
    rcases hcs with ⟨_, q, _, h, _, _, h2, _⟩ | ⟨_, h, _⟩ <;> omega
  have hne : 0 < n → e1 = 0 := fun h => by
    rcases hcs with ⟨h, _⟩ | ⟨_, h2, _⟩
    · exact h
    · omega
  have hca : a < c0 := by
    rcases hcs with ⟨_, q, k, _, _, h1, _, h2⟩ | ⟨_, _, h, _⟩ <;> omega
  have hGW2 := World.grownBy.trans HGA.out hg
  have HCS := Lib.hid hcs
  have HNL := Lib.hid hnl
  have HNE := Lib.hid hne
  have HCA := Lib.hid hca
  have HGW := Lib.hid hGW2
  have HRD := Lib.hid h2
  have HOB : Hid (kR.R 20 w2 w.heap.size (fun _ => True) (.slice (some ⟨w1.heap.size, 0, none⟩) 0 0) []) := Lib.hid (Kd.R_mono (Kd.R_grown (Kd.R_mono (Kd.R_bound HOA.out) (fun k hk => (hk.2.1 : w.heap.size ≤ k))) hg (fun k hk e => by have := Option.some.inj e; have := HLT0.out; omega)) (fun _ _ => trivial))
  have HFB : Hid (∃ (g cc : Nat), Value.slice (some ⟨w1.heap.size, 0, none⟩) 0 0 = .slice (some ⟨g, 0, none⟩) ([] : List OC).length cc ∧ ([] : List OC).length ≤ cc ∧ w.heap.size ≤ g ∧ g < w2.heap.size) := Lib.hid (by obtain ⟨g, cc, q1, q2, q3, q4⟩ := HFA.out; exact ⟨g, cc, q1, q2, q3, Nat.lt_of_lt_of_le q4 hg.size⟩)
  clear hrn h2 hg hcs hne hca hGW2 HR1 HGA HOA HFA TN HWA H1 HG
  go_wp2_with fail
  go_loopw [9, 60] (fun l' i' wr => ∃ (i : Nat) (vs : List V) (ls : List OC) (lv : Value) (b : Nat), lv = l' ∧ i' = .int .i64 i ∧ Hid (i ≤ n) ∧ Hid (vs.length = i ∧ ls.length = i) ∧ Hid (kR.R 20 wr w.heap.size (fun _ => True) lv ls) ∧ Hid (∃ (g cc : Nat), lv = .slice (some ⟨g, 0, none⟩) ls.length cc ∧ ls.length ≤ cc ∧ w.heap.size ≤ g ∧ g < wr.heap.size) ∧ Hid (∀ (j : Nat) (y : OC) (x : V), ls[j]? = some y → vs[j]? = some x → An m wr (fun k => w.heap.size ≤ k ∧ some k ≠ lv.ownBlock) x y.1) ∧ Hid (∀ x ∈ vs, mayN m x = true ∧ Sz x) ∧ Hid (IsRd wr base p xs b e1) ∧ Hid (c0 ≤ b) ∧ Hid (xs.drop c0 = vs.flatMap (encN m) ++ xs.drop b) ∧ Hid (w.grownBy wr (some p))) (fun _ i' _ => (n - intOf i').toNat)
  case atStart => exact ⟨0, [], [], _, c0, rfl, rfl, Lib.hid (Nat.zero_le _), Lib.hid ⟨rfl, rfl⟩, HOB, HFB, Lib.hid (fun j y x hj => by cases hj), Lib.hid (fun x hx => nomatch hx), HRD, Lib.hid (Nat.le_refl _), Lib.hid rfl, HGW⟩
  case round =>
    obtain ⟨i, vs, ls, lv, b, rfl, rfl, HI, HLEN, HR, HFM, HAN, HMV, HRR, HCB, HEQ, HGR⟩ := hrel
    by_cases h : i < n
    · have hlt : decide (i < n) = true := decide_eq_true h
      have hlt2 : decide ((i : Int) < (n : Int)) = true := decide_eq_true (by omega)
      have i0 : (0 : Int) ≤ i := by omega
      have i1 : (i : Int) < n := by omega
      have he1 := HNE.out (by omega)
      have HRR0 : Hid (IsRd wr base p xs b 0) := Lib.hid (he1 ▸ HRR.out)
      have T3 := Lib.hid (HT.out b wr (Nat.lt_of_lt_of_le HCA.out HCB.out) HRR0.out)
      have T4 : Hid (∀ z : Int, z = d - 1 → Calls Try.prog 40 #[.pointer (some ⟨p, 0, none⟩), .int .i64 z] wr _) := Lib.hid (fun z hz => by rw [hz]; exact T3.out)
      have HLT := Lib.hid h
      clear h he1
      go_wp2_with fail
      refine (T4.out _ (by first | exact HDW.out | rfl)).mono ?_
      rintro r w4 ⟨av, ok, b4, e4, rfl, hr4, hg4, hs4, hgot⟩
      rcases hgot with ⟨rfl, hbad⟩ | ⟨rfl, rfl, hab, x, hmx, hsx, hax, hex⟩
      · have HR4 := Lib.hid hr4
        have HG4 := Lib.hid (World.grownBy.trans HGR.out hg4)
        have HBAD := Lib.hid hbad
        clear hr4 hg4 hs4 hbad T3 T4
        go_wp2_with fail
        go_ret2
        refine ⟨_, _, b4, e4, rfl, HR4.out, HG4.out, HG4.out.size, .inl ⟨rfl, fun u t hm hf he => ?_⟩⟩
        obtain ⟨m2, l, hd1, rfl, hlm, hy⟩ := (none_head hm (GeW.drop_at HX.out) he).2.2.1 rfl
        obtain rfl : m2 = m := by have := HDM.out; omega
        have hfl : ∀ y ∈ l, Fit m2 y := by rw [hd1] at hf; exact hf.2
        rcases HCS.out with ⟨_, q, k, hq, hp, hk0, hq1, hc⟩ | ⟨he, _⟩
        · obtain rfl : n = q := by omega
          rw [hy] at hp
          have hnlen : n = l.length ∧ k = (uv l.length).length := pk_of_uv (by
            have e1 := congrArg List.length hy
            simp only [List.length_drop, List.length_append] at e1
            have e2 := HLL.out
            have e3 := flat_len hlm
            omega) hp
          have hdc : xs.drop c0 = l.flatMap (encN m2) ++ t := by
            have e : xs.drop (a + 1 + k) = (xs.drop (a + 1)).drop k := by rw [List.drop_drop]
            rw [hc, e, hy, hnlen.2, List.drop_left]
          have hil : i < l.length := by have := HLT.out; omega
          have hcut := list_cut (s := xs.drop b) (t := (l.drop i).flatMap (encN m2) ++ t) (fun v hv u s t hu h => enc_cut m2 v hv m2 u s t hu h) vs (l.take i) (by intro z hz; exact (HMV.out z hz).1) (fun z hz => hlm z (List.mem_of_mem_take hz)) (by rw [HLEN.out.1, List.length_take]; omega) (by
            rw [← HEQ.out, hdc, ← List.append_assoc, ← List.flatMap_append, List.take_append_drop])
          have e2 := hcut.2
          rw [List.drop_eq_getElem_cons hil, List.flatMap_cons, List.append_assoc] at e2
          exact HBAD.out l[i] _ (by rw [HMM.out]; exact hlm _ (List.getElem_mem hil)) (by rw [HMM.out]; exact hfl _ (List.getElem_mem hil)) (by rw [HMM.out]; exact e2)
        · exact absurd (HNE.out (by have := HLT.out; omega)) he
      · rw [HMM.out] at hmx hax hex
        have HRD4 : Hid (IsRd w4 base p xs b4 e1) := Lib.hid (by rw [HNE.out (by have := HLT.out; omega)]; exact hr4)
        have HGW4 := Lib.hid (World.grownBy.trans HGR.out hg4)
        have HA4 := Lib.hid hax
        have HMX := Lib.hid (And.intro hmx hsx)
        have HAB := Lib.hid hab
        have HEX := Lib.hid hex
        have HR4 : Hid (kR.R 20 w4 w.heap.size (fun _ => True) lv ls) := Lib.hid (Kd.R_mono (Kd.R_grown (Kd.R_mono (Kd.R_bound HR.out) (fun k hk => (hk.2.1 : w.heap.size ≤ k))) hg4 (fun k hk e => by have := Option.some.inj e; have := HLT0.out; omega)) (fun _ _ => trivial))
        have HR4X := HR4
        have HS4 : Hid (w.heap.size ≤ w4.heap.size) := Lib.hid HGW4.out.size
        have HSW : Hid (w.heap.size ≤ wr.heap.size) := Lib.hid HGR.out.size
        have HN4 : Hid (∀ (j : Nat) (y : OC) (x : V), ls[j]? = some y → vs[j]? = some x → An m w4 (fun k => (w.heap.size ≤ k ∧ some k ≠ lv.ownBlock) ∧ k < wr.heap.size) x y.1) := Lib.hid (fun j y x h1 h2 => An.move (fun k hk hl => ⟨hg4.block k hl (fun e => by have := Option.some.inj e; have := HLT0.out; omega), hk, hl⟩) m x y.1 (HAN.out j y x h1 h2))
        have HOC := Lib.hid (An.one hax)
        have HLO : Hid (∀ k, lv.ownBlock = some k → k < wr.heap.size) := Lib.hid (Kd.R_lt HR.out)
        have hsh := An.shape hax
        clear hr4 hg4 hs4 hab hmx hsx hax hex T3 T4 HR HAN HRR HRR0 HGR
        rcases hsh with rfl | ⟨t9, u9, rfl⟩
        · go_wp2_with (at_builtin; go_must (refine Kd.R_append kR (w0 := w4) w.heap.size rfl _ _ 59 20 .nilIface 16 rfl Try.underlying59 infoA rfl (by decide) (by decide) _ _ ⟨(.nilIface), HOC.out⟩ [(.nilIface)] (fun _ => True) (fun _ => False) rfl rfl rfl (fun _ hk => hk.elim) (fun _ _ => trivial) (by exact HR4.out) (by exact Below.refl _ _) (by exact HS4.out) ?hl ?_; (case hl => have h1 := HLEN.out.2; have h2 := HLT.out; have h3 := HNL.out; omega)); intro v5 w5 ho hb hg hat; have HO5 := Lib.hid ho; have HG5 := Lib.hid hg; have HT5 := Lib.hid hat; clear ho hb hg hat HR4)
          go_roundw
          case rel =>
            refine ⟨i + 1, vs ++ [x], ls ++ [⟨(.nilIface), HOC.out⟩], v5, b4, rfl, by go_num, Lib.hid (by have := HLT.out; omega), Lib.hid ⟨by rw [List.length_append, HLEN.out.1]; rfl, by rw [List.length_append, HLEN.out.2]; rfl⟩, HO5, Lib.hid ?_, Lib.hid ?_, Lib.hid ?_, Lib.hid (rd_row HRD4.out HR4X.out HG5.out), Lib.hid (by have := HCB.out; have := HAB.out; omega), Lib.hid ?_, Lib.hid (grown_row HGW4.out HG5.out (fun k hk => Kd.R_base HR4X.out k hk))⟩
            · obtain ⟨g, cap, h1, h2, h3, _⟩ := Kd.R_form HO5.out (by rw [List.length_append]; simp)
              have h4 := Kd.R_reads' (h1 ▸ HO5.out)
              exact ⟨g, cap, h1, h4.2.1, h2, h3⟩
            · intro j y z hy hz
              have hne : ∀ k, k < w4.heap.size → some k ≠ lv.ownBlock → some k ≠ v5.ownBlock := by
                intro k hk hn he
                rcases HT5.out with h | ⟨b, h, hb⟩
                · exact hn (he.trans h)
                · rw [h] at he
                  have := Option.some.inj he
                  omega
              by_cases hj : j < ls.length
              · have hjv : j < vs.length := by rw [HLEN.out.1]; rw [HLEN.out.2] at hj; exact hj
                rw [List.getElem?_append_left hj] at hy
                rw [List.getElem?_append_left hjv] at hz
                exact An.move (fun k hk hl => ⟨HG5.out.block k hl hk.1.2, hk.1.1, hne k hl hk.1.2⟩) m z y.1 (HN4.out j y z hy hz)
              · have hjl := (List.getElem?_eq_some_iff.1 hy).1
                rw [List.length_append, List.length_singleton] at hjl
                have hji : j = ls.length := by omega
                subst hji
                rw [List.getElem?_append_right (Nat.le_refl _), Nat.sub_self] at hy
                obtain rfl := Option.some.inj hy
                have hjv : vs.length = ls.length := by rw [HLEN.out.1, HLEN.out.2]
                rw [List.getElem?_append_right (by omega), hjv, Nat.sub_self] at hz
                obtain rfl := Option.some.inj hz
                refine An.move (fun k hk hl => ?_) m x (.nilIface) HA4.out
                have hlo : some k ≠ lv.ownBlock := fun e => by
                  have := HLO.out k e.symm
                  omega
                exact ⟨HG5.out.block k hl hlo, Nat.le_trans HSW.out hk, hne k hl hlo⟩
            · intro z hz
              rcases List.mem_append.1 hz with hz | hz
              · exact HMV.out z hz
              · obtain rfl := List.mem_singleton.1 hz
                exact HMX.out
            · rw [HEQ.out, HEX.out, List.flatMap_append, List.append_assoc]
              congr 1
              simp
          case measure => have := HLT.out; simp only [intOf]; omega
        · go_wp2_with (at_builtin; go_must (refine Kd.R_append kR (w0 := w4) w.heap.size rfl _ _ 59 20 .nilIface 16 rfl Try.underlying59 infoA rfl (by decide) (by decide) _ _ ⟨(.iface t9 u9), HOC.out⟩ [(.iface t9 u9)] (fun _ => True) (fun _ => False) rfl rfl rfl (fun _ hk => hk.elim) (fun _ _ => trivial) (by exact HR4.out) (by exact Below.refl _ _) (by exact HS4.out) ?hl ?_; (case hl => have h1 := HLEN.out.2; have h2 := HLT.out; have h3 := HNL.out; omega)); intro v5 w5 ho hb hg hat; have HO5 := Lib.hid ho; have HG5 := Lib.hid hg; have HT5 := Lib.hid hat; clear ho hb hg hat HR4)
          go_roundw
          case rel =>
            refine ⟨i + 1, vs ++ [x], ls ++ [⟨(.iface t9 u9), HOC.out⟩], v5, b4, rfl, by go_num, Lib.hid (by have := HLT.out; omega), Lib.hid ⟨by rw [List.length_append, HLEN.out.1]; rfl, by rw [List.length_append, HLEN.out.2]; rfl⟩, HO5, Lib.hid ?_, Lib.hid ?_, Lib.hid ?_, Lib.hid (rd_row HRD4.out HR4X.out HG5.out), Lib.hid (by have := HCB.out; have := HAB.out; omega), Lib.hid ?_, Lib.hid (grown_row HGW4.out HG5.out (fun k hk => Kd.R_base HR4X.out k hk))⟩
            · obtain ⟨g, cap, h1, h2, h3, _⟩ := Kd.R_form HO5.out (by rw [List.length_append]; simp)
              have h4 := Kd.R_reads' (h1 ▸ HO5.out)
              exact ⟨g, cap, h1, h4.2.1, h2, h3⟩
            · intro j y z hy hz
              have hne : ∀ k, k < w4.heap.size → some k ≠ lv.ownBlock → some k ≠ v5.ownBlock := by
                intro k hk hn he
                rcases HT5.out with h | ⟨b, h, hb⟩
                · exact hn (he.trans h)
                · rw [h] at he
                  have := Option.some.inj he
                  omega
              by_cases hj : j < ls.length
              · have hjv : j < vs.length := by rw [HLEN.out.1]; rw [HLEN.out.2] at hj; exact hj
                rw [List.getElem?_append_left hj] at hy
                rw [List.getElem?_append_left hjv] at hz
                exact An.move (fun k hk hl => ⟨HG5.out.block k hl hk.1.2, hk.1.1, hne k hl hk.1.2⟩) m z y.1 (HN4.out j y z hy hz)
              · have hjl := (List.getElem?_eq_some_iff.1 hy).1
                rw [List.length_append, List.length_singleton] at hjl
                have hji : j = ls.length := by omega
                subst hji
                rw [List.getElem?_append_right (Nat.le_refl _), Nat.sub_self] at hy
                obtain rfl := Option.some.inj hy
                have hjv : vs.length = ls.length := by rw [HLEN.out.1, HLEN.out.2]
                rw [List.getElem?_append_right (by omega), hjv, Nat.sub_self] at hz
                obtain rfl := Option.some.inj hz
                refine An.move (fun k hk hl => ?_) m x (.iface t9 u9) HA4.out
                have hlo : some k ≠ lv.ownBlock := fun e => by
                  have := HLO.out k e.symm
                  omega
                exact ⟨HG5.out.block k hl hlo, Nat.le_trans HSW.out hk, hne k hl hlo⟩
            · intro z hz
              rcases List.mem_append.1 hz with hz | hz
              · exact HMV.out z hz
              · obtain rfl := List.mem_singleton.1 hz
                exact HMX.out
            · rw [HEQ.out, HEX.out, List.flatMap_append, List.append_assoc]
              congr 1
              simp
          case measure => have := HLT.out; simp only [intOf]; omega
    · obtain rfl : i = n := by have := HI.out; omega
      have hlt : decide (i < i) = false := decide_eq_false (Nat.lt_irrefl _)
      have hlt2 : decide ((i : Int) < (i : Int)) = false := decide_eq_false (by omega)
      clear h
      go_wp2_with fail
      refine (err_calls base p xs b e1 wr HRR.out).mono ?_
      rintro r w9 ⟨rfl, rfl⟩
      rcases HCS.out with ⟨he0, q, k, hq, hp, hk0, hq1, hc⟩ | ⟨he, hi0, hc, hno⟩
      · obtain rfl : i = q := by omega
        subst he0
        have HP := Lib.hid hp
        have HC := Lib.hid hc
        have HK0 := Lib.hid hk0
        rcases HDM.out with ⟨hd0, hd1⟩ | ⟨hd0, hd1, hd2⟩
        · have hdd : decide (0 < d) = true := decide_eq_true hd0
          have HD1 := Lib.hid hd1
          clear hp hq1 hk0 hc hq hd0 hd1
          go_wp2_with fail
          go_ret2
          obtain ⟨g, cc, hlv, hcc, hgb, hgl⟩ := HFM.out
          refine ⟨_, _, b, 0, rfl, HRR.out, HGR.out, HGR.out.size, .inr ⟨rfl, rfl, by have := HCA.out; have := HCB.out; omega, ⟨5, 0, ⟨#[]⟩, vs⟩, ?_, ?_, ?_, ?_⟩⟩
          · rw [HD1.out]
            unfold mayN
            rw [Bool.and_eq_true]
            refine ⟨?_, ?_⟩
            · show ((0 : Int) == 0 && nt ⟨#[]⟩) = true
              rw [nt_e]; rfl
            · rw [Bool.or_eq_true]
              exact .inr (List.all_eq_true.2 (fun x hx => (HMV.out x hx).1))
          · exact .mk _ ⟨by show vs.length ≤ _; have := HLEN.out.1; have := HNL.out; omega, (by decide : (-9223372036854775808 : Int) ≤ 0 ∧ (0 : Int) < 9223372036854775808), Nat.zero_le _⟩ (fun x hx => (HMV.out x hx).2)
          · rw [HD1.out]
            unfold An
            refine .inr (.inr (.inr (.inr (.inr ⟨rfl, g, cc, ?_, ?_, hgb, hgl, fun j x hj => ?_⟩))))
            · show Value.iface _ _ = Value.iface _ (.slice _ vs.length _)
              rw [HLEN.out.1, ← HLEN.out.2, ← hlv]
            · show vs.length ≤ cc
              rw [HLEN.out.1, ← HLEN.out.2]; exact hcc
            · have hj' : vs[j]? = some x := hj
              have hjl : j < ls.length := by rw [HLEN.out.2, ← HLEN.out.1]; exact (List.getElem?_eq_some_iff.1 hj').1
              have hrd := (Kd.R_reads' (hlv ▸ HR.out)).2.2
              refine ⟨(ls[j]).1, ?_, (HAN.out j ls[j] x (List.getElem?_eq_getElem hjl) hj').mono (fun k hk _ => hk.1)⟩
              obtain ⟨ad, cs, e, _, hK, hc0⟩ := Kd.C_get hrd (⟨.nilIface, rfl⟩ : OC) (j : Int) (by omega) (by omega)
              have hcs : cs = [(ls[j]).1] := by
                have hK' : cs = [(ls.getD (j : Int).toNat ⟨.nilIface, rfl⟩).1] := hK
                rw [hK', Int.toNat_natCast, List.getD_eq_getElem?_getD, List.getElem?_eq_getElem hjl]
                rfl
              have h0 := hc0 0 (ls[j]).1 (by rw [hcs]; rfl)
              cases e
              have hz : (⟨g, 0, none⟩ : Addr).add ((j : Int).toNat * kR.sz + 0) = ⟨g, j, none⟩ := by
                rw [add_plain]
                congr 1
                show (j : Int).toNat * 1 + 0 = j
                omega
              rw [hz] at h0
              exact h0
          · rw [GeW.drop_at HX.out, HD1.out]
            show 6 :: xs.drop (a + 1) = 6 :: (uv vs.length ++ vs.flatMap (encN m) ++ xs.drop b)
            rw [List.append_assoc, ← HEQ.out, HLEN.out.1, HC.out]
            have e : xs.drop (a + 1 + k) = (xs.drop (a + 1)).drop k := by rw [List.drop_drop]
            rw [e]
            rcases HP.out with ⟨_, hn, ⟨t, ht⟩, hkk⟩ | ⟨_, h, _⟩
            · rw [← ht, hkk, List.drop_left]
            · have := HK0.out
              omega
        · have hdd : decide (0 < d) = false := decide_eq_false (by omega)
          have HD2 := Lib.hid hd2
          clear hp hq1 hk0 hc hq hd0 hd1 hd2
          go_wp2_with fail
          go_ret2
          refine ⟨_, _, b, 0, rfl, HRR.out, HGR.out, HGR.out.size, .inl ⟨rfl, fun u t hm hf he => ?_⟩⟩
          obtain ⟨m2, l, hd1, _⟩ := (none_head hm (GeW.drop_at HX.out) he).2.2.1 rfl
          have := HD2.out
          omega
      · have heb : (e1 == 0) = false := beq_eq_false_iff_ne.2 he
        have HNO := Lib.hid hno
        clear he hi0 hc hno
        go_wp2_with fail
        go_ret2
        refine ⟨_, _, b, e1, rfl, HRR.out, HGR.out, HGR.out.size, .inl ⟨rfl, fun u t hm hf he => ?_⟩⟩
        obtain ⟨m2, l, hd1, rfl, hlm, hy⟩ := (none_head hm (GeW.drop_at HX.out) he).2.2.1 rfl
        obtain rfl : m2 = m := by have := HDM.out; omega
        exact HNO.out l t hlm hy
theorem get_calls (xs : List Int) (hb : ∀ c ∈ xs, 0 ≤ c ∧ c < 256) (hl : xs.length ≤ 1048576) (base p : Nat) : ∀ (f a : Nat) (d : Int) (w : World), xs.length < a + f → -9223372036854775807 + (f : Int) ≤ d → d < 9223372036854775808 → IsRd w base p xs a 0 → Calls Try.prog 40 #[.pointer (some ⟨p, 0, none⟩), .int .i64 d] w fun r w' => Got xs d a base p w w' r := by
  intro f
  induction f with
  | zero => intro a d w h _ _ hr; exact get_end base p xs a d w hr (by omega)
  | succ f ih =>
    intro a d w h h1 h2 hr
    cases hx : xs[a]? with
    | none => exact get_end base p xs a d w hr (List.getElem?_eq_none_iff.1 hx)
    | some n =>
      by_cases h0 : n = 0
      · subst h0; exact get0 base p xs a d w hr hx
      by_cases h0 : n = 1
      · subst h0; exact get1 base p xs a d w hr hx
      by_cases h0 : n = 2
      · subst h0; exact get2 base p xs a d w hr hx
      by_cases h0 : n = 3
      · subst h0; exact get3 base p xs a d w hr hx hb
      by_cases h0 : n = 4
      · subst h0; exact get4 base p xs a d w hr hx hb hl
      by_cases h0 : n = 5
      · subst h0; exact get5 base p xs a d w hr hx hb hl
      by_cases h0 : n = 6
      · subst h0; exact get6 base p xs a d w (d - 1).toNat hr hx hb hl (by omega) rfl (fun b w hab hr => ih b (d - 1) w (by omega) (by omega) (by omega) hr)
      exact get_other base p xs a d w n hr hx (by have := hb n (List.mem_of_getElem? hx); omega)
end Go.Proofs.Ytcilojakgnjjmaa.GeX
/- Which value bytes are: Decode. -/
set_option linter.unusedSimpArgs false
set_option linter.unusedVariables false
namespace Go.Proofs.Ytcilojakgnjjmaa.DeW
open Go Go.RowKit Go.Proofs.YtcilojakgnjjmaaW.PrintWords Go.Proofs.YtcilojakgnjjmaaW.PrintLast Go.Proofs.YtcilojakgnjjmaaW.PrintMore Mem PAll MeP MeN MeA MeT MeV MeK MeQ MeU MeD WireP UvW VrW RdK GeW GeX
/-- What words.Decode gives. -/
def WDec (xs : List Int) (w w' : World) (e : Ending) : Prop := Below w.heap.size w w' ∧
  ((1048576 < xs.length ∧ e = .returned (.tuple #[.nilIface, .int .i64 3])) ∨
   (xs.length ≤ 1048576 ∧ ∃ v av, e = .returned (.tuple #[av, .int .i64 0]) ∧ mayN 16 v = true ∧ Sz v ∧ An 16 w' (fun k => w.heap.size ≤ k) v av ∧ xs = encN 16 v) ∨
   (xs.length ≤ 1048576 ∧ e = .returned (.tuple #[.nilIface, .int .i64 5]) ∧ ∀ u, mayN 16 u = true → Fit 16 u → xs ≠ encN 16 u))
theorem wdec_calls (A : Option Addr) (c : Nat) (xs : List Int) (w : World) (hc : xs.length ≤ c) (hx : BK.C w A xs.length xs) (hb : ∀ c ∈ xs, 0 ≤ c ∧ c < 256) (hl : xs.length ≤ 140737488355328) :
    Calls Try.prog 32 #[.slice A xs.length c] w fun e w' => WDec xs w w' e := by
  by_cases h : 1048576 < xs.length
  · have h1 : decide (1048576 < xs.length) = true := decide_eq_true h
    have h2 : decide ((1048576 : Int) < (xs.length : Int)) = true := decide_eq_true (by omega)
    have HH := Lib.hid h
    clear h hx hb hl hc
    go_enter Try.func32, Try.ntmps32
    go_wp2_with fail
    go_ret2
    exact ⟨Below.refl _ _, .inl ⟨HH.out, rfl⟩⟩
  · have h1 : decide (1048576 < xs.length) = false := decide_eq_false h
    have h2 : decide ((1048576 : Int) < (xs.length : Int)) = false := decide_eq_false (by omega)
    have HH : Hid (xs.length ≤ 1048576) := Lib.hid (by omega)
    have HBY := Lib.hid hb
    have T := Lib.hid (read_calls A c xs w hc hx hl)
    clear h hx hb hl hc
    go_enter Try.func32, Try.ntmps32
    go_wp2_with fail
    refine T.out.mono ?_
    rintro e w1 ⟨p, rfl, hr, hb⟩
    have HB1 := Lib.hid hb
    have HPB : Hid (w.heap.size ≤ p) := Lib.hid (by obtain ⟨_, _, _, _, h, _⟩ := hr; exact h)
    have T := Lib.hid (get_calls xs HBY.out HH.out w.heap.size p (xs.length + 1) 0 16 w1 (by omega) (by have := HH.out; omega) (by decide) hr)
    clear hr hb
    go_wp2_with fail
    refine T.out.mono ?_
    rintro r w2 ⟨av, ok, b, e, rfl, hr2, hg2, hs2, hgot⟩
    have HR2 := Lib.hid hr2
    have HB2 := Lib.hid (HB1.out.grown hg2 HB1.out.size (fun k hk => by have := Option.some.inj hk; have := HPB.out; omega))
    rcases hgot with ⟨rfl, hbad⟩ | ⟨rfl, rfl, hab, v, hm, hsz, han, hex⟩
    · have HBAD := Lib.hid hbad
      clear hr2 hg2 hs2 hbad T
      go_wp2_with fail
      go_ret2
      refine ⟨HB2.out, .inr (.inr ⟨HH.out, rfl, fun u hm hf he => ?_⟩)⟩
      exact HBAD.out u [] hm hf (by rw [List.drop_zero, List.append_nil]; exact he)
    · have HM := Lib.hid hm
      have HSZ := Lib.hid hsz
      have HAN := Lib.hid han
      have HEX := Lib.hid hex
      have HLB := Lib.hid hr2.le
      have TD := Lib.hid (done_calls w.heap.size p xs b 0 w2 hr2)
      rw [if_pos rfl] at TD
      by_cases hbl : b < xs.length
      · rw [if_pos hbl] at TD
        have HBL := Lib.hid hbl
        clear hr2 hg2 hs2 T hm hsz han hex hab hbl
        go_wp2_with fail
        refine TD.out.mono ?_
        rintro r w3 ⟨rfl, hb⟩
        have HB3 := Lib.hid (below_then HB2.out HB2.out.size hb)
        clear hb TD
        go_wp2_with fail
        go_ret2
        refine ⟨HB3.out, .inr (.inr ⟨HH.out, rfl, fun u hmu hf he => ?_⟩)⟩
        have h1 := HEX.out
        rw [List.drop_zero] at h1
        have h2 := (enc_cut 16 v HM.out 16 u (xs.drop b) [] hmu (by rw [List.append_nil, ← he]; exact h1.symm)).2
        have h3 := congrArg List.length h2
        rw [List.length_drop] at h3
        simp only [List.length_nil] at h3
        have := HBL.out
        omega
      · rw [if_neg hbl] at TD
        have HBL := Lib.hid hbl
        clear hr2 hg2 hs2 T hm hsz han hex hab hbl
        go_wp2_with fail
        refine TD.out.mono ?_
        rintro r w3 ⟨rfl, hb⟩
        have HB3 := Lib.hid (below_then HB2.out HB2.out.size hb)
        have HAN3 := Lib.hid (HAN.out.below hb)
        clear hb TD
        go_wp2_with fail
        go_ret2
        refine ⟨HB3.out, .inr (.inl ⟨HH.out, v, av, rfl, HM.out, HSZ.out, An.mono HAN3.out (fun k hk _ => Nat.le_trans HB1.out.size hk), ?_⟩)⟩
        have h1 := HEX.out
        rw [List.drop_zero, List.drop_eq_nil_of_le (by have := HBL.out; omega), List.append_nil] at h1
        exact h1
/-- What message.Decode gives. -/
def Dec (xs : List Int) (w w' : World) (e : Ending) : Prop :=
  (1048576 < xs.length ∧ Gives (z24, 3) w w' e) ∨
  (xs.length ≤ 1048576 ∧ ∃ v, Gives (v, 0) w w' e ∧ mayN 16 v = true ∧ Sz v ∧ xs = encN 16 v) ∨
  (xs.length ≤ 1048576 ∧ Gives (z24, 5) w w' e ∧ ∀ u, mayN 16 u = true → Fit 16 u → xs ≠ encN 16 u)
set_option maxHeartbeats 4000000 in
theorem dec_calls (A : Option Addr) (c : Nat) (xs : List Int) (w : World) (hc : xs.length ≤ c) (hx : BK.C w A xs.length xs) (hb : ∀ c ∈ xs, 0 ≤ c ∧ c < 256) (hl : xs.length ≤ 140737488355328) :
    Calls Try.prog 21 #[.slice A xs.length c] w fun e w' => Dec xs w w' e := by
  have HB0 : Hid (Below w.heap.size w (w.alloc (.cells VZ 24))) := Lib.hid (below_alloc (Below.refl _ _) _)
  have HZ0 : Hid ((w.alloc (.cells VZ 24)).heap[w.heap.size]? = some (.cells VZ 24 (0, 0))) := Lib.hid (blk_new _ _)
  have T := Lib.hid (wdec_calls A c xs (w.alloc (.cells VZ 24)) hc (Kd.C_below hx HB0.out) hb hl)
  clear hc hx hb hl
  go_enter Try.func21, Try.ntmps21
  go_wp2_with fail
  refine T.out.mono ?_
  rintro e w2 ⟨hb, hcs⟩
  have HB2 := Lib.hid (below_then HB0.out HB0.out.size hb)
  have HZ := Lib.hid (blk_below HZ0.out hb)
  clear T hb
  rcases hcs with ⟨h1, rfl⟩ | ⟨h1, v, av, rfl, hm, hsz, han, hex⟩ | ⟨h1, rfl, hno⟩
  · have H1 := Lib.hid h1
    clear h1
    go_wp2_with ((refine gate_ (.store 24 (.tmp 2) (.tmp 13)) rfl ?_; go_must (refine Stb.store_list rfl rfl 24 (.tmp 2) (.tmp 13) rfl (cur' := #[.int .i64 0, .int .i64 0, .string ⟨#[]⟩, .slice none 0 0]) [.int .i64 0, .int .i64 0, .string ⟨#[]⟩, .slice none 0 0] (by exact HZ.out) (by rfl) (by rfl) (by rfl) (by kernel_rfl) (Nat.le_of_ble_eq_true rfl) (by rfl) (by rfl) ?_; intro wf hz_ hg_ hs_; have HF := Lib.hid hz_; have HG := Lib.hid hg_; have HS := Lib.hid hs_; have HBF := Lib.hid (Stb.below_grown1 HB2.out hg_ (Nat.le_refl _) HB2.out.size); clear hz_ hg_ hs_)))
    refine bodyPost_ret (results_ct rfl _ _ w.heap.size 24 #[.int .i64 0, .int .i64 0, .string ⟨#[]⟩, .slice none 0 0] (0, 0) _ rfl HF.out Try.underlying24 rfl (by kernel_rfl)) rfl ?_
    exact .inl ⟨H1.out, gives_zero rfl rfl HBF.out⟩
  · have H1 := Lib.hid h1
    have HM := Lib.hid hm
    have HSZ := Lib.hid hsz
    have HEX := Lib.hid hex
    have T := Lib.hid (value_calls 16 v hm (hsz.fit 16) av w2 (An.mono han (fun _ _ _ => trivial)))
    clear h1 hm hsz han hex
    go_wp2_with fail
    refine T.out.mono ?_
    rintro e w5 ⟨v3, rfl, hr, hb⟩
    obtain ⟨A5, c5, rfl, hc5, hC5⟩ := Kd.R_reads hr
    have HL5 := Lib.hid hc5
    have HR5 := Lib.hid hr
    have HB5 := Lib.hid (below_then HB2.out HB2.out.size hb)
    have HZ5 := Lib.hid (blk_below HZ.out hb)
    have HLT : Hid (w.heap.size < w2.heap.size) := Lib.hid (blk_lt HZ.out)
    clear T hr hb hc5 hC5
    go_wp2_with ((refine gate_ (.store 24 (.tmp 2) (.tmp 16)) rfl ?_; go_must (refine Stb.store_list rfl rfl 24 (.tmp 2) (.tmp 16) rfl (cur' := #[.int .i64 v.f0, .int .i64 v.f1, .string v.f2, .slice A5 v.f3.length c5]) [.int .i64 v.f0, .int .i64 v.f1, .string v.f2, .slice A5 v.f3.length c5] (by exact HZ5.out) (by rfl) (by rfl) (by rfl) (by kernel_rfl) (Nat.le_of_ble_eq_true rfl) (by rfl) (by rfl) ?_; intro wf hz_ hg_ hs_; have HF := Lib.hid hz_; have HG := Lib.hid hg_; have HS := Lib.hid hs_; have HBF := Lib.hid (Stb.below_grown1 HB5.out hg_ (Nat.le_refl _) HB5.out.size); clear hz_ hg_ hs_)))
    refine bodyPost_ret (results_ct rfl _ _ w.heap.size 24 #[.int .i64 v.f0, .int .i64 v.f1, .string v.f2, .slice A5 v.f3.length c5] (0, 0) _ rfl HF.out Try.underlying24 rfl (by kernel_rfl)) rfl ?_
    refine .inr (.inl ⟨H1.out, v, ⟨HBF.out, A5, c5, rfl, HL5.out, ?_⟩, HM.out, HSZ.out, HEX.out⟩)
    have hq := Kd.R_grown (Kd.R_mono (Kd.R_bound HR5.out) (fun k hk => (hk.2.1 : w2.heap.size ≤ k))) HG.out (fun k hk e => by have := Option.some.inj e; have := HLT.out; omega)
    exact (Kd.R_reads' hq).2.2
  · have H1 := Lib.hid h1
    have HNO := Lib.hid hno
    clear h1 hno
    go_wp2_with ((refine gate_ (.store 24 (.tmp 2) (.tmp 13)) rfl ?_; go_must (refine Stb.store_list rfl rfl 24 (.tmp 2) (.tmp 13) rfl (cur' := #[.int .i64 0, .int .i64 0, .string ⟨#[]⟩, .slice none 0 0]) [.int .i64 0, .int .i64 0, .string ⟨#[]⟩, .slice none 0 0] (by exact HZ.out) (by rfl) (by rfl) (by rfl) (by kernel_rfl) (Nat.le_of_ble_eq_true rfl) (by rfl) (by rfl) ?_; intro wf hz_ hg_ hs_; have HF := Lib.hid hz_; have HG := Lib.hid hg_; have HS := Lib.hid hs_; have HBF := Lib.hid (Stb.below_grown1 HB2.out hg_ (Nat.le_refl _) HB2.out.size); clear hz_ hg_ hs_)))
    refine bodyPost_ret (results_ct rfl _ _ w.heap.size 24 #[.int .i64 0, .int .i64 0, .string ⟨#[]⟩, .slice none 0 0] (0, 0) _ rfl HF.out Try.underlying24 rfl (by kernel_rfl)) rfl ?_
    exact .inr (.inr ⟨H1.out, gives_zero rfl rfl HBF.out, HNO.out⟩)
end Go.Proofs.Ytcilojakgnjjmaa.DeW
/- The document's bytes of a value. -/
set_option linter.unusedSimpArgs false
set_option linter.unusedVariables false
namespace Go.Proofs.Ytcilojakgnjjmaa.ByW
open Go Go.RowKit Go.Proofs.YtcilojakgnjjmaaW.PrintWords Go.Proofs.YtcilojakgnjjmaaW.PrintLast Go.Proofs.YtcilojakgnjjmaaW.PrintMore Mem PAll MeP MeN MeA MeT MeV MeQ MeU MeD WireP UvW VrW
theorem ref_varint (n : Int) (w : World) (hn : -9223372036854775808 ≤ n ∧ n < 9223372036854775808) :
    Calls Try.prog 29 #[.int .i64 n] w fun e w' => ∃ v, e = .returned v ∧ Ow .u8 5 w' w.heap.size v (uv (zig n)) ∧ Below w.heap.size w w' := by
  have HN := Lib.hid hn
  by_cases h : n < 0
  · have h1 : decide (n < 0) = true := decide_eq_true h
    have e1 : IntKind.u64.wrap (IntKind.u64.wrap (IntKind.u64.wrap (wrap64 (-(wrap64 (n + 1)))) * 2) + 1) = (zig n : Nat) := by
      simp only [Go.IntKind.wrap_u64, wrap64, zig, if_pos h]; omega
    have HZ := Lib.hid h
    clear h hn
    go_enter Try.func29, Try.ntmps29
    go_wp2_with fail
    refine (ref_uvarint _ w (by have := zig_lt HN.out; omega)).mono ?_
    rintro e w1 ⟨v, rfl, ho, hb⟩
    have HO := Lib.hid ho
    have HB := Lib.hid hb
    clear ho hb
    go_wp2_with fail
    go_ret
    exact ⟨_, rfl, HO.out, HB.out⟩
  · have h1 : decide (n < 0) = false := decide_eq_false h
    have e1 : IntKind.u64.wrap (IntKind.u64.wrap n * 2) = (zig n : Nat) := by
      simp only [Go.IntKind.wrap_u64, zig, if_neg h]; omega
    have HZ := Lib.hid h
    clear h hn
    go_enter Try.func29, Try.ntmps29
    go_wp2_with fail
    refine (ref_uvarint _ w (by have := zig_lt HN.out; omega)).mono ?_
    rintro e w1 ⟨v, rfl, ho, hb⟩
    have HO := Lib.hid ho
    have HB := Lib.hid hb
    clear ho hb
    go_wp2_with fail
    go_ret
    exact ⟨_, rfl, HO.out, HB.out⟩
theorem ref_bytes (B : Option Addr) (m cb : Nat) (ys : List Int) (w : World) (hy : BK.C w B m ys) (hl : m + 10 ≤ 140737488355328) :
    Calls Try.prog 30 #[.slice B m cb] w fun e w' => ∃ v, e = .returned v ∧ Ow .u8 5 w' w.heap.size v (uv m ++ ys) ∧ Below w.heap.size w w' := by
  have HD := Lib.hid hy
  have HL := Lib.hid hl
  clear hl hy
  have hw : IntKind.u64.wrap (m : Int) = (m : Int) := by rw [Go.IntKind.wrap_u64]; have := HL.out; omega
  go_enter Try.func30, Try.ntmps30
  go_wp2_with fail
  refine (ref_uvarint _ w (by have := HL.out; omega)).mono ?_
  rintro e w1 ⟨v, rfl, ho, hb⟩
  have HA := Lib.hid ho
  have HB := Lib.hid hb
  clear ho hb
  go_wp2_with (at_builtin; go_must (refine Kd.R_append_rows BK (w0 := w) w.heap.size rfl _ _ 39 5 (.int .u8 0) 1 rfl Try.underlying39 info5 rfl (by decide) (by decide) _ _ ys _ _ _ (fun _ => True) (fun _ => False) rfl rfl (by exact HA.out) (by exact Kd.C_below HD.out HB.out) (fun y cs hk => hk) (fun _ hk => hk.elim) (fun _ _ => trivial) (by exact HB.out) (by exact HB.out.size) ?hl ?_; (case hl => have h1 := HL.out; have h2 := uv_len10 (n := ((m : Nat) : Int).toNat) (by omega); omega)); intro v1 w2 ho hb hg hg2; clear HB hg hg2; have HO := Lib.hid ho; have HB := Lib.hid hb; clear ho hb)
  go_ret
  exact ⟨_, rfl, HO.out, HB.out⟩
theorem ow_one (w : World) (base : Nat) (hb : base ≤ w.heap.size) (x : Int) : Ow .u8 5 (w.alloc (.cells #[.int .u8 x] 5)) base (.slice (some ⟨w.heap.size, 0, none⟩) 1 1) [x] :=
  ⟨fun _ _ => trivial, OwnRow.lit w base (ps := [x]) (inner := [.int .u8 x]) (Reps.snoc (Reps.none _ _) rfl rfl) hb (Nat.le_of_ble_eq_true rfl)⟩
theorem ow_two (w : World) (o : Obj) (x : Int) : Ow .u8 5 ((w.alloc o).alloc (.cells #[.int .u8 x] 5)) w.heap.size (.slice (some ⟨w.heap.size + 1, 0, none⟩) 1 1) [x] := by
  have e : (w.alloc o).heap.size = w.heap.size + 1 := by simp only [World.alloc, Array.size_push]
  have h := ow_one (w.alloc o) w.heap.size (by rw [e]; omega) x
  rw [e] at h
  exact h
/-- Bytes, a row of the call's own. -/
def Byt (l : List Int) (w w' : World) (e : Ending) : Prop := ∃ v, e = .returned v ∧ Ow .u8 5 w' w.heap.size v l ∧ Below w.heap.size w w'
set_option maxHeartbeats 4000000 in
theorem rb0 (f1 : Int) (f2 : ByteArray) (A : Option Addr) (n c : Nat) (w : World) : Calls Try.prog 20 #[.agg #[.int .i64 0, .int .i64 f1, .string f2, .slice A n c]] w fun e w' => Byt ([0]) w w' e := by
  have HB : Hid (Below w.heap.size w (w.alloc (.cells #[.int .i64 0, .int .i64 f1, .string f2, .slice A n c] 24))) := Lib.hid (below_alloc (Below.refl w.heap.size w) _)
  have HV : Hid ((w.alloc (.cells #[.int .i64 0, .int .i64 f1, .string f2, .slice A n c] 24)).heap[w.heap.size]? = some (.cells #[.int .i64 0, .int .i64 f1, .string f2, .slice A n c] 24 (0, 0))) := Lib.hid (blk_new _ _)
  have c0 := blk_cell HV.out 0
  have c1 := blk_cell HV.out 1
  have c2 := blk_cell HV.out 2
  have c3 := blk_cell HV.out 3
  have HO := Lib.hid (ow_two w (.cells #[.int .i64 0, .int .i64 f1, .string f2, .slice A n c] 24) 0)
  have HB2 := Lib.hid (below_alloc HB.out (.cells #[.int .u8 0] 5))
  go_enter Try.func20, Try.ntmps20
  go_wp2_with fail
  go_ret
  exact ⟨_, rfl, HO.out, HB2.out⟩
set_option maxHeartbeats 4000000 in
theorem rb1f (f2 : ByteArray) (A : Option Addr) (n c : Nat) (w : World) : Calls Try.prog 20 #[.agg #[.int .i64 1, .int .i64 0, .string f2, .slice A n c]] w fun e w' => Byt ([1]) w w' e := by
  have HB : Hid (Below w.heap.size w (w.alloc (.cells #[.int .i64 1, .int .i64 0, .string f2, .slice A n c] 24))) := Lib.hid (below_alloc (Below.refl w.heap.size w) _)
  have HV : Hid ((w.alloc (.cells #[.int .i64 1, .int .i64 0, .string f2, .slice A n c] 24)).heap[w.heap.size]? = some (.cells #[.int .i64 1, .int .i64 0, .string f2, .slice A n c] 24 (0, 0))) := Lib.hid (blk_new _ _)
  have c0 := blk_cell HV.out 0
  have c1 := blk_cell HV.out 1
  have c2 := blk_cell HV.out 2
  have c3 := blk_cell HV.out 3
  have HO := Lib.hid (ow_two w (.cells #[.int .i64 1, .int .i64 0, .string f2, .slice A n c] 24) 1)
  have HB2 := Lib.hid (below_alloc HB.out (.cells #[.int .u8 1] 5))
  go_enter Try.func20, Try.ntmps20
  go_wp2_with fail
  go_ret
  exact ⟨_, rfl, HO.out, HB2.out⟩
set_option maxHeartbeats 4000000 in
theorem rb1t (f2 : ByteArray) (A : Option Addr) (n c : Nat) (w : World) : Calls Try.prog 20 #[.agg #[.int .i64 1, .int .i64 1, .string f2, .slice A n c]] w fun e w' => Byt ([2]) w w' e := by
  have HB : Hid (Below w.heap.size w (w.alloc (.cells #[.int .i64 1, .int .i64 1, .string f2, .slice A n c] 24))) := Lib.hid (below_alloc (Below.refl w.heap.size w) _)
  have HV : Hid ((w.alloc (.cells #[.int .i64 1, .int .i64 1, .string f2, .slice A n c] 24)).heap[w.heap.size]? = some (.cells #[.int .i64 1, .int .i64 1, .string f2, .slice A n c] 24 (0, 0))) := Lib.hid (blk_new _ _)
  have c0 := blk_cell HV.out 0
  have c1 := blk_cell HV.out 1
  have c2 := blk_cell HV.out 2
  have c3 := blk_cell HV.out 3
  have HO := Lib.hid (ow_two w (.cells #[.int .i64 1, .int .i64 1, .string f2, .slice A n c] 24) 2)
  have HB2 := Lib.hid (below_alloc HB.out (.cells #[.int .u8 2] 5))
  go_enter Try.func20, Try.ntmps20
  go_wp2_with fail
  go_ret
  exact ⟨_, rfl, HO.out, HB2.out⟩
set_option maxHeartbeats 4000000 in
theorem rb2 (f1 : Int) (f2 : ByteArray) (A : Option Addr) (n c : Nat) (w : World) (hn : -9223372036854775808 ≤ f1 ∧ f1 < 9223372036854775808) : Calls Try.prog 20 #[.agg #[.int .i64 2, .int .i64 f1, .string f2, .slice A n c]] w fun e w' => Byt (3 :: uv (zig f1)) w w' e := by
  have HB : Hid (Below w.heap.size w (w.alloc (.cells #[.int .i64 2, .int .i64 f1, .string f2, .slice A n c] 24))) := Lib.hid (below_alloc (Below.refl w.heap.size w) _)
  have HV : Hid ((w.alloc (.cells #[.int .i64 2, .int .i64 f1, .string f2, .slice A n c] 24)).heap[w.heap.size]? = some (.cells #[.int .i64 2, .int .i64 f1, .string f2, .slice A n c] 24 (0, 0))) := Lib.hid (blk_new _ _)
  have c0 := blk_cell HV.out 0
  have c1 := blk_cell HV.out 1
  have c2 := blk_cell HV.out 2
  have c3 := blk_cell HV.out 3
  have HO := Lib.hid (ow_two w (.cells #[.int .i64 2, .int .i64 f1, .string f2, .slice A n c] 24) 3)
  have HB2 := Lib.hid (below_alloc HB.out (.cells #[.int .u8 3] 5))
  have HV2 := Lib.hid (blk_alloc HV.out (.cells #[.int .u8 3] 5))
  clear c0 c1 c2 c3
  have c0 := blk_cell HV2.out 0
  have c1 := blk_cell HV2.out 1
  have c2 := blk_cell HV2.out 2
  have c3 := blk_cell HV2.out 3
  have d0 := blk_cell HV.out 0
  have d1 := blk_cell HV.out 1
  have d2 := blk_cell HV.out 2
  have d3 := blk_cell HV.out 3
  have T := Lib.hid (ref_varint f1 ((w.alloc (.cells #[.int .i64 2, .int .i64 f1, .string f2, .slice A n c] 24)).alloc (.cells #[.int .u8 3] 5)) hn)
  have HZL : Hid ((uv (zig f1)).length ≤ 10) := Lib.hid (uv_len10 (zig_lt hn))
  clear hn
  go_enter Try.func20, Try.ntmps20
  go_wp2_with fail
  refine T.out.mono ?_
  rintro e w3 ⟨v, rfl, ho, hb⟩
  obtain ⟨A3, c3', rfl, hc3, hC3⟩ := ho.reads
  have HO3 := Lib.hid (HO.out.below hb)
  have HC3 := Lib.hid hC3
  have HB3 := Lib.hid (below_then HB2.out HB2.out.size hb)
  clear ho hb hc3 hC3 T
  go_wp2_with (at_builtin; go_must (refine Kd.R_append_rows BK (w0 := w) w.heap.size rfl _ _ 39 5 (.int .u8 0) 1 rfl Try.underlying39 info5 rfl (by decide) (by decide) _ [3] (uv (zig f1)) _ _ _ (fun _ => True) (fun _ => False) rfl rfl (by exact HO3.out) (by exact HC3.out) (fun y cs hk => hk) (fun _ hk => hk.elim) (fun _ _ => trivial) (by exact HB3.out) (by exact HB3.out.size) ?hl ?_; (case hl => have := HZL.out; simp only [List.length_singleton]; omega)); intro v5 w5 ho hb hg hg2; have HO5 := Lib.hid ho; have HB5 := Lib.hid hb; clear ho hb hg hg2)
  go_ret
  exact ⟨_, rfl, HO5.out, HB5.out⟩
set_option maxHeartbeats 4000000 in
theorem rb3 (f1 : Int) (s : ByteArray) (A : Option Addr) (n c : Nat) (w : World) (hl : s.size ≤ 140737488355298) : Calls Try.prog 20 #[.agg #[.int .i64 3, .int .i64 f1, .string s, .slice A n c]] w fun e w' => Byt (4 :: (uv (byt s).length ++ byt s)) w w' e := by
  have HB : Hid (Below w.heap.size w (w.alloc (.cells #[.int .i64 3, .int .i64 f1, .string s, .slice A n c] 24))) := Lib.hid (below_alloc (Below.refl w.heap.size w) _)
  have HV : Hid ((w.alloc (.cells #[.int .i64 3, .int .i64 f1, .string s, .slice A n c] 24)).heap[w.heap.size]? = some (.cells #[.int .i64 3, .int .i64 f1, .string s, .slice A n c] 24 (0, 0))) := Lib.hid (blk_new _ _)
  have c0 := blk_cell HV.out 0
  have c1 := blk_cell HV.out 1
  have c2 := blk_cell HV.out 2
  have c3 := blk_cell HV.out 3
  have HO := Lib.hid (ow_two w (.cells #[.int .i64 3, .int .i64 f1, .string s, .slice A n c] 24) 4)
  have HB2 := Lib.hid (below_alloc HB.out (.cells #[.int .u8 4] 5))
  have HV2 := Lib.hid (blk_alloc HV.out (.cells #[.int .u8 4] 5))
  clear c0 c1 c2 c3
  have c0 := blk_cell HV2.out 0
  have c1 := blk_cell HV2.out 1
  have c2 := blk_cell HV2.out 2
  have c3 := blk_cell HV2.out 3
  have d0 := blk_cell HV.out 0
  have d1 := blk_cell HV.out 1
  have d2 := blk_cell HV.out 2
  have d3 := blk_cell HV.out 3
  have HSS : Hid ((byt s).length ≤ 140737488355298) := Lib.hid (by rw [byt_len]; exact hl)
  have hcv := fun W => Lib.run_convert_string_bytes (P := Try.prog) W 9 39 5 s Try.underlying9 Try.underlying39 Try.underlying5
  obtain ⟨w1, hw1⟩ : ∃ w1, w1 = (w.alloc (.cells #[.int .i64 3, .int .i64 f1, .string s, .slice A n c] 24)).alloc (.cells #[.int .u8 4] 5) := ⟨_, rfl⟩
  have hy : BK.C (Lib.bytesWorld w1 5 s) (some ⟨w1.heap.size, 0, none⟩) (byt s).length (byt s) := bytes_C (by have := HSS.out; omega) (fun j b hb => by
    have hj : j < s.size := by
      have := (List.getElem?_eq_some_iff.1 hb).1
      rwa [byt_len] at this
    rw [Lib.bytesWorld_cell w1 _ s j hj]
    have e : (byt s)[j]? = some ((s.data.toList.getD j 0).toNat : Int) := by
      unfold byt
      rw [List.getElem?_map, List.getD_eq_getElem?_getD]
      have hj2 : j < s.data.toList.length := hj
      rw [List.getElem?_eq_getElem hj2]
      rfl
    rw [e] at hb
    rw [Option.some.inj hb])
  have hz : s.size = (byt s).length := (byt_len s).symm
  have T := ref_bytes (some ⟨w1.heap.size, 0, none⟩) (byt s).length (grownCap w1 s.size 0 5) (byt s) (Lib.bytesWorld w1 5 s) hy (by have := HSS.out; omega)
  have hws : w1.heap.size = w.heap.size + 1 + 1 := by rw [hw1]; simp only [World.alloc, Array.size_push]
  rw [← hz, hws] at T
  have HBY : Hid (Below w1.heap.size w1 (Lib.bytesWorld w1 5 s)) := Lib.hid (below_bytes w1 s)
  have HT := Lib.hid T
  have HWN := Lib.hid hw1
  rw [← hw1] at HO HB2 HV2 c0 c1 c2 c3
  clear hy hz T hl hw1 hws
  go_enter Try.func20, Try.ntmps20
  go_wp2_with fail
  rw [← HWN.out]
  refine HT.out.mono ?_
  rintro e w3 ⟨v, rfl, ho, hb⟩
  rw [byt_len s |>.symm] at ho
  obtain ⟨Y, hY⟩ : ∃ Y, Y = uv (byt s).length ++ byt s := ⟨_, rfl⟩
  have HYL : Hid (Y.length ≤ (byt s).length + 10) := Lib.hid (by have h1 := HSS.out; have h2 := uv_len10 (n := (byt s).length) (by omega); rw [hY, List.length_append]; omega)
  rw [← hY] at ho
  have HY := Lib.hid hY
  clear hY
  obtain ⟨A3, c3', hv3, hc3, hC3⟩ := ho.reads
  subst hv3
  have HO3 := Lib.hid ((HO.out.below HBY.out).below hb)
  have HC3 := Lib.hid hC3
  have HB3 := Lib.hid (below_then (below_then HB2.out HB2.out.size HBY.out) (Nat.le_trans HB2.out.size HBY.out.size) hb)
  clear ho hb hc3 hC3 hcv
  go_wp2_with (at_builtin; go_must (refine Kd.R_append_rows BK (w0 := w) w.heap.size rfl _ _ 39 5 (.int .u8 0) 1 rfl Try.underlying39 info5 rfl (by decide) (by decide) _ [4] Y _ _ _ (fun _ => True) (fun _ => False) rfl rfl (by exact HO3.out) (by exact HC3.out) (fun y cs hk => hk) (fun _ hk => hk.elim) (fun _ _ => trivial) (by exact HB3.out) (by exact HB3.out.size) ?hl ?_; (case hl => have h1 := HSS.out; have h2 := HYL.out; simp only [List.length_singleton]; omega)); intro v5 w5 ho hb hg hg2; have HO5 := Lib.hid ho; have HB5 := Lib.hid hb; clear ho hb hg hg2)
  go_ret
  rw [show 4 :: (uv (byt s).length ++ byt s) = [4] ++ Y by rw [HY.out]; rfl]
  exact ⟨_, rfl, HO5.out, HB5.out⟩
set_option maxHeartbeats 4000000 in
theorem rb4 (f1 : Int) (s : ByteArray) (A : Option Addr) (n c : Nat) (w : World) (hl : s.size ≤ 140737488355298) : Calls Try.prog 20 #[.agg #[.int .i64 4, .int .i64 f1, .string s, .slice A n c]] w fun e w' => Byt (5 :: (uv (byt s).length ++ byt s)) w w' e := by
  have HB : Hid (Below w.heap.size w (w.alloc (.cells #[.int .i64 4, .int .i64 f1, .string s, .slice A n c] 24))) := Lib.hid (below_alloc (Below.refl w.heap.size w) _)
  have HV : Hid ((w.alloc (.cells #[.int .i64 4, .int .i64 f1, .string s, .slice A n c] 24)).heap[w.heap.size]? = some (.cells #[.int .i64 4, .int .i64 f1, .string s, .slice A n c] 24 (0, 0))) := Lib.hid (blk_new _ _)
  have c0 := blk_cell HV.out 0
  have c1 := blk_cell HV.out 1
  have c2 := blk_cell HV.out 2
  have c3 := blk_cell HV.out 3
  have HO := Lib.hid (ow_two w (.cells #[.int .i64 4, .int .i64 f1, .string s, .slice A n c] 24) 5)
  have HB2 := Lib.hid (below_alloc HB.out (.cells #[.int .u8 5] 5))
  have HV2 := Lib.hid (blk_alloc HV.out (.cells #[.int .u8 5] 5))
  clear c0 c1 c2 c3
  have c0 := blk_cell HV2.out 0
  have c1 := blk_cell HV2.out 1
  have c2 := blk_cell HV2.out 2
  have c3 := blk_cell HV2.out 3
  have d0 := blk_cell HV.out 0
  have d1 := blk_cell HV.out 1
  have d2 := blk_cell HV.out 2
  have d3 := blk_cell HV.out 3
  have HSS : Hid ((byt s).length ≤ 140737488355298) := Lib.hid (by rw [byt_len]; exact hl)
  have hcv := fun W => Lib.run_convert_string_bytes (P := Try.prog) W 9 39 5 s Try.underlying9 Try.underlying39 Try.underlying5
  obtain ⟨w1, hw1⟩ : ∃ w1, w1 = (w.alloc (.cells #[.int .i64 4, .int .i64 f1, .string s, .slice A n c] 24)).alloc (.cells #[.int .u8 5] 5) := ⟨_, rfl⟩
  have hy : BK.C (Lib.bytesWorld w1 5 s) (some ⟨w1.heap.size, 0, none⟩) (byt s).length (byt s) := bytes_C (by have := HSS.out; omega) (fun j b hb => by
    have hj : j < s.size := by
      have := (List.getElem?_eq_some_iff.1 hb).1
      rwa [byt_len] at this
    rw [Lib.bytesWorld_cell w1 _ s j hj]
    have e : (byt s)[j]? = some ((s.data.toList.getD j 0).toNat : Int) := by
      unfold byt
      rw [List.getElem?_map, List.getD_eq_getElem?_getD]
      have hj2 : j < s.data.toList.length := hj
      rw [List.getElem?_eq_getElem hj2]
      rfl
    rw [e] at hb
    rw [Option.some.inj hb])
  have hz : s.size = (byt s).length := (byt_len s).symm
  have T := ref_bytes (some ⟨w1.heap.size, 0, none⟩) (byt s).length (grownCap w1 s.size 0 5) (byt s) (Lib.bytesWorld w1 5 s) hy (by have := HSS.out; omega)
  have hws : w1.heap.size = w.heap.size + 1 + 1 := by rw [hw1]; simp only [World.alloc, Array.size_push]
  rw [← hz, hws] at T
  have HBY : Hid (Below w1.heap.size w1 (Lib.bytesWorld w1 5 s)) := Lib.hid (below_bytes w1 s)
  have HT := Lib.hid T
  have HWN := Lib.hid hw1
  rw [← hw1] at HO HB2 HV2 c0 c1 c2 c3
  clear hy hz T hl hw1 hws
  go_enter Try.func20, Try.ntmps20
  go_wp2_with fail
  rw [← HWN.out]
  refine HT.out.mono ?_
  rintro e w3 ⟨v, rfl, ho, hb⟩
  rw [byt_len s |>.symm] at ho
  obtain ⟨Y, hY⟩ : ∃ Y, Y = uv (byt s).length ++ byt s := ⟨_, rfl⟩
  have HYL : Hid (Y.length ≤ (byt s).length + 10) := Lib.hid (by have h1 := HSS.out; have h2 := uv_len10 (n := (byt s).length) (by omega); rw [hY, List.length_append]; omega)
  rw [← hY] at ho
  have HY := Lib.hid hY
  clear hY
  obtain ⟨A3, c3', hv3, hc3, hC3⟩ := ho.reads
  subst hv3
  have HO3 := Lib.hid ((HO.out.below HBY.out).below hb)
  have HC3 := Lib.hid hC3
  have HB3 := Lib.hid (below_then (below_then HB2.out HB2.out.size HBY.out) (Nat.le_trans HB2.out.size HBY.out.size) hb)
  clear ho hb hc3 hC3 hcv
  go_wp2_with (at_builtin; go_must (refine Kd.R_append_rows BK (w0 := w) w.heap.size rfl _ _ 39 5 (.int .u8 0) 1 rfl Try.underlying39 info5 rfl (by decide) (by decide) _ [5] Y _ _ _ (fun _ => True) (fun _ => False) rfl rfl (by exact HO3.out) (by exact HC3.out) (fun y cs hk => hk) (fun _ hk => hk.elim) (fun _ _ => trivial) (by exact HB3.out) (by exact HB3.out.size) ?hl ?_; (case hl => have h1 := HSS.out; have h2 := HYL.out; simp only [List.length_singleton]; omega)); intro v5 w5 ho hb hg hg2; have HO5 := Lib.hid ho; have HB5 := Lib.hid hb; clear ho hb hg hg2)
  go_ret
  rw [show 5 :: (uv (byt s).length ++ byt s) = [5] ++ Y by rw [HY.out]; rfl]
  exact ⟨_, rfl, HO5.out, HB5.out⟩
set_option maxHeartbeats 8000000 in
set_option maxRecDepth 100000 in
theorem rb5 (m : Nat) (f1 : Int) (f2 : ByteArray) (A : Option Addr) (c : Nat) (l : List V) (w : World) (hx : kV.C w A l.length l) (hll : l.length ≤ 2513169434900) (hl : (6 :: (uv l.length ++ l.flatMap (encN m))).length + 30 ≤ 140737488355328)
    (T : ∀ (x : V), x ∈ l → ∀ (A : Option Addr) (c : Nat) (w : World), x.f3.length ≤ c → kV.C w A x.f3.length x.f3 → (encN m x).length + 30 ≤ 140737488355328 → Calls Try.prog 20 #[.agg (aggV x A c)] w fun e w' => Byt (encN m x) w w' e) :
    Calls Try.prog 20 #[.agg #[.int .i64 5, .int .i64 f1, .string f2, .slice A l.length c]] w fun e w' => Byt (6 :: (uv l.length ++ l.flatMap (encN m))) w w' e := by
  have HB : Hid (Below w.heap.size w (w.alloc (.cells #[.int .i64 5, .int .i64 f1, .string f2, .slice A l.length c] 24))) := Lib.hid (below_alloc (Below.refl w.heap.size w) _)
  have HV : Hid ((w.alloc (.cells #[.int .i64 5, .int .i64 f1, .string f2, .slice A l.length c] 24)).heap[w.heap.size]? = some (.cells #[.int .i64 5, .int .i64 f1, .string f2, .slice A l.length c] 24 (0, 0))) := Lib.hid (blk_new _ _)
  have c0 := blk_cell HV.out 0
  have c1 := blk_cell HV.out 1
  have c2 := blk_cell HV.out 2
  have c3 := blk_cell HV.out 3
  have HO := Lib.hid (ow_two w (.cells #[.int .i64 5, .int .i64 f1, .string f2, .slice A l.length c] 24) 6)
  have HB2 := Lib.hid (below_alloc HB.out (.cells #[.int .u8 6] 5))
  have HV2 := Lib.hid (blk_alloc HV.out (.cells #[.int .u8 6] 5))
  clear c0 c1 c2 c3
  have c0 := blk_cell HV2.out 0
  have c1 := blk_cell HV2.out 1
  have c2 := blk_cell HV2.out 2
  have c3 := blk_cell HV2.out 3
  have d0 := blk_cell HV.out 0
  have d1 := blk_cell HV.out 1
  have d2 := blk_cell HV.out 2
  have d3 := blk_cell HV.out 3
  have hwr : IntKind.u64.wrap (l.length : Int) = (l.length : Int) := by rw [Go.IntKind.wrap_u64]; omega
  have hlm : l.length ≤ 2513169434900 := hll
  have HC := Lib.hid hx
  have HT := Lib.hid T
  have HLL := Lib.hid hl
  have T1 := Lib.hid (ref_uvarint (l.length : Int) ((w.alloc (.cells #[.int .i64 5, .int .i64 f1, .string f2, .slice A l.length c] 24)).alloc (.cells #[.int .u8 6] 5)) (by omega))
  have HUL : Hid ((uv l.length).length ≤ 10) := Lib.hid (uv_len10 (by omega))
  clear hx T hl
  go_enter Try.func20, Try.ntmps20
  go_wp2_with fail
  have T2 : ∀ z : Int, z = (l.length : Int) → Calls Try.prog 31 #[.int .u64 z] ((w.alloc (.cells #[.int .i64 5, .int .i64 f1, .string f2, .slice A l.length c] 24)).alloc (.cells #[.int .u8 6] 5)) _ := fun z hz => by rw [hz]; exact T1.out
  refine (T2 _ (by first | exact hwr | rfl)).mono ?_
  rintro e w3 ⟨v, rfl, ho, hb⟩
  obtain ⟨A3, c3', rfl, hc3, hC3⟩ := ho.reads
  have HO3 := Lib.hid (HO.out.below hb)
  have HC3 : Hid (BK.C w3 A3 (uv l.length).length (uv l.length)) := Lib.hid hC3
  have HB3 := Lib.hid (below_then HB2.out HB2.out.size hb)
  have HV3 := Lib.hid (blk_below HV2.out hb)
  clear ho hb hc3 hC3 T2 c0 c1 c2 c3 d0 d1 d2 d3
  go_wp2_with (at_builtin; go_must (refine Kd.R_append_rows BK (w0 := w) w.heap.size rfl _ _ 39 5 (.int .u8 0) 1 rfl Try.underlying39 info5 rfl (by decide) (by decide) _ [6] (uv l.length) _ _ _ (fun _ => True) (fun _ => False) rfl rfl (by exact HO3.out) (by exact HC3.out) (fun y cs hk => hk) (fun _ hk => hk.elim) (fun _ _ => trivial) (by exact HB3.out) (by exact HB3.out.size) ?hl ?_; (case hl => have := HUL.out; simp only [List.length_singleton]; omega)); intro v5 w5 ho hb hg hg2; have HO5 := Lib.hid ho; have HB5 := Lib.hid hb; have HV5 := Lib.hid (blk_grown HV3.out hg (Kd.R_ne HO3.out HV3.out (by decide))); clear ho hb hg hg2)
  go_loopw [3, 4] (fun b' i' wr => ∃ (i : Nat) (zs : List Int) (bq : Value), bq = b' ∧ i' = .int .i64 i ∧ Hid (i ≤ l.length) ∧ Hid (zs = 6 :: uv l.length ++ (l.take i).flatMap (encN m)) ∧ Hid (Ow .u8 5 wr w.heap.size bq zs) ∧ Hid (Below w.heap.size w wr) ∧ Hid (wr.heap[w.heap.size]? = some (.cells #[.int .i64 5, .int .i64 f1, .string f2, .slice A l.length c] 24 (0, 0)))) (fun _ i' _ => (l.length - intOf i').toNat)
  case atStart => exact ⟨0, _, _, rfl, rfl, Lib.hid (Nat.zero_le _), Lib.hid (by rw [List.take_zero]; exact (List.append_nil _).symm), HO5, HB5, HV5⟩
  case round =>
    obtain ⟨i, zs, bq, rfl, rfl, HI, HZ, HOR, HBR, HVR⟩ := hrel
    have c0 := blk_cell HVR.out 0
    have c1 := blk_cell HVR.out 1
    have c2 := blk_cell HVR.out 2
    have c3 := blk_cell HVR.out 3
    by_cases h : i < l.length
    · have hlt : decide (i < l.length) = true := decide_eq_true h
      have hlt2 : decide ((i : Int) < (l.length : Int)) = true := decide_eq_true (by omega)
      have i0 : (0 : Int) ≤ i := by omega
      have i1 : (i : Int) < l.length := by omega
      obtain ⟨ad, x, A9, c9, hx, hA, a0, a1, a2, a3, a4, a5⟩ := at_V (Kd.C_below HC.out HBR.out) i h
      subst hA
      have HX := Lib.hid hx
      have HLT := Lib.hid h
      have hfl : ∀ (l : List V) (i : Nat), ((l.take i).flatMap (encN m)).length ≤ (l.flatMap (encN m)).length := fun l i => by
        conv => rhs; rw [← List.take_append_drop i l, List.flatMap_append, List.length_append]
        omega
      have htk : l.take (i + 1) = l.take i ++ [x] := by rw [List.take_add_one, hx]; rfl
      have hone : (l.take (i + 1)).flatMap (encN m) = (l.take i).flatMap (encN m) ++ encN m x := by rw [htk, List.flatMap_append]; congr 1; exact List.append_nil _
      have hzl : zs.length + (encN m x).length + 30 ≤ 140737488355328 := by
        have h1 := HLL.out
        have h2 := hfl l (i + 1)
        rw [hone, List.length_append] at h2
        rw [HZ.out]
        simp only [List.length_append, List.length_cons, List.cons_append] at h1 ⊢
        omega
      have HZL := Lib.hid hzl
      have T3 := Lib.hid (HT.out x (List.mem_of_getElem? hx) A9 c9 wr a4 a5 (by omega))
      have HONE := Lib.hid hone
      clear h hx hfl htk hone hzl a4 a5
      go_wp2_with fail
      refine T3.out.mono ?_
      rintro e w5 ⟨v, rfl, ho, hb⟩
      obtain ⟨A6, c6, rfl, hc6, hC6⟩ := ho.reads
      have HO6 := Lib.hid (HOR.out.below hb)
      have HC6 := Lib.hid hC6
      have HB6 := Lib.hid (below_then HBR.out HBR.out.size hb)
      have HV6 := Lib.hid (blk_below HVR.out hb)
      clear ho hb hc6 hC6 T3 a0 a1 a2 a3 c0 c1 c2
      go_wp2_with (at_builtin; go_must (refine Kd.R_append_rows BK (w0 := w) w.heap.size rfl _ _ 39 5 (.int .u8 0) 1 rfl Try.underlying39 info5 rfl (by decide) (by decide) _ zs (encN m x) _ _ _ (fun _ => True) (fun _ => False) rfl rfl (by exact HO6.out) (by exact HC6.out) (fun y cs hk => hk) (fun _ hk => hk.elim) (fun _ _ => trivial) (by exact HB6.out) (by exact HB6.out.size) ?hl ?_; (case hl => have := HZL.out; omega)); intro v7 w7 ho hb hg hg2; have HO7 := Lib.hid ho; have HB7 := Lib.hid hb; have HV7 := Lib.hid (blk_grown HV6.out hg (Kd.R_ne HO6.out HV6.out (by decide))); clear ho hb hg hg2)
      go_roundw
      case rel =>
        refine ⟨i + 1, _, v7, rfl, by go_num, Lib.hid (by have := HLT.out; omega), Lib.hid ?_, HO7, HB7, HV7⟩
        rw [HZ.out, HONE.out, List.append_assoc]
      case measure => have := HLT.out; simp only [intOf]; omega
    · obtain rfl : i = l.length := by have := HI.out; omega
      have hlt : decide (l.length < l.length) = false := decide_eq_false (Nat.lt_irrefl _)
      have hlt2 : decide ((l.length : Int) < (l.length : Int)) = false := decide_eq_false (by omega)
      clear h
      go_wp2_with fail
      go_ret
      refine ⟨bq, rfl, ?_, HBR.out⟩
      have e : (6 :: (uv l.length ++ l.flatMap (encN m))) = zs := by rw [HZ.out, List.take_length]; rfl
      rw [e]
      exact HOR.out
theorem rbytes_calls : ∀ (n : Nat) (v : V), mayN n v = true → Fit n v → ∀ (A : Option Addr) (c : Nat) (w : World), v.f3.length ≤ c → kV.C w A v.f3.length v.f3 → (encN n v).length + 30 ≤ 140737488355328 → Calls Try.prog 20 #[.agg (aggV v A c)] w fun e w' => Byt (encN n v) w w' e := by
  intro n
  induction n with
  | zero =>
    intro v hm hf A c w hl hc hs
    rcases MeD.shape hm with ⟨rfl, e⟩ | ⟨rfl, e⟩ | ⟨rfl, e⟩ | ⟨x, rfl, e⟩ | ⟨x, rfl, e⟩ | ⟨x, rfl, e⟩ | ⟨m, l, h0, _⟩
    · rw [e]; exact rb0 0 ⟨#[]⟩ A 0 c w
    · rw [e]; exact rb1f ⟨#[]⟩ A 0 c w
    · rw [e]; exact rb1t ⟨#[]⟩ A 0 c w
    · rw [e]; exact rb2 x ⟨#[]⟩ A 0 c w hf.here.2.1
    · rw [e] at hs ⊢; exact rb3 0 x A 0 c w (by simp only [List.length_cons, List.length_append, byt_len] at hs; omega)
    · rw [e] at hs ⊢; exact rb4 0 x A 0 c w (by simp only [List.length_cons, List.length_append, byt_len] at hs; omega)
    · omega
  | succ n ih =>
    intro v hm hf A c w hl hc hs
    rcases MeD.shape hm with ⟨rfl, e⟩ | ⟨rfl, e⟩ | ⟨rfl, e⟩ | ⟨x, rfl, e⟩ | ⟨x, rfl, e⟩ | ⟨x, rfl, e⟩ | ⟨m, l, h0, rfl, hall, e⟩
    · rw [e]; exact rb0 0 ⟨#[]⟩ A 0 c w
    · rw [e]; exact rb1f ⟨#[]⟩ A 0 c w
    · rw [e]; exact rb1t ⟨#[]⟩ A 0 c w
    · rw [e]; exact rb2 x ⟨#[]⟩ A 0 c w hf.here.2.1
    · rw [e] at hs ⊢; exact rb3 0 x A 0 c w (by simp only [List.length_cons, List.length_append, byt_len] at hs; omega)
    · rw [e] at hs ⊢; exact rb4 0 x A 0 c w (by simp only [List.length_cons, List.length_append, byt_len] at hs; omega)
    · obtain rfl : m = n := by omega
      rw [e] at hs ⊢
      exact rb5 m 0 ⟨#[]⟩ A c l w hc hf.1.1 hs (fun x hx A c w h1 h2 h3 => ih x (hall x hx) (hf.2 x hx) A c w h1 h2 h3)
end Go.Proofs.Ytcilojakgnjjmaa.ByW
/- A value that is handed in. -/
set_option linter.unusedSimpArgs false
set_option linter.unusedVariables false
namespace Go.Proofs.Ytcilojakgnjjmaa.MeO
open Go Go.RowKit Go.Proofs.YtcilojakgnjjmaaW.PrintWords Go.Proofs.YtcilojakgnjjmaaW.PrintLast Go.Proofs.YtcilojakgnjjmaaW.PrintMore Go.Deep PAll MeP MeT MeN MeQ MeX Opns
mutual
/-- How much a value holds. -/
def blkV : V → Nat
  | ⟨_, _, f2, f3⟩ => 1 + f2.size + blkL f3
def blkL : List V → Nat
  | [] => 0
  | x :: l => blkV x + blkL l
end
theorem blkL_le {H : Type} : ∀ (xs : List V) (ys : List (DataW H)), xs.length = ys.length → (∀ (i : Nat) (x : V) (y : DataW H), xs[i]? = some x → ys[i]? = some y → blkV x ≤ Rows.uptoBulk y) → blkL xs ≤ Rows.uptoBulkAll ys
  | [], _, _, _ => by simp [blkL]
  | x :: xs, [], h, _ => by simp at h
  | x :: xs, y :: ys, h, k => by
    simp only [blkL, Rows.uptoBulkAll]
    have h1 := k 0 x y rfl rfl
    have h2 := blkL_le xs ys (by simpa using h) (fun i a c ha hc => k (i + 1) a c (by simpa using ha) (by simpa using hc))
    omega
instance : Inhabited V := ⟨z24⟩
theorem four_of {α : Type} : ∀ {xs : List α}, xs.length = 4 → ∃ a b c d, xs = [a, b, c, d]
  | [a, b, c, d], _ => ⟨a, b, c, d, rfl⟩
  | [], h => by simp at h
  | [_], h => by simp at h
  | [_, _], h => by simp at h
  | [_, _, _], h => by simp at h
  | _ :: _ :: _ :: _ :: _ :: _, h => by simp at h
theorem opens_aux {H : Type} (enc : TypeId × Value → H) (w : World) : ∀ (fuel : Nat) (cs : List Value) (y : DataW H) (ps : List MemPlace),
    DataW.trod enc Try.prog w 0 (fun _ => true) true fuel 24 cs = some (y, ps) → (∀ m ∈ y.weights Try.prog 24, m ≤ reachBytes) → ∃ x : V, kV.K w x cs ∧ Sz x ∧ blkV x ≤ Rows.uptoBulk y := by
  intro fuel
  induction fuel using Nat.strongRecOn with
  | ind fuel ih =>
    intro cs y ps h hw
    have hR : reachBytes = 140737488351232 := rfl
    have hts := Try.underlying24
    obtain ⟨xs, n, hfu, hx, hl, hxl, hel⟩ := DataW.trod_struct hts h
    obtain ⟨rfl, rfl⟩ := Prod.mk.inj hx
    obtain ⟨⟨y0, p0⟩, ⟨y1, p1⟩, ⟨y2, p2⟩, ⟨y3, p3⟩, rfl⟩ := four_of (xs := xs) (by simpa using hxl)
    have hl4 : cs.length = 4 := hl.trans (by kernel_rfl)
    obtain ⟨v0, v1, v2, v3, rfl⟩ := four_of hl4
    have t0 : Try.prog.cellsOf 3 = 1 := by kernel_rfl
    have t1 : Try.prog.cellsOf 2 = 1 := by kernel_rfl
    have t2 : Try.prog.cellsOf 9 = 1 := by kernel_rfl
    have t3 : Try.prog.cellsOf 22 = 1 := by kernel_rfl
    have t4 : Try.prog.cellsOf 24 = 4 := by kernel_rfl
    have t5 : Try.prog.bytesOf 24 = 56 := by kernel_rfl
    have e0 : DataW.trod enc Try.prog w 0 (fun _ => true) true n 3 (List.take (Try.prog.cellsOf 3) [v0, v1, v2, v3]) = some (y0, p0) := hel 0 _ rfl
    have e1 : DataW.trod enc Try.prog w 0 (fun _ => true) true n 2 (List.take (Try.prog.cellsOf 2) [v1, v2, v3]) = some (y1, p1) := hel 1 _ rfl
    have e2 : DataW.trod enc Try.prog w 0 (fun _ => true) true n 9 (List.take (Try.prog.cellsOf 9) [v2, v3]) = some (y2, p2) := hel 2 _ rfl
    have e3 : DataW.trod enc Try.prog w 0 (fun _ => true) true n 22 (List.take (Try.prog.cellsOf 22) [v3]) = some (y3, p3) := hel 3 _ rfl
    rw [t0] at e0
    rw [t1] at e1
    rw [t2] at e2
    rw [t3] at e3
    obtain ⟨n0, h0, _, w0⟩ := DataW.trod_int Try.underlying3 e0
    obtain ⟨n1, h1, _, w1⟩ := DataW.trod_int Try.underlying2 e1
    obtain ⟨s, h2, hy2, _⟩ := DataW.trod_string Try.underlying9 e2
    obtain rfl : v0 = .int .i64 n0 := (List.cons.inj h0).1
    obtain rfl : v1 = .int .i64 n1 := (List.cons.inj h1).1
    obtain rfl : v2 = .string s := (List.cons.inj h2).1
    obtain ⟨rfl, rfl⟩ := Prod.mk.inj hy2
    simp only [DataW.weights, hts, List.map_cons, List.map_nil, DataW.weightsEach, List.mem_append] at hw
    have hs : s.size ≤ reachBytes := by
      have := hw s.data.toList.length (.inr (.inr (.inl (by simp [DataW.weights]))))
      rwa [data_length] at this
    have hr1 : -9223372036854775808 ≤ n1 ∧ n1 < 9223372036854775808 := by
      simp only [Lit.wf, Bool.and_eq_true, decide_eq_true_eq] at w1
      have a1 : IntKind.i64.min = -9223372036854775808 := by decide
      have a2 : IntKind.i64.max = 9223372036854775807 := by decide
      rw [a1, a2] at w1
      omega
    rcases DataW.trod_slice Try.underlying22 e3 with ⟨h3, hy3⟩ | ⟨a, len, cap, elems, rest, m, hfu2, h3, hy3, _, hle, hm, hlen, hel3, _, _⟩
    · obtain rfl : v3 = .slice none 0 0 := (List.cons.inj h3).1
      obtain ⟨rfl, rfl⟩ := Prod.mk.inj hy3
      refine ⟨⟨n0, n1, s, []⟩, k24_mk w ⟨n0, n1, s, []⟩ (Nat.le_refl 0) (MeK.C_zero w), .mk _ ⟨Nat.zero_le _, hr1, by show s.size ≤ _; omega⟩ (fun x hx => nomatch hx), ?_⟩
      simp only [blkV, blkL, Rows.uptoBulk, Rows.uptoBulkAll, List.map_cons, List.map_nil]
      rw [data_length]
      omega
    · obtain rfl : v3 = .slice (some a) len cap := (List.cons.inj h3).1
      have hy3' : y3 = .slice (elems.map (·.1)) (rest.map (·.1)) := congrArg Prod.fst hy3
      subst hy3'
      subst hlen
      have hw3 : ∀ q ∈ (DataW.slice (elems.map (·.1)) (rest.map (·.1)) : DataW H).weights Try.prog 22, q ≤ reachBytes := fun q hq => hw q (.inr (.inr (.inr (.inl hq))))
      simp only [DataW.weights, Try.underlying22] at hw3
      have hln : elems.length * 56 ≤ reachBytes := by
        refine Nat.le_trans ?_ (hw3 _ List.mem_cons_self)
        rw [t5]
        refine Nat.mul_le_mul_right _ ?_
        simp
      obtain ⟨X, hX⟩ := choose_lt (α := V) (n := elems.length) (p := fun i x => ∃ cs', w.cells? 0 (a.add (i * Try.prog.cellsOf 24)) (Try.prog.cellsOf 24) = some cs' ∧ kV.K w x cs' ∧ Sz x ∧ ∀ y, (elems.map (·.1))[i]? = some y → blkV x ≤ Rows.uptoBulk y) (fun i hi => by
        have hk := hel3 i hi
        rw [List.getElem?_eq_getElem hi] at hk
        obtain ⟨cs', q1, q2⟩ := Option.bind_eq_some_iff.1 hk
        obtain ⟨x, q3, q4, q5⟩ := ih m (by omega) cs' elems[i].1 elems[i].2 q2 (fun q hq => hw3 q (List.mem_cons_of_mem _ (List.mem_append_left _ (mem_all (List.mem_map.2 ⟨elems[i], List.getElem_mem hi, rfl⟩) hq))))
        refine ⟨x, cs', q1, q3, q4, fun y hy => ?_⟩
        rw [List.getElem?_map, List.getElem?_eq_getElem hi] at hy
        rw [← Option.some.inj hy]
        exact q5)
      have hxl' : ((List.range elems.length).map X).length = elems.length := by simp
      have hgt : ∀ (j : Nat) (p : V), ((List.range elems.length).map X)[j]? = some p → ∃ h : j < elems.length, p = X j := by
        intro j p hj
        have hj' : j < elems.length := by
          have := (List.getElem?_eq_some_iff.1 hj).1
          simpa using this
        refine ⟨hj', ?_⟩
        simp [hj'] at hj
        exact hj.symm
      have hC : kV.C w (some a) elems.length ((List.range elems.length).map X) := by
        refine ⟨hxl', by unfold maxLen at hm; omega, fun _ => ⟨a, rfl, fun j p hj => ?_⟩⟩
        obtain ⟨hj', rfl⟩ := hgt j p hj
        obtain ⟨cs', q1, q3, _, _⟩ := hX j hj'
        obtain ⟨_, hcl, hcell⟩ := World.cells?_some q1
        rw [t4] at hcl hcell
        refine ⟨cs', hcl, q3, fun i u hu => ?_⟩
        have hi : i < 4 := by rw [← hcl]; exact (List.getElem?_eq_some_iff.1 hu).1
        have := hcell i hi
        rw [hu, Go.Deep.add_add] at this
        exact this
      refine ⟨⟨n0, n1, s, (List.range elems.length).map X⟩, ?_, .mk _ ⟨by show ((List.range elems.length).map X).length ≤ _; omega, hr1, by show s.size ≤ _; omega⟩ (fun x hx => ?_), ?_⟩
      · have := k24_mk w ⟨n0, n1, s, (List.range elems.length).map X⟩ (A3 := some a) (c3 := cap) (by show ((List.range elems.length).map X).length ≤ cap; omega) (by show kV.C w (some a) ((List.range elems.length).map X).length ((List.range elems.length).map X); rw [hxl']; exact hC)
        rw [show (⟨n0, n1, s, (List.range elems.length).map X⟩ : V).f3.length = elems.length from hxl'] at this
        exact this
      · obtain ⟨i, hi, rfl⟩ := List.mem_map.1 hx
        obtain ⟨_, _, _, q, _⟩ := hX i (List.mem_range.1 hi)
        exact q
      · have hb := blkL_le (H := H) ((List.range elems.length).map X) (elems.map (·.1)) (by simp) (fun i x y hx hy => by
          obtain ⟨hi, rfl⟩ := hgt i x hx
          obtain ⟨_, _, _, _, q⟩ := hX i hi
          exact q y hy)
        simp only [blkV, Rows.uptoBulk, Rows.uptoBulkAll, List.map_cons, List.map_nil]
        rw [data_length]
        omega
theorem opens_V : Opens 24 kV Sz blkV :=
  ⟨fun enc w fuel cs y ps h hw => opens_aux enc w fuel cs y ps h hw⟩
theorem opens_ints : Opens 25 (Kd.slice 3 IK) (fun xs => (∀ x ∈ xs, (Lit.int .i64 x).wf = true) ∧ xs.length * 8 ≤ reachBytes) (fun xs => lbulk (fun _ => 1) xs + 1) :=
  opens_slice Try.underlying25 (by kernel_rfl) (by kernel_rfl) (opens_int Try.underlying3)
end Go.Proofs.Ytcilojakgnjjmaa.MeO
/- MessageDecodes. -/
set_option linter.unusedSimpArgs false
set_option linter.unusedVariables false
namespace Go.Proofs.Ytcilojakgnjjmaa.LmD
open Go Go.RowKit Go.Proofs.YtcilojakgnjjmaaW.PrintWords Go.Proofs.YtcilojakgnjjmaaW.PrintLast Go.Proofs.YtcilojakgnjjmaaW.PrintMore Mem PAll MeP MeN MeA MeT MeV MeK MeW MeQ MeR MeU MeD WireP UvW VrW DeW ByW
theorem dec_uni {xs : List Int} {w w' : World} {e : Ending} (h : Dec xs w w' e) : ∃ (v : V) (k : Int) (A : Option Addr) (c : Nat), e = .returned (.tuple #[.agg (aggV v A c), .int .i64 k]) ∧ v.f3.length ≤ c ∧ kV.C w' A v.f3.length v.f3 ∧ Below w.heap.size w w' ∧ Sz v ∧
    ((1048576 < xs.length ∧ k = 3 ∧ v = z24) ∨ (xs.length ≤ 1048576 ∧ k = 0 ∧ mayN 16 v = true ∧ xs = encN 16 v) ∨ (xs.length ≤ 1048576 ∧ k = 5 ∧ v = z24 ∧ ∀ u, mayN 16 u = true → Fit 16 u → xs ≠ encN 16 u)) := by
  rcases h with ⟨h1, hb, A, c, he, hl, hc⟩ | ⟨h1, v, ⟨hb, A, c, he, hl, hc⟩, hm, hs, hx⟩ | ⟨h1, ⟨hb, A, c, he, hl, hc⟩, hno⟩
  · exact ⟨z24, 3, A, c, he, hl, hc, hb, sz_zero, .inl ⟨h1, rfl, rfl⟩⟩
  · exact ⟨v, 0, A, c, he, hl, hc, hb, hs, .inr (.inl ⟨h1, rfl, hm, hx⟩)⟩
  · exact ⟨z24, 5, A, c, he, hl, hc, hb, sz_zero, .inr (.inr ⟨h1, rfl, rfl, hno⟩)⟩
theorem same_zero (v : V) (hv : v = z24) (A : Option Addr) (c : Nat) (w : World) (h : kV.C w A v.f3.length v.f3) (hl : v.f3.length ≤ c) : Calls Try.prog 12 #[.agg (aggV v A c), .agg #[.int .i64 0, .int .i64 0, .string ⟨#[]⟩, .slice none 0 0]] w fun e w' => e = .returned (.bool true) ∧ Below w.heap.size w w' := by
  subst hv
  obtain ⟨r, hr, hc⟩ := same_calls z24 z24 sz_zero A none c 0 w h hl (C_zero w) (Nat.le_refl _)
  obtain rfl := hr.2 rfl
  exact hc
set_option maxHeartbeats 16000000 in
set_option maxRecDepth 100000 in
theorem decodes_calls (A0 : Option Addr) (cz : Nat) (xs : List Int) (w : World) (hc : xs.length ≤ cz) (hx : BK.C w A0 xs.length xs) (hb : ∀ c ∈ xs, 0 ≤ c ∧ c < 256) (hl : xs.length ≤ 140737488355328) :
    Calls Try.prog 7 #[.slice A0 xs.length cz] w fun e w' => e = .returned (.bool true) ∧ Below w.heap.size w w' := by
  by_cases hq : 16384 < xs.length ∧ xs.length ≤ 1048576
  · have h1 : decide (16384 < xs.length) = true := decide_eq_true hq.1
    have h2 : decide ((16384 : Int) < (xs.length : Int)) = true := decide_eq_true (by omega)
    have h3 : decide (xs.length ≤ 1048576) = true := decide_eq_true hq.2
    have h4 : decide ((xs.length : Int) ≤ (1048576 : Int)) = true := decide_eq_true (by omega)
    clear hq hc hx hb hl
    go_enter Try.func7, Try.ntmps7
    go_wp2_with fail
    refine (awake_calls _).mono ?_
    rintro e wz ⟨rfl, hb⟩
    have HB := Lib.hid hb
    clear hb
    go_wp2_with fail
    go_ret
    exact ⟨rfl, HB.out⟩
  have hg : (16384 < xs.length ∧ ¬ xs.length ≤ 1048576) ∨ ¬ 16384 < xs.length := by omega
  have HGD := Lib.hid hg
  have HBY := Lib.hid hb
  have HL := Lib.hid hl
  have HC := Lib.hid hc
  have HX0 := Lib.hid hx
  have HB0 := Lib.hid (below_alloc (Below.refl w.heap.size w) (.cells #[] 5))
  have HO0 : Hid (BK.R 5 (w.alloc (.cells #[] 5)) w.heap.size (fun _ => True) (.slice (some ⟨w.heap.size, 0, none⟩) 0 0) []) := Lib.hid ⟨fun _ _ => trivial, OwnRow.lit w w.heap.size (ps := []) (inner := []) (Reps.none _ _) (Nat.le_refl _) (Nat.zero_le _)⟩
  obtain ⟨b1, b2, hb1, hb2, hpk⟩ : ∃ b1 b2 : Bool, decide ((16384 : Int) < (xs.length : Int)) = b1 ∧ decide ((xs.length : Int) ≤ (1048576 : Int)) = b2 ∧ ((b1 = true ∧ b2 = false) ∨ b1 = false) := by
    refine ⟨_, _, rfl, rfl, ?_⟩
    rcases hg with ⟨h1, h2⟩ | h1
    · exact .inl ⟨decide_eq_true (by omega), decide_eq_false (by omega)⟩
    · exact .inr (decide_eq_false (by omega))
  have hb1' : decide (16384 < xs.length) = b1 := by rw [← hb1, decide_eq_decide]; omega
  have hb2' : decide (xs.length ≤ 1048576) = b2 := by rw [← hb2, decide_eq_decide]; omega
  have key : ∀ (b1 b2 : Bool), decide ((16384 : Int) < (xs.length : Int)) = b1 → decide ((xs.length : Int) ≤ (1048576 : Int)) = b2 → decide (16384 < xs.length) = b1 → decide (xs.length ≤ 1048576) = b2 → True := fun _ _ _ _ _ _ => trivial
  clear hq hc hx hb hl hg key
  go_enter Try.func7, Try.ntmps7
  rcases hpk with ⟨rfl, rfl⟩ | rfl
  all_goals
    go_wp2_with (at_builtin; go_must (refine Kd.R_append_rows BK (w0 := w) w.heap.size rfl _ _ 39 5 (.int .u8 0) 1 rfl Try.underlying39 info5 rfl (by decide) (by decide) _ [] xs A0 xs.length cz (fun _ => True) (fun _ => False) rfl rfl (by exact HO0.out) (by exact Kd.C_alloc HX0.out _) (fun y cs hk => hk) (fun _ hk => hk.elim) (fun _ _ => trivial) (by exact HB0.out) (by exact HB0.out.size) ?hl ?_; (case hl => have := HL.out; simp; omega)); intro v1 w1 ho hb hg hg2; rw [List.nil_append] at ho; have HB1 := Lib.hid hb; obtain ⟨A1, c1, rfl, hc1, hC1⟩ := Kd.R_reads ho; have HX1 := Lib.hid hC1; have HC1 := Lib.hid hc1; clear ho hb hg hg2 HO0 HB0 hc1 hC1)
    refine (dec_calls A1 c1 xs w1 HC1.out HX1.out HBY.out HL.out).mono ?_
    rintro e w2 hd
    obtain ⟨v, k, A5, c5, rfl, hl5, hc5, hb, hsz, hor⟩ := dec_uni hd
    have HB2 := Lib.hid (below_then HB1.out HB1.out.size hb)
    have HL5 := Lib.hid hl5
    have HR2 := Lib.hid hc5
    have HSZ := Lib.hid hsz
    have HOR := Lib.hid hor
    have HB3 := Lib.hid (below_alloc HB2.out (.cells (aggV v A5 c5) 24))
    have HR3 := Lib.hid (Kd.C_alloc HR2.out (.cells (aggV v A5 c5) 24))
    have HV3 : Hid ((w2.alloc (.cells (aggV v A5 c5) 24)).heap[w2.heap.size]? = some (.cells (aggV v A5 c5) 24 (0, 0))) := Lib.hid (blk_new _ _)
    have HX3 := Lib.hid (Kd.C_below HX0.out HB3.out)
    obtain ⟨wr, hwr⟩ : ∃ wr, wr = w2.alloc (.cells (aggV v A5 c5) 24) := ⟨_, rfl⟩
    obtain ⟨g3, hg3⟩ : ∃ g, g = w2.heap.size := ⟨_, rfl⟩
    have HWR := Lib.hid hwr
    have HG3 := Lib.hid hg3
    rw [← hwr] at HB3 HR3 HV3 HX3
    rw [← hg3] at HV3
    clear hd hb hl5 hc5 hsz hor hwr hg3 HB1 HX1 HC1 HB2 HR2
    rcases HOR.out with ⟨h1, rfl, hvz⟩ | ⟨h1, rfl, hm, hx⟩ | ⟨h1, rfl, hvz, hno⟩
    · have d1 : decide (1048576 < xs.length) = true := decide_eq_true h1
      have d2 : decide ((1048576 : Int) < (xs.length : Int)) = true := decide_eq_true (by omega)
      clear h1
      have c0 := blk_cell HV3.out 0
      have c1 := blk_cell HV3.out 1
      have c2 := blk_cell HV3.out 2
      have c3 := blk_cell HV3.out 3
      have T := Lib.hid (same_zero v hvz A5 c5 wr HR3.out HL5.out)
      clear hvz
      rw [HWR.out, HG3.out] at c0 c1 c2 c3
      rw [HWR.out] at T
      go_wp2_with fail
      refine T.out.mono ?_
      rintro e w4 ⟨rfl, hb⟩
      rw [← HWR.out] at hb
      have HB4 := Lib.hid (below_then HB3.out HB3.out.size hb)
      clear hb T c0 c1 c2 c3
      go_wp2_with fail
      refine (awake_calls _).mono ?_
      rintro e wz ⟨rfl, hb⟩
      have HBZ := Lib.hid (below_then HB4.out HB4.out.size hb)
      clear hb
      go_wp2_with fail
      go_ret
      exact ⟨rfl, HBZ.out⟩
    · have d1 : decide (1048576 < xs.length) = false := decide_eq_false (by omega)
      have d2 : decide ((1048576 : Int) < (xs.length : Int)) = false := decide_eq_false (by omega)
      have HM := Lib.hid hm
      have HEX := Lib.hid hx
      have HEN : Hid ((encN 16 v).length + 30 ≤ 140737488355328) := Lib.hid (by rw [← hx]; omega)
      clear h1 hm hx
      go_wp2_with fail
      rw [← HWR.out, ← HG3.out]
      clear HWR HG3
      refine start_ (n := 14) (S := fun w' => w'.heap[g3]? = wr.heap[g3]? ∧ BK.C w' A0 xs.length xs) (ds := []) #[false, false, false, false, false, false, false, false, false, false, false, false, false, false] (by kernel_rfl) rfl rfl ⟨rfl, Kd.C_below HX3.out (below_drew (Below.refl _ _))⟩ (fun hHeld => ?_)
      have hB0 : Hid (Below w.heap.size w wr.drew) := Lib.hid (below_then HB3.out HB3.out.size (below_drew (Below.refl _ _)))
      have hR0 := Lib.hid (Kd.C_below HR3.out (below_drew (Below.refl wr.heap.size wr)))
      generalize wr.drew = wd at hB0 hR0 hHeld ⊢
      refine take_ (i := 0) (N := some 46) (v := ?_) (a' := ?_) #[true, false, false, false, false, false, false, false, false, false, false, false, false, false] rfl rfl (by kernel_rfl) (fun _ _ _ h => h) (Or.inl ⟨by rfl, ?_⟩) hHeld ?_ ?_
      rotate_left
      · rintro w' hS
        have c0 := blk_cell (hS.1.trans HV3.out) 0
        have c1 := blk_cell (hS.1.trans HV3.out) 1
        have c2 := blk_cell (hS.1.trans HV3.out) 2
        have c3 := blk_cell (hS.1.trans HV3.out) 3
        go_simp
        with_reducible rfl
      rotate_left
      · simp only [Act.put, List.setIfInBounds_toArray, List.set_cons_zero, List.set_cons_succ, i64_w, i32_w]
        rfl
      refine one_ (i := 1) (N := some 47) #[true, true, false, false, false, false, false, false, false, false, false, false, false, false] rfl rfl (by kernel_rfl) (by decide) (fun K hK => ?_)
      refine goes_ Try.func14 (by kernel_rfl) rfl #[.agg (aggV v A5 c5), .int .i64 16] (by rfl) rfl rfl (by (try simp only [List.map_toArray, List.map_cons, List.map_nil]); first | done | rfl | (go_simp; done) | (go_simp; rfl)) ?_
      refine (rmay_calls v HSZ.out A5 c5 wd hR0.out HL5.out).mono ?_
      rintro r w47 ⟨rfl, hb⟩
      rw [HM.out]
      refine ⟨_, rfl, ?_⟩
      have hX1 := Lib.hid (Kd.C_below hHeld.2 hb)
      have hR1 := Lib.hid (Kd.C_below hR0.out hb)
      have hV1 := Lib.hid ((blk_below (hHeld.1.trans HV3.out) hb).trans HV3.out.symm)
      have hB1 := Lib.hid (below_then hB0.out hB0.out.size hb)
      clear hb hB0 hR0
      refine hK.out _ _ ⟨hV1.out, hX1.out⟩ (fun hHeld => ?_)
      clear hK K
      refine norm_ (a' := ?_) ?_ ?_
      rotate_left
      · show Act.put _ (some 47) _ = _
        simp only [Act.put, List.setIfInBounds_toArray, List.set_cons_zero, List.set_cons_succ, i64_w, i32_w]
        rfl
      refine pure_ (i := 2) (N := some 48) (v := ?_) (a' := ?_) #[true, true, true, false, false, false, false, false, false, false, false, false, false, false] rfl rfl (by kernel_rfl) (fun _ _ _ h => h) (Or.inl ⟨by rfl, ?_⟩) ?_ ?_
      rotate_left
      · intro w'
        go_simp
        with_reducible rfl
      rotate_left
      · simp only [Act.put, List.setIfInBounds_toArray, List.set_cons_zero, List.set_cons_succ, i64_w, i32_w]
        rfl
      refine take_ (i := 3) (N := some 49) (v := ?_) (a' := ?_) #[true, true, true, true, false, false, false, false, false, false, false, false, false, false] rfl rfl (by kernel_rfl) (fun _ _ _ h => h) (Or.inl ⟨by rfl, ?_⟩) hHeld ?_ ?_
      rotate_left
      · rintro w' hS
        have c0 := blk_cell (hS.1.trans HV3.out) 0
        have c1 := blk_cell (hS.1.trans HV3.out) 1
        have c2 := blk_cell (hS.1.trans HV3.out) 2
        have c3 := blk_cell (hS.1.trans HV3.out) 3
        go_simp
        with_reducible rfl
      rotate_left
      · simp only [Act.put, List.setIfInBounds_toArray, List.set_cons_zero, List.set_cons_succ, i64_w, i32_w]
        rfl
      refine pure_ (i := 6) (N := some 52) (v := ?_) (a' := ?_) #[true, true, true, true, false, false, true, false, false, false, false, false, false, false] rfl rfl (by kernel_rfl) (fun _ _ _ h => h) (Or.inl ⟨by rfl, ?_⟩) ?_ ?_
      rotate_left
      · intro w'
        go_simp
        with_reducible rfl
      rotate_left
      · simp only [Act.put, List.setIfInBounds_toArray, List.set_cons_zero, List.set_cons_succ, i64_w, i32_w]
        rfl
      refine take_ (i := 7) (N := some 53) (v := ?_) (a' := ?_) #[true, true, true, true, false, false, true, true, false, false, false, false, false, false] rfl rfl (by kernel_rfl) (fun _ _ _ h => h) (Or.inl ⟨by rfl, ?_⟩) hHeld ?_ ?_
      rotate_left
      · rintro w' hS
        have hcx := Kd.C_string (P := Try.prog) (c := cz) Try.underlying39 Try.underlying5 Try.underlying9 hS.2
        go_simp
        with_reducible rfl
      rotate_left
      · simp only [Act.put, List.setIfInBounds_toArray, List.set_cons_zero, List.set_cons_succ, i64_w, i32_w]
        rfl
      refine one_ (i := 4) (N := some 50) #[true, true, true, true, true, false, true, true, false, false, false, false, false, false] rfl rfl (by kernel_rfl) (by decide) (fun K hK => ?_)
      refine goes_ Try.func20 (by kernel_rfl) rfl #[.agg (aggV v A5 c5)] (by rfl) rfl rfl (by (try simp only [List.map_toArray, List.map_cons, List.map_nil]); first | done | rfl | (go_simp; done) | (go_simp; rfl)) ?_
      refine (rbytes_calls 16 v HM.out (HSZ.out.fit 16) A5 c5 w47 HL5.out hR1.out HEN.out).mono ?_
      rintro r w50 ⟨bv, rfl, ho, hb⟩
      refine ⟨_, rfl, ?_⟩
      rw [← HEX.out] at ho
      obtain ⟨A6, c6, rfl, hc6, hC6⟩ := ho.reads
      have hX2 := Lib.hid (Kd.C_below hX1.out hb)
      have hY2 := Lib.hid hC6
      have hV2 := Lib.hid ((blk_below (hV1.out.trans HV3.out) hb).trans HV3.out.symm)
      have hB2 := Lib.hid (below_then hB1.out hB1.out.size hb)
      clear hb ho hc6 hC6 hB1 hR1 hV1 hX1
      refine hK.out _ _ ⟨hV2.out, hX2.out⟩ (fun hHeld => ?_)
      clear hK K
      refine norm_ (a' := ?_) ?_ ?_
      rotate_left
      · show Act.put _ (some 50) _ = _
        simp only [Act.put, List.setIfInBounds_toArray, List.set_cons_zero, List.set_cons_succ, i64_w, i32_w]
        rfl
      refine one_ (i := 5) (N := some 51) #[true, true, true, true, true, true, true, true, false, false, false, false, false, false] rfl rfl (by kernel_rfl) (by decide) (fun K hK => ?_)
      have hcx := Kd.C_string (P := Try.prog) (c := c6) Try.underlying39 Try.underlying5 Try.underlying9 hY2.out
      refine value_ (w1 := ?_) (v := ?_) (by rfl) rfl ?_ ?_
      rotate_left 2
      · go_simp
        constructor
        · rfl
        · rfl
      clear hcx
      refine hK.out _ _ ⟨hV2.out, hX2.out⟩ (fun hHeld => ?_)
      clear hK K
      refine norm_ (a' := ?_) ?_ ?_
      rotate_left
      · show Act.put _ (some 51) _ = _
        simp only [Act.put, List.setIfInBounds_toArray, List.set_cons_zero, List.set_cons_succ, i64_w, i32_w]
        rfl
      refine pure_ (i := 8) (N := some 54) (v := ?_) (a' := ?_) #[true, true, true, true, true, true, true, true, true, false, false, false, false, false] rfl rfl (by kernel_rfl) (fun _ _ _ h => h) (Or.inl ⟨by rfl, ?_⟩) ?_ ?_
      rotate_left
      · intro w'
        go_simp
        with_reducible rfl
      rotate_left
      · simp only [Act.put, List.setIfInBounds_toArray, List.set_cons_zero, List.set_cons_succ, i64_w, i32_w]
        rfl
      refine pure_ (i := 9) (N := some 55) (v := ?_) (a' := ?_) #[true, true, true, true, true, true, true, true, true, true, false, false, false, false] rfl rfl (by kernel_rfl) (fun _ _ _ h => h) (Or.inl ⟨by rfl, ?_⟩) ?_ ?_
      rotate_left
      · intro w'
        go_simp
        with_reducible rfl
      rotate_left
      · simp only [Act.put, List.setIfInBounds_toArray, List.set_cons_zero, List.set_cons_succ, i64_w, i32_w]
        rfl
      refine pure_ (i := 10) (N := some 56) (v := ?_) (a' := ?_) #[true, true, true, true, true, true, true, true, true, true, true, false, false, false] rfl rfl (by kernel_rfl) (fun _ _ _ h => h) (Or.inl ⟨by rfl, ?_⟩) ?_ ?_
      rotate_left
      · intro w'
        go_simp
        with_reducible rfl
      rotate_left
      · simp only [Act.put, List.setIfInBounds_toArray, List.set_cons_zero, List.set_cons_succ, i64_w, i32_w]
        rfl
      refine one_ (i := 11) (N := some 57) #[true, true, true, true, true, true, true, true, true, true, true, true, false, false] rfl rfl (by kernel_rfl) (by decide) (fun K hK => ?_)
      refine goes_ Try.func9 (by kernel_rfl) rfl #[] (by rfl) rfl rfl (by (try simp only [List.map_toArray, List.map_cons, List.map_nil]); first | done | rfl | (go_simp; done) | (go_simp; rfl)) ?_
      refine (awake_calls w50).mono ?_
      rintro r w57 ⟨rfl, hb⟩
      refine ⟨_, rfl, ?_⟩
      have hX3 := Lib.hid (Kd.C_below hX2.out hb)
      have hV3 := Lib.hid ((blk_below (hV2.out.trans HV3.out) hb).trans HV3.out.symm)
      have hB3 := Lib.hid (below_then hB2.out hB2.out.size hb)
      clear hb hB2 hV2 hX2
      refine hK.out _ _ ⟨hV3.out, hX3.out⟩ (fun hHeld => ?_)
      clear hK K
      refine norm_ (a' := ?_) ?_ ?_
      rotate_left
      · show Act.put _ (some 57) _ = _
        simp only [Act.put, List.setIfInBounds_toArray, List.set_cons_zero, List.set_cons_succ, i64_w, i32_w]
        rfl
      refine pure_ (i := 12) (N := some 58) (v := ?_) (a' := ?_) #[true, true, true, true, true, true, true, true, true, true, true, true, true, false] rfl rfl (by kernel_rfl) (fun _ _ _ h => h) (Or.inl ⟨by rfl, ?_⟩) ?_ ?_
      rotate_left
      · intro w'
        go_simp
        with_reducible rfl
      rotate_left
      · simp only [Act.put, List.setIfInBounds_toArray, List.set_cons_zero, List.set_cons_succ, i64_w, i32_w]
        rfl
      refine pure_ (i := 13) (N := some 2) (v := ?_) (a' := ?_) #[true, true, true, true, true, true, true, true, true, true, true, true, true, true] rfl rfl (by kernel_rfl) (fun _ _ _ h => h) (Or.inl ⟨by rfl, ?_⟩) ?_ ?_
      rotate_left
      · intro w'
        go_simp
        with_reducible rfl
      rotate_left
      · simp only [Act.put, List.setIfInBounds_toArray, List.set_cons_zero, List.set_cons_succ, i64_w, i32_w]
        rfl
      refine done_ (by kernel_rfl) ?_
      go_wp2_with fail
      go_ret
      exact ⟨rfl, hB3.out⟩
    · have d1 : decide (1048576 < xs.length) = false := decide_eq_false (by omega)
      have d2 : decide ((1048576 : Int) < (xs.length : Int)) = false := decide_eq_false (by omega)
      clear h1 hno
      have c0 := blk_cell HV3.out 0
      have c1 := blk_cell HV3.out 1
      have c2 := blk_cell HV3.out 2
      have c3 := blk_cell HV3.out 3
      have T := Lib.hid (same_zero v hvz A5 c5 wr HR3.out HL5.out)
      clear hvz
      rw [HWR.out, HG3.out] at c0 c1 c2 c3
      rw [HWR.out] at T
      go_wp2_with fail
      refine T.out.mono ?_
      rintro e w4 ⟨rfl, hb⟩
      rw [← HWR.out] at hb
      have HB4 := Lib.hid (below_then HB3.out HB3.out.size hb)
      clear hb T c0 c1 c2 c3
      go_wp2_with fail
      refine (awake_calls _).mono ?_
      rintro e wz ⟨rfl, hb⟩
      have HBZ := Lib.hid (below_then HB4.out HB4.out.size hb)
      clear hb
      go_wp2_with fail
      go_ret
      exact ⟨rfl, HBZ.out⟩
theorem walkDecodes (A : Option Addr) (c : Nat) (x : List Int) (w : World) (hl : x.length ≤ c) (hc : BK.C w A x.length x) (g : (∀ y ∈ x, (Lit.int .u8 y).wf = true) ∧ x.length * 1 ≤ reachBytes) :
    Calls Try.prog 7 #[.slice A x.length c] w fun e w' => e = .returned (.bool true) ∧ Below w.heap.size w w' := by
  refine decodes_calls A c x w hl hc (fun y hy => ?_) ?_
  · have h := g.1 y hy
    simp only [Lit.wf, Bool.and_eq_true, decide_eq_true_eq] at h
    have e1 : IntKind.u8.min = 0 := by decide
    have e2 : IntKind.u8.max = 255 := by decide
    rw [e1, e2] at h
    omega
  · have h := g.2
    have e : reachBytes = 140737488351232 := rfl
    rw [e] at h
    omega
theorem opens_bytes : Opns.Opens 39 (Kd.slice 5 (Kd.int .u8)) (fun xs => (∀ x ∈ xs, (Lit.int .u8 x).wf = true) ∧ xs.length * 1 ≤ reachBytes) (fun xs => Opns.lbulk (fun _ => 1) xs + 1) :=
  Opns.opens_slice Try.underlying39 (by kernel_rfl) (by kernel_rfl) (Opns.opens_int Try.underlying5)
end Go.Proofs.Ytcilojakgnjjmaa.LmD
/- message.Count; MessageCounts. -/
set_option linter.unusedSimpArgs false
set_option linter.unusedVariables false
namespace Go.Proofs.Ytcilojakgnjjmaa.LmC
open Go Go.RowKit Go.Proofs.YtcilojakgnjjmaaW.PrintWords Go.Proofs.YtcilojakgnjjmaaW.PrintLast Go.Proofs.YtcilojakgnjjmaaW.PrintMore Mem PAll MeP MeM MeN MeA MeT MeS MeX MeC MeV MeK MeW MeQ MeR
/-- What Count gives. -/
def countO (x : V) (k : Int) : Int × Int := if mayN 16 x = true ∧ 0 ≤ k ∧ k < 6 then (wrap64 (cN k 16 x), 0) else (0, 1)
set_option maxHeartbeats 4000000 in
theorem count_bad (x : V) (A : Option Addr) (c : Nat) (k : Int) (w : World) (hl : x.f3.length ≤ c) (hc : kV.C w A x.f3.length x.f3) (hb : ¬ (mayN 16 x = true ∧ 0 ≤ k ∧ k < 6)) :
    Calls Try.prog 13 #[.agg (aggV x A c), .int .i64 k] w fun e w' => e = .returned (.tuple #[.int .i64 (countO x k).1, .int .i64 (countO x k).2]) ∧ Below w.heap.size w w' := by
  have HT : Hid (countO x k = (0, 1)) := Lib.hid (by unfold countO; rw [if_neg hb])
  have HB0 := Lib.hid (below_alloc (Below.refl w.heap.size w) (.cells (aggV x A c) 24))
  have HV0 := Lib.hid (blk_new w (.cells (aggV x A c) 24))
  have c0 := blk_cell HV0.out 0
  have c1 := blk_cell HV0.out 1
  have c2 := blk_cell HV0.out 2
  have c3 := blk_cell HV0.out 3
  have T := Lib.hid (check_calls x A c _ hl (Kd.C_below hc HB0.out))
  have hcs : mayN 16 x = false ∨ (mayN 16 x = true ∧ k < 0) ∨ (mayN 16 x = true ∧ ¬ k < 0 ∧ 6 ≤ k) := by
    cases h : mayN 16 x
    · exact .inl rfl
    · by_cases h1 : k < 0
      · exact .inr (.inl ⟨rfl, h1⟩)
      · by_cases h2 : k < 6
        · exact absurd ⟨h, by omega, h2⟩ hb
        · exact .inr (.inr ⟨rfl, h1, by omega⟩)
  rw [HT.out]
  clear hc hl hb HT
  rcases hcs with hm | ⟨hm, h1⟩ | ⟨hm, h1, h2⟩
  · rw [hm, if_neg (by decide)] at T
    clear hm
    go_enter Try.func13, Try.ntmps13
    go_wp2_with fail
    refine T.out.mono ?_
    rintro e w2 ⟨rfl, hb⟩
    have HB2 := Lib.hid (below_then HB0.out HB0.out.size hb)
    clear hb T c0 c1 c2 c3 HV0 HB0
    go_wp2_with fail
    go_ret2
    exact ⟨rfl, HB2.out⟩
  · rw [hm, if_pos rfl] at T
    have d1 : decide (k < 0) = true := decide_eq_true h1
    clear hm h1
    go_enter Try.func13, Try.ntmps13
    go_wp2_with fail
    refine T.out.mono ?_
    rintro e w2 ⟨rfl, hb⟩
    have HB2 := Lib.hid (below_then HB0.out HB0.out.size hb)
    clear hb T c0 c1 c2 c3 HV0 HB0
    go_wp2_with fail
    go_ret2
    exact ⟨rfl, HB2.out⟩
  · rw [hm, if_pos rfl] at T
    have d1 : decide (k < 0) = false := decide_eq_false h1
    have d2 : decide (6 ≤ k) = true := decide_eq_true h2
    clear hm h1 h2
    go_enter Try.func13, Try.ntmps13
    go_wp2_with fail
    refine T.out.mono ?_
    rintro e w2 ⟨rfl, hb⟩
    have HB2 := Lib.hid (below_then HB0.out HB0.out.size hb)
    clear hb T c0 c1 c2 c3 HV0 HB0
    go_wp2_with fail
    go_ret2
    exact ⟨rfl, HB2.out⟩
set_option maxHeartbeats 4000000 in
theorem count_ok (x : V) (hs : Sz x) (A : Option Addr) (c : Nat) (k : Int) (w : World) (hl : x.f3.length ≤ c) (hc : kV.C w A x.f3.length x.f3) (hb : mayN 16 x = true ∧ 0 ≤ k ∧ k < 6) :
    Calls Try.prog 13 #[.agg (aggV x A c), .int .i64 k] w fun e w' => e = .returned (.tuple #[.int .i64 (countO x k).1, .int .i64 (countO x k).2]) ∧ Below w.heap.size w w' := by
  have HT : Hid (countO x k = (wrap64 (cN k 16 x), 0)) := Lib.hid (by unfold countO; rw [if_pos hb])
  have HB0 := Lib.hid (below_alloc (Below.refl w.heap.size w) (.cells (aggV x A c) 24))
  have HV0 := Lib.hid (blk_new w (.cells (aggV x A c) 24))
  have c0 := blk_cell HV0.out 0
  have c1 := blk_cell HV0.out 1
  have c2 := blk_cell HV0.out 2
  have c3 := blk_cell HV0.out 3
  have HC0 := Lib.hid (Kd.C_below hc HB0.out)
  have T := Lib.hid (check_calls x A c _ hl HC0.out)
  have d1 : decide (k < 0) = false := decide_eq_false (by omega)
  have d2 : decide (6 ≤ k) = false := decide_eq_false (by omega)
  rw [HT.out]
  rw [hb.1, if_pos rfl] at T
  obtain ⟨K, hk⟩ := pro_cnt k 16 x hb.1 hs
  have HK : Hid (message_count.f K x.f0 x.f1 x.f2 x.f3 k = some (wrap64 (cN k 16 x))) := Lib.hid (hk K (Nat.le_refl _))
  have HL := Lib.hid hl
  obtain ⟨r, hr⟩ : ∃ r, r = wrap64 (cN k 16 x) := ⟨_, rfl⟩
  rw [← hr] at HK ⊢
  clear hc hl hb HT hr hs hk
  go_enter Try.func13, Try.ntmps13
  go_wp2_with fail
  refine T.out.mono ?_
  rintro e w2 ⟨rfl, hb⟩
  have HB2 := Lib.hid (below_then HB0.out HB0.out.size hb)
  have HV2 := Lib.hid (blk_below HV0.out hb)
  have HC2 := Lib.hid (Kd.C_below HC0.out hb)
  clear hb T c0 c1 c2 c3 HV0 HB0 HC0
  have c0 := blk_cell HV2.out 0
  have c1 := blk_cell HV2.out 1
  have c2 := blk_cell HV2.out 2
  have c3 := blk_cell HV2.out 3
  have T := Lib.hid (message_count.calls K x.f0 x.f1 x.f2 A c x.f3 k r w2 HC2.out HL.out HK.out)
  go_wp2_with fail
  refine T.out.mono ?_
  rintro e w3 ⟨rfl, hb⟩
  have HB3 := Lib.hid (below_then HB2.out HB2.out.size hb)
  clear hb T
  go_wp2_with fail
  go_ret2
  exact ⟨rfl, HB3.out⟩
theorem count_calls (x : V) (hs : Sz x) (A : Option Addr) (c : Nat) (k : Int) (w : World) (hl : x.f3.length ≤ c) (hc : kV.C w A x.f3.length x.f3) :
    Calls Try.prog 13 #[.agg (aggV x A c), .int .i64 k] w fun e w' => e = .returned (.tuple #[.int .i64 (countO x k).1, .int .i64 (countO x k).2]) ∧ Below w.heap.size w w' := by
  by_cases hb : mayN 16 x = true ∧ 0 ≤ k ∧ k < 6
  · exact count_ok x hs A c k w hl hc hb
  · exact count_bad x A c k w hl hc hb
/-- The kinds below i, counted. -/
def pre (x : V) : Nat → Int
  | 0 => 0
  | i + 1 => pre x i + cN i 16 x
theorem pre_s (x : V) (i : Nat) (j : Int) (h : (i : Int) = j) : pre x (i + 1) = pre x i + cN j 16 x := by rw [pre, h]
theorem pre_all {x : V} (h : mayN 16 x = true) : pre x 6 = sN 16 x := by
  rw [← sum_kinds 16 x h, pre_s x 5 5 rfl, pre_s x 4 4 rfl, pre_s x 3 3 rfl, pre_s x 2 2 rfl, pre_s x 1 1 rfl, pre_s x 0 0 rfl, pre, Int.zero_add]
theorem rcount_calls (x : V) (hs : Sz x) (hm : mayN 16 x = true) (A : Option Addr) (c : Nat) (k : Int) (w : World) (hl : x.f3.length ≤ c) (hc : kV.C w A x.f3.length x.f3) :
    Calls Try.prog 16 #[.agg (aggV x A c), .int .i64 k] w fun e w' => e = .returned (.int .i64 (wrap64 (cN k 16 x))) ∧ Below w.heap.size w w' := by
  obtain ⟨K, hk⟩ := ref_cnt k 16 x hm hs
  exact mooringref24_Count.calls K _ _ _ A c _ k _ w hc hl (hk K (Nat.le_refl _))
theorem rsize_calls (x : V) (hs : Sz x) (hm : mayN 16 x = true) (A : Option Addr) (c : Nat) (w : World) (hl : x.f3.length ≤ c) (hc : kV.C w A x.f3.length x.f3) :
    ∃ d, Calls Try.prog 15 #[.agg (aggV x A c)] w fun e w' => e = .returned (.tuple #[.int .i64 (wrap64 (sN 16 x)), .int .i64 d]) ∧ Below w.heap.size w w' := by
  obtain ⟨d, K, hk⟩ := size_may 16 x hm hs
  exact ⟨d, mooringref24_Size.calls K _ _ _ A c _ _ d w hc hl (hk K (Nat.le_refl _))⟩
theorem meas6 {i : Nat} (h : i < 6) : ((6 : Int) - intOf (.int .i64 ((i : Int) + 1))).toNat < ((6 : Int) - intOf (.int .i64 (i : Int))).toNat := by
  show ((6 : Int) - ((i : Int) + 1)).toNat < ((6 : Int) - (i : Int)).toNat
  omega
set_option maxHeartbeats 16000000 in
set_option maxRecDepth 100000 in
theorem counts_core (x : V) (A : Option Addr) (c : Nat) (k : Int) (w : World) (hl : x.f3.length ≤ c) (hc : kV.C w A x.f3.length x.f3) (M : Bool) (D : Int → Int × Int) (Cn : Int → Int) (S : Int) (g : Nat → Int)
    (hlight : ∀ w, kV.C w A x.f3.length x.f3 → ∃ r, Calls Try.prog 8 #[.agg (aggV x A c)] w fun e w' => e = .returned (.bool r) ∧ Below w.heap.size w w')
    (hcount : ∀ k w, kV.C w A x.f3.length x.f3 → Calls Try.prog 13 #[.agg (aggV x A c), .int .i64 k] w fun e w' => e = .returned (.tuple #[.int .i64 (D k).1, .int .i64 (D k).2]) ∧ Below w.heap.size w w')
    (hD : ∀ k, D k = if M = true ∧ 0 ≤ k ∧ k < 6 then (wrap64 (Cn k), 0) else (0, 1))
    (hmay : ∀ w, kV.C w A x.f3.length x.f3 → Calls Try.prog 14 #[.agg (aggV x A c), .int .i64 16] w fun e w' => e = .returned (.bool M) ∧ Below w.heap.size w w')
    (hrc : M = true → ∀ k w, kV.C w A x.f3.length x.f3 → Calls Try.prog 16 #[.agg (aggV x A c), .int .i64 k] w fun e w' => e = .returned (.int .i64 (wrap64 (Cn k))) ∧ Below w.heap.size w w')
    (hsz : M = true → ∀ w, kV.C w A x.f3.length x.f3 → ∃ d, Calls Try.prog 15 #[.agg (aggV x A c)] w fun e w' => e = .returned (.tuple #[.int .i64 (wrap64 S), .int .i64 d]) ∧ Below w.heap.size w w')
    (hg0 : g 0 = 0) (hgs : ∀ i : Nat, g (i + 1) = g i + Cn i) (hg6 : M = true → g 6 = S) :
    Calls Try.prog 4 #[.agg (aggV x A c), .int .i64 k] w fun e w' => e = .returned (.bool true) ∧ Below w.heap.size w w' := by
  have HB0 := Lib.hid (below_alloc (Below.refl w.heap.size w) (.cells (aggV x A c) 24))
  have HV0 := Lib.hid (blk_new w (.cells (aggV x A c) 24))
  have c0 := blk_cell HV0.out 0
  have c1 := blk_cell HV0.out 1
  have c2 := blk_cell HV0.out 2
  have c3 := blk_cell HV0.out 3
  obtain ⟨lt, hlt⟩ := hlight _ (Kd.C_below hc HB0.out)
  have TL := Lib.hid hlt
  have HD := Lib.hid hD
  have HCT := Lib.hid hcount
  have HMY := Lib.hid hmay
  have HRC := Lib.hid hrc
  have HSZ := Lib.hid hsz
  have HG0 := Lib.hid hg0
  have HGS := Lib.hid hgs
  have HG6 := Lib.hid hg6
  have HC := Lib.hid hc
  have HL := Lib.hid hl
  clear hlt hc hl hlight hcount hD hmay hrc hsz hg0 hgs hg6
  go_enter Try.func4, Try.ntmps4
  go_wp2_with fail
  refine TL.out.mono ?_
  rintro e w3 ⟨rfl, hb⟩
  have HB3 := Lib.hid (below_then HB0.out HB0.out.size hb)
  have HV3 := Lib.hid (blk_below HV0.out hb)
  clear hb TL HB0 HV0 c0 c1 c2 c3
  have c0 := blk_cell HV3.out 0
  have c1 := blk_cell HV3.out 1
  have c2 := blk_cell HV3.out 2
  have c3 := blk_cell HV3.out 3
  cases lt
  · go_wp2_with fail
    refine (awake_calls _).mono ?_
    rintro e wz ⟨rfl, hb⟩
    have HBZ := Lib.hid (below_then HB3.out HB3.out.size hb)
    clear hb
    go_wp2_with fail
    go_ret
    exact ⟨rfl, HBZ.out⟩
  have T := Lib.hid (HCT.out k w3 (Kd.C_below HC.out HB3.out))
  obtain ⟨y, hy⟩ : ∃ y, y = D k := ⟨_, rfl⟩
  rw [← hy] at T
  obtain ⟨n, er⟩ := y
  have HY := Lib.hid hy
  clear hy
  dsimp only at T
  go_wp2_with fail
  refine T.out.mono ?_
  rintro e w4 ⟨rfl, hb⟩
  have HB4 := Lib.hid (below_then HB3.out HB3.out.size hb)
  have HV4 := Lib.hid (blk_below HV3.out hb)
  clear hb T HB3 HV3 c0 c1 c2 c3
  have c0 := blk_cell HV4.out 0
  have c1 := blk_cell HV4.out 1
  have c2 := blk_cell HV4.out 2
  have c3 := blk_cell HV4.out 3
  have T := Lib.hid (HMY.out w4 (Kd.C_below HC.out HB4.out))
  by_cases hg : M = true ∧ 0 ≤ k ∧ k < 6
  · have HM := Lib.hid hg.1
    rw [hg.1] at T
    have d1 : decide (k < 0) = false := decide_eq_false (by omega)
    have d2 : decide (6 ≤ k) = false := decide_eq_false (by omega)
    obtain ⟨hn, he⟩ : n = wrap64 (Cn k) ∧ er = 0 := by
      have := HY.out
      rw [HD.out, if_pos hg] at this
      exact ⟨congrArg Prod.fst this, congrArg Prod.snd this⟩
    subst he
    have HN := Lib.hid hn
    clear hg hn HY
    go_wp2_with fail
    refine T.out.mono ?_
    rintro e w5 ⟨rfl, hb⟩
    have HB5 := Lib.hid (below_then HB4.out HB4.out.size hb)
    have HV5 := Lib.hid (blk_below HV4.out hb)
    clear hb T HB4 HV4 c0 c1 c2 c3
    go_wp2_with fail
    go_loopw [7, 8] (fun s' i' wr => ∃ (i : Nat), s' = .int .i64 (wrap64 (g i)) ∧ i' = .int .i64 i ∧ Hid (i ≤ 6) ∧ Hid (wr.heap[w.heap.size]? = some (.cells (aggV x A c) 24 (0, 0))) ∧ Hid (Below w.heap.size w wr)) (fun _ i' _ => (6 - intOf i').toNat)
    case atStart => exact ⟨0, by rw [HG0.out, show wrap64 0 = 0 by unfold wrap64; omega], rfl, Lib.hid (by decide), HV5, HB5⟩
    case round =>
      obtain ⟨i, rfl, rfl, HI, HV, HB⟩ := hrel
      have c0 := blk_cell HV.out 0
      have c1 := blk_cell HV.out 1
      have c2 := blk_cell HV.out 2
      have c3 := blk_cell HV.out 3
      by_cases h : i < 6
      · have hlt : decide ((i : Int) < 6) = true := decide_eq_true (by omega)
        have T := Lib.hid (HCT.out i wr (Kd.C_below HC.out HB.out))
        have hcn : D (i : Int) = (wrap64 (Cn i), 0) := by rw [HD.out, if_pos ⟨HM.out, by omega, by omega⟩]
        rw [hcn] at T
        dsimp only at T
        obtain ⟨q, hq⟩ : ∃ q, q = wrap64 (Cn i) := ⟨_, rfl⟩
        obtain ⟨s, hs⟩ : ∃ s, s = wrap64 (g i) := ⟨_, rfl⟩
        rw [← hq] at T
        rw [← hs]
        have HQ : Hid (wrap64 (s + q) = wrap64 (g (i + 1))) := Lib.hid (by rw [hs, hq, wrap_add, HGS.out i])
        have HLT := Lib.hid h
        clear h hcn hq hs
        go_wp2_with fail
        refine T.out.mono ?_
        rintro e w6 ⟨rfl, hb⟩
        have HB6 := Lib.hid (below_then HB.out HB.out.size hb)
        have HV6 := Lib.hid (blk_below HV.out hb)
        clear hb T HB HV c0 c1 c2 c3
        go_wp2_with fail
        have hw : wrap64 ((i : Int) + 1) = (i : Int) + 1 := by have := HLT.out; unfold wrap64; omega
        go_roundw
        case rel => exact ⟨i + 1, by rw [← HQ.out], congrArg (Value.int .i64) hw, Lib.hid (by have := HLT.out; omega), HV6, HB6⟩
        case measure =>
          rw [hw]
          exact meas6 HLT.out
      · obtain rfl : i = 6 := by have := HI.out; omega
        have hlt : decide (((6 : Nat) : Int) < 6) = false := by decide
        rw [HG6.out HM.out]
        obtain ⟨d, hd⟩ := HSZ.out HM.out wr (Kd.C_below HC.out HB.out)
        obtain ⟨s, hs⟩ : ∃ s, s = wrap64 S := ⟨_, rfl⟩
        rw [← hs] at hd ⊢
        have T := Lib.hid hd
        clear h hd hs
        go_wp2_with fail
        refine T.out.mono ?_
        rintro e w7 ⟨rfl, hb⟩
        have HB7 := Lib.hid (below_then HB.out HB.out.size hb)
        have HV7 := Lib.hid (blk_below HV.out hb)
        clear hb T HB HV c0 c1 c2 c3
        have c0 := blk_cell HV7.out 0
        have c1 := blk_cell HV7.out 1
        have c2 := blk_cell HV7.out 2
        have c3 := blk_cell HV7.out 3
        have T := Lib.hid (HRC.out HM.out k w7 (Kd.C_below HC.out HB7.out))
        rw [← HN.out] at T
        go_wp2_with fail
        refine T.out.mono ?_
        rintro e w8 ⟨rfl, hb⟩
        have HB8 := Lib.hid (below_then HB7.out HB7.out.size hb)
        clear hb T HB7 HV7 c0 c1 c2 c3
        go_wp2_with fail
        refine (awake_calls _).mono ?_
        rintro e wz ⟨rfl, hb⟩
        have HBZ := Lib.hid (below_then HB8.out HB8.out.size hb)
        clear hb
        go_wp2_with fail
        go_ret
        exact ⟨rfl, HBZ.out⟩
  · obtain ⟨hn, he⟩ : n = 0 ∧ er = 1 := by
      have := HY.out
      rw [HD.out, if_neg hg] at this
      exact ⟨congrArg Prod.fst this, congrArg Prod.snd this⟩
    subst hn
    subst he
    have hcs : M = false ∨ (M = true ∧ k < 0) ∨ (M = true ∧ ¬ k < 0 ∧ 6 ≤ k) := by
      cases h : M
      · exact .inl rfl
      · by_cases h1 : k < 0
        · exact .inr (.inl ⟨rfl, h1⟩)
        · by_cases h2 : k < 6
          · exact absurd ⟨h, by omega, h2⟩ hg
          · exact .inr (.inr ⟨rfl, h1, by omega⟩)
    clear hg HY
    rcases hcs with hm | ⟨hm, h1⟩ | ⟨hm, h1, h2⟩
    · rw [hm] at T
      clear hm
      go_wp2_with fail
      refine T.out.mono ?_
      rintro e w5 ⟨rfl, hb⟩
      have HB5 := Lib.hid (below_then HB4.out HB4.out.size hb)
      clear hb T HB4 HV4 c0 c1 c2 c3
      go_wp2_with fail
      refine (awake_calls _).mono ?_
      rintro e wz ⟨rfl, hb⟩
      have HBZ := Lib.hid (below_then HB5.out HB5.out.size hb)
      clear hb
      go_wp2_with fail
      go_ret
      exact ⟨rfl, HBZ.out⟩
    · rw [hm] at T
      have d1 : decide (k < 0) = true := decide_eq_true h1
      clear hm h1
      go_wp2_with fail
      refine T.out.mono ?_
      rintro e w5 ⟨rfl, hb⟩
      have HB5 := Lib.hid (below_then HB4.out HB4.out.size hb)
      clear hb T HB4 HV4 c0 c1 c2 c3
      go_wp2_with fail
      refine (awake_calls _).mono ?_
      rintro e wz ⟨rfl, hb⟩
      have HBZ := Lib.hid (below_then HB5.out HB5.out.size hb)
      clear hb
      go_wp2_with fail
      go_ret
      exact ⟨rfl, HBZ.out⟩
    · rw [hm] at T
      have d1 : decide (k < 0) = false := decide_eq_false h1
      have d2 : decide (6 ≤ k) = true := decide_eq_true h2
      clear hm h1 h2
      go_wp2_with fail
      refine T.out.mono ?_
      rintro e w5 ⟨rfl, hb⟩
      have HB5 := Lib.hid (below_then HB4.out HB4.out.size hb)
      clear hb T HB4 HV4 c0 c1 c2 c3
      go_wp2_with fail
      refine (awake_calls _).mono ?_
      rintro e wz ⟨rfl, hb⟩
      have HBZ := Lib.hid (below_then HB5.out HB5.out.size hb)
      clear hb
      go_wp2_with fail
      go_ret
      exact ⟨rfl, HBZ.out⟩
theorem counts_calls (x : V) (hs : Sz x) (A : Option Addr) (c : Nat) (k : Int) (w : World) (hl : x.f3.length ≤ c) (hc : kV.C w A x.f3.length x.f3) :
    Calls Try.prog 4 #[.agg (aggV x A c), .int .i64 k] w fun e w' => e = .returned (.bool true) ∧ Below w.heap.size w w' :=
  counts_core x A c k w hl hc (mayN 16 x) (countO x) (fun k => cN k 16 x) (sN 16 x) (pre x) (fun w h => light_calls x hs A c w h hl) (fun k w h => count_calls x hs A c k w hl h) (fun k => by unfold countO; rfl) (fun w h => rmay_calls x hs A c w h hl) (fun hm k w h => rcount_calls x hs hm A c k w hl h) (fun hm w h => rsize_calls x hs hm A c w hl h) (by rw [pre]) (fun i => pre_s x i i rfl) (fun hm => pre_all hm)
end Go.Proofs.Ytcilojakgnjjmaa.LmC
/- The document's Take. -/
set_option linter.unusedSimpArgs false
set_option linter.unusedVariables false
namespace Go.Proofs.Ytcilojakgnjjmaa.MeY
open Go Go.RowKit Go.Proofs.YtcilojakgnjjmaaW.PrintWords Go.Proofs.YtcilojakgnjjmaaW.PrintLast Go.Proofs.YtcilojakgnjjmaaW.PrintMore Mem PAll MeP MeM MeN MeA MeT MeS MeX MeC MeV MeK MeQ MeR
set_option maxHeartbeats 4000000 in
theorem rtake_bad (x : V) (hs : Sz x) (A : Option Addr) (c : Nat) (PA : Option Addr) (pc : Nat) (p : List Int) (k : Int) (w : World) (hl : x.f3.length ≤ c) (hc : kV.C w A x.f3.length x.f3) (hb : ¬ (mayN 16 x = true ∧ 0 ≤ k ∧ k < 6)) :
    Calls Try.prog 11 #[.agg (aggV x A c), .slice PA p.length pc, .int .i64 k] w fun e w' => Gives (takeO x p k) w w' e := by
  have HT : Hid (takeO x p k = (z24, 1)) := Lib.hid (if_neg hb)
  have HB0 : Hid (Below w.heap.size w ((w.alloc (.cells (aggV x A c) 24)).alloc (.cells VZ 24))) := Lib.hid (below_alloc (below_alloc (Below.refl _ _) _) _)
  have HV0 := Lib.hid (blk_alloc (blk_new w (.cells (aggV x A c) 24)) (.cells VZ 24))
  have HZ0 : Hid (((w.alloc (.cells (aggV x A c) 24)).alloc (.cells VZ 24)).heap[w.heap.size + 1]? = some (.cells VZ 24 (0, 0))) := Lib.hid (by have := blk_new (w.alloc (.cells (aggV x A c) 24)) (.cells VZ 24); rwa [show (w.alloc (.cells (aggV x A c) 24)).heap.size = w.heap.size + 1 by simp only [World.alloc, Array.size_push]] at this)
  have c0 := blk_cell HV0.out 0
  have c1 := blk_cell HV0.out 1
  have c2 := blk_cell HV0.out 2
  have c3 := blk_cell HV0.out 3
  have T := Lib.hid (rmay_calls x hs A c _ (Kd.C_below hc HB0.out) hl)
  have hcs : mayN 16 x = false ∨ (mayN 16 x = true ∧ k < 0) ∨ (mayN 16 x = true ∧ ¬ k < 0 ∧ 6 ≤ k) := by
    cases h : mayN 16 x
    · exact .inl rfl
    · by_cases h1 : k < 0
      · exact .inr (.inl ⟨rfl, h1⟩)
      · by_cases h2 : k < 6
        · exact absurd ⟨h, by omega, h2⟩ hb
        · exact .inr (.inr ⟨rfl, h1, by omega⟩)
  clear hc hl hb hs
  rcases hcs with hm | ⟨hm, h1⟩ | ⟨hm, h1, h2⟩
  · rw [hm] at T
    clear hm
    go_enter Try.func11, Try.ntmps11
    go_wp2_with fail
    refine T.out.mono ?_
    rintro e w2 ⟨rfl, hb⟩
    have HZ := Lib.hid (blk_below HZ0.out hb)
    have HB2 := Lib.hid (below_then HB0.out HB0.out.size hb)
    clear hb T c0 c1 c2 c3 HV0 HZ0 HB0
    go_wp2_with ((refine gate_ (.store 24 (.tmp 6) (.tmp 20)) rfl ?_; go_must (refine Stb.store_list rfl rfl 24 (.tmp 6) (.tmp 20) rfl (cur' := #[.int .i64 0, .int .i64 0, .string ⟨#[]⟩, .slice none 0 0]) [.int .i64 0, .int .i64 0, .string ⟨#[]⟩, .slice none 0 0] (by exact HZ.out) (by rfl) (by rfl) (by rfl) (by kernel_rfl) (Nat.le_of_ble_eq_true rfl) (by rfl) (by rfl) ?_; intro wf hz_ hg_ hs_; have HF := Lib.hid hz_; have HG := Lib.hid hg_; have HS := Lib.hid hs_; have HBF := Lib.hid (Stb.below_grown1 HB2.out hg_ (Nat.le_add_right _ 1) HB2.out.size); clear hz_ hg_ hs_)))
    refine bodyPost_ret (results_ct rfl _ _ (w.heap.size + 1) 24 #[.int .i64 0, .int .i64 0, .string ⟨#[]⟩, .slice none 0 0] (0, 0) _ rfl HF.out Try.underlying24 rfl (by kernel_rfl)) rfl ?_
    exact gives_zero HT.out rfl HBF.out
  · rw [hm] at T
    have d1 : decide (k < 0) = true := decide_eq_true h1
    clear h1
    clear hm
    go_enter Try.func11, Try.ntmps11
    go_wp2_with fail
    refine T.out.mono ?_
    rintro e w2 ⟨rfl, hb⟩
    have HZ := Lib.hid (blk_below HZ0.out hb)
    have HB2 := Lib.hid (below_then HB0.out HB0.out.size hb)
    clear hb T c0 c1 c2 c3 HV0 HZ0 HB0
    go_wp2_with ((refine gate_ (.store 24 (.tmp 6) (.tmp 20)) rfl ?_; go_must (refine Stb.store_list rfl rfl 24 (.tmp 6) (.tmp 20) rfl (cur' := #[.int .i64 0, .int .i64 0, .string ⟨#[]⟩, .slice none 0 0]) [.int .i64 0, .int .i64 0, .string ⟨#[]⟩, .slice none 0 0] (by exact HZ.out) (by rfl) (by rfl) (by rfl) (by kernel_rfl) (Nat.le_of_ble_eq_true rfl) (by rfl) (by rfl) ?_; intro wf hz_ hg_ hs_; have HF := Lib.hid hz_; have HG := Lib.hid hg_; have HS := Lib.hid hs_; have HBF := Lib.hid (Stb.below_grown1 HB2.out hg_ (Nat.le_add_right _ 1) HB2.out.size); clear hz_ hg_ hs_)))
    refine bodyPost_ret (results_ct rfl _ _ (w.heap.size + 1) 24 #[.int .i64 0, .int .i64 0, .string ⟨#[]⟩, .slice none 0 0] (0, 0) _ rfl HF.out Try.underlying24 rfl (by kernel_rfl)) rfl ?_
    exact gives_zero HT.out rfl HBF.out
  · rw [hm] at T
    have d1 : decide (k < 0) = false := decide_eq_false h1
    have d2 : decide (6 ≤ k) = true := decide_eq_true h2
    clear h1 h2
    clear hm
    go_enter Try.func11, Try.ntmps11
    go_wp2_with fail
    refine T.out.mono ?_
    rintro e w2 ⟨rfl, hb⟩
    have HZ := Lib.hid (blk_below HZ0.out hb)
    have HB2 := Lib.hid (below_then HB0.out HB0.out.size hb)
    clear hb T c0 c1 c2 c3 HV0 HZ0 HB0
    go_wp2_with ((refine gate_ (.store 24 (.tmp 6) (.tmp 20)) rfl ?_; go_must (refine Stb.store_list rfl rfl 24 (.tmp 6) (.tmp 20) rfl (cur' := #[.int .i64 0, .int .i64 0, .string ⟨#[]⟩, .slice none 0 0]) [.int .i64 0, .int .i64 0, .string ⟨#[]⟩, .slice none 0 0] (by exact HZ.out) (by rfl) (by rfl) (by rfl) (by kernel_rfl) (Nat.le_of_ble_eq_true rfl) (by rfl) (by rfl) ?_; intro wf hz_ hg_ hs_; have HF := Lib.hid hz_; have HG := Lib.hid hg_; have HS := Lib.hid hs_; have HBF := Lib.hid (Stb.below_grown1 HB2.out hg_ (Nat.le_add_right _ 1) HB2.out.size); clear hz_ hg_ hs_)))
    refine bodyPost_ret (results_ct rfl _ _ (w.heap.size + 1) 24 #[.int .i64 0, .int .i64 0, .string ⟨#[]⟩, .slice none 0 0] (0, 0) _ rfl HF.out Try.underlying24 rfl (by kernel_rfl)) rfl ?_
    exact gives_zero HT.out rfl HBF.out
set_option maxHeartbeats 8000000 in
theorem rtake_ok (x : V) (hs : Sz x) (A : Option Addr) (c : Nat) (PA : Option Addr) (pc : Nat) (p : List Int) (k : Int) (w : World) (hl : x.f3.length ≤ c) (hc : kV.C w A x.f3.length x.f3) (hp : IK.C w PA p.length p) (hb : mayN 16 x = true ∧ 0 ≤ k ∧ k < 6) :
    Calls Try.prog 11 #[.agg (aggV x A c), .slice PA p.length pc, .int .i64 k] w fun e w' => Gives (takeO x p k) w w' e := by
  have HT : Hid (takeO x p k = (match walkP x p with | none => (z24, 4) | some y => if y.f0 = k then (y, 0) else (z24, 5))) := Lib.hid (if_pos hb)
  have HB0 : Hid (Below w.heap.size w ((w.alloc (.cells (aggV x A c) 24)).alloc (.cells VZ 24))) := Lib.hid (below_alloc (below_alloc (Below.refl _ _) _) _)
  have HV0 := Lib.hid (blk_alloc (blk_new w (.cells (aggV x A c) 24)) (.cells VZ 24))
  have HZ0 : Hid (((w.alloc (.cells (aggV x A c) 24)).alloc (.cells VZ 24)).heap[w.heap.size + 1]? = some (.cells VZ 24 (0, 0))) := Lib.hid (by have := blk_new (w.alloc (.cells (aggV x A c) 24)) (.cells VZ 24); rwa [show (w.alloc (.cells (aggV x A c) 24)).heap.size = w.heap.size + 1 by simp only [World.alloc, Array.size_push]] at this)
  have c0 := blk_cell HV0.out 0
  have c1 := blk_cell HV0.out 1
  have c2 := blk_cell HV0.out 2
  have c3 := blk_cell HV0.out 3
  have T := Lib.hid (rmay_calls x hs A c _ (Kd.C_below hc HB0.out) hl)
  have d1 : decide (k < 0) = false := decide_eq_false (by omega)
  have d2 : decide (6 ≤ k) = false := decide_eq_false (by omega)
  have HC0 := Lib.hid (Kd.C_below hc HB0.out)
  have HP0 := Lib.hid (Kd.C_below hp HB0.out)
  have HPL : Hid (p.length ≤ 9223372036854775807) := Lib.hid hp.2.1
  have hpl : p.length ≤ 9223372036854775807 := hp.2.1
  have HL := Lib.hid hl
  have HCW := Lib.hid hc
  have HPW := Lib.hid hp
  rw [hb.1] at T
  clear hc hl hb hp hs
  go_enter Try.func11, Try.ntmps11
  go_wp2_with fail
  refine T.out.mono ?_
  rintro e w2 ⟨rfl, hb⟩
  have HV2 := Lib.hid (blk_below HV0.out hb)
  have HZ2 := Lib.hid (blk_below HZ0.out hb)
  have HB2 := Lib.hid (below_then HB0.out HB0.out.size hb)
  clear hb T c0 c1 c2 c3 HV0 HZ0 HB0 HC0 HP0
  go_wp2_with fail
  go_loopw [8] (fun i' wr => ∃ (i : Nat) (y : V) (A1 : Option Addr) (c1 : Nat), i' = .int .i64 i ∧ Hid (i ≤ p.length) ∧ Hid (walkP x p = walkP y (p.drop i)) ∧ Hid (y.f3.length ≤ c1) ∧ Hid (kV.C w A1 y.f3.length y.f3) ∧ Hid (wr.heap[w.heap.size]? = some (.cells (aggV y A1 c1) 24 (0, 0))) ∧ Hid (wr.heap[w.heap.size + 1]? = some (.cells VZ 24 (0, 0))) ∧ Hid (Below w.heap.size w wr)) (fun i' _ => (p.length - intOf i').toNat)
  case atStart => exact ⟨0, x, A, c, rfl, Lib.hid (Nat.zero_le _), Lib.hid (by rw [List.drop_zero]), HL, HCW, HV2, HZ2, HB2⟩
  case round =>
    obtain ⟨i, x1, A1, n1, rfl, HI, HW, HL1, HC1, HVR, HZR, HBR⟩ := hrel
    have c0 := blk_cell HVR.out 0
    have c1 := blk_cell HVR.out 1
    have c2 := blk_cell HVR.out 2
    have c3 := blk_cell HVR.out 3
    by_cases h : i < p.length
    · have hlt : decide (i < p.length) = true := decide_eq_true h
      have hlt2 : decide ((i : Int) < (p.length : Int)) = true := decide_eq_true (by omega)
      have i0 : (0 : Int) ≤ i := by omega
      have i1 : (i : Int) < p.length := by omega
      obtain ⟨ad, q, hq, hA, cq⟩ := at_I (Kd.C_below HPW.out HBR.out) i h
      subst hA
      have HLT := Lib.hid h
      have HQ : Hid (p.drop i = q :: p.drop (i + 1)) := Lib.hid (by
        rw [List.drop_eq_getElem_cons h]
        have := List.getElem?_eq_getElem h
        rw [this] at hq
        rw [Option.some.inj hq])
      clear h hq
      by_cases h5 : x1.f0 = 5
      · have n5 : decide (x1.f0 = 5) = true := decide_eq_true h5
        have n6 : (x1.f0 == 5) = true := beq_iff_eq.2 h5
        have n7 : (x1.f0 != 5) = false := by rw [bne, n6]; rfl
        by_cases hq0 : q < 0
        · have m0 : decide (q < 0) = true := decide_eq_true hq0
          have HNO : Hid (takeO x p k = (z24, 4)) := Lib.hid (by
            rw [HT.out, HW.out, HQ.out, walkP_cons, if_neg (fun h => by have := h.2.1; omega)])
          clear hq0 h5
          go_wp2_with fail
          go_quiet (fail)
          have HZp := Lib.hid (blk_below HZR.out (pw_below_drewN (Below.refl _ _) nq))
          have HBp := Lib.hid (pw_below_drewN HBR.out nq)
          obtain ⟨wp, hwp⟩ : ∃ wp, wp = wr.drewN nq := ⟨_, rfl⟩
          rw [← hwp] at HZp HBp ⊢
          clear c0 c1 c2 c3 cq HVR HZR HBR hwp
          go_wp2_with ((refine gate_ (.store 24 (.tmp 6) (.tmp 47)) rfl ?_; go_must (refine Stb.store_list rfl rfl 24 (.tmp 6) (.tmp 47) rfl (cur' := #[.int .i64 0, .int .i64 0, .string ⟨#[]⟩, .slice none 0 0]) [.int .i64 0, .int .i64 0, .string ⟨#[]⟩, .slice none 0 0] (by exact HZp.out) (by rfl) (by rfl) (by rfl) (by kernel_rfl) (Nat.le_of_ble_eq_true rfl) (by rfl) (by rfl) ?_; intro wf hz_ hg_ hs_; have HF := Lib.hid hz_; have HG := Lib.hid hg_; have HS := Lib.hid hs_; have HBF := Lib.hid (Stb.below_grown1 HBp.out hg_ (Nat.le_add_right _ 1) HBp.out.size); clear hz_ hg_ hs_)))
          refine bodyPost_ret (results_ct rfl _ _ (w.heap.size + 1) 24 #[.int .i64 0, .int .i64 0, .string ⟨#[]⟩, .slice none 0 0] (0, 0) _ rfl HF.out Try.underlying24 rfl (by kernel_rfl)) rfl ?_
          exact gives_zero HNO.out rfl HBF.out
        · have m0 : decide (q < 0) = false := decide_eq_false hq0
          by_cases hq1 : q < (x1.f3.length : Int)
          · have m1 : decide ((x1.f3.length : Int) ≤ q) = false := decide_eq_false (by omega)
            obtain ⟨j, hj⟩ := Int.eq_ofNat_of_zero_le (show 0 ≤ q by omega)
            subst hj
            have hjl : j < x1.f3.length := by omega
            have q0 : (0 : Int) ≤ j := by omega
            have q1 : (j : Int) < x1.f3.length := by omega
            have HNX : Hid (∀ y, x1.f3[j]? = some y → walkP x p = walkP y (p.drop (i + 1))) := Lib.hid (fun y hy => by
              rw [HW.out, HQ.out, walkP_cons, if_pos ⟨h5, q0, q1⟩, Int.toNat_natCast, hy]
              rfl)
            have HJ := Lib.hid hjl
            clear hq0 hq1 hjl h5
            go_wp2_with fail
            go_quiet (fail)
            have HVp := Lib.hid (blk_below HVR.out (pw_below_drewN (Below.refl _ _) nq))
            have HZp := Lib.hid (blk_below HZR.out (pw_below_drewN (Below.refl _ _) nq))
            have HBp := Lib.hid (pw_below_drewN HBR.out nq)
            obtain ⟨wp, hwp⟩ : ∃ wp, wp = wr.drewN nq := ⟨_, rfl⟩
            rw [← hwp] at HVp HZp HBp ⊢
            clear c0 c1 c2 c3 cq HVR HZR HBR hwp
            obtain ⟨ad2, q2, hq2, hA2, cq⟩ := at_I (Kd.C_below HPW.out HBp.out) i HLT.out
            obtain rfl : ad = ad2 := Option.some.inj hA2
            obtain rfl : (j : Int) = q2 := by
              have h1 := HQ.out
              rw [List.drop_eq_getElem_cons HLT.out] at h1
              have h2 := List.getElem?_eq_getElem HLT.out
              rw [h2] at hq2
              rw [← Option.some.inj hq2, (List.cons.inj h1).1]
            obtain ⟨ad1, y, A3, c3n, hy, hA1, a0, a1, a2, a3, a4, _⟩ := at_V (Kd.C_below HC1.out HBp.out) j HJ.out
            have HC3 : Hid (kV.C w A3 y.f3.length y.f3) := Lib.hid (by
              obtain ⟨ad12, y2, A32, c32, hy2, hA12, b0, b1, b2, b3, b4, b5⟩ := at_V HC1.out j HJ.out
              obtain rfl : y = y2 := by rw [hy] at hy2; exact Option.some.inj hy2
              obtain rfl : ad1 = ad12 := Option.some.inj (hA1.symm.trans hA12)
              have hlt := block_lt_of_cell b3
              have h := (HBp.out.cell hlt).trans b3
              rw [a3] at h
              injection h with h
              injection h with h _ _
              rw [h]
              exact b5)
            have HWY := Lib.hid (HNX.out y hy)
            have HY4 : Hid (y.f3.length ≤ c3n) := Lib.hid a4
            have c3 := blk_cell HVp.out 3
            subst hA1
            go_wp2_with fail
            have HVq := Lib.hid (blk_below HVp.out (below_drew (Below.refl _ _)))
            have HZq := Lib.hid (blk_below HZp.out (below_drew (Below.refl _ _)))
            have HBq := Lib.hid (below_drew HBp.out)
            refine start_ (n := 9) (S := fun w' => ∀ a, w'.cell? a = wp.cell? a) (ds := [8]) #[false, false, false, false, false, false, false, false, false] (by kernel_rfl) rfl rfl (fun _ => rfl) (fun hHeld => ?_)
            refine pure_ (i := 0) (N := some 48) (v := ?_) (a' := ?_) #[true, false, false, false, false, false, false, false, false] rfl rfl (by kernel_rfl) (fun _ _ _ h => h) (Or.inl ⟨by rfl, ?_⟩) ?_ ?_
            rotate_left
            · intro w'
              go_simp
              with_reducible rfl
            rotate_left
            · simp only [Act.put, List.setIfInBounds_toArray, List.set_cons_zero, List.set_cons_succ, i64_w, i32_w]
              rfl
            refine take_ (i := 1) (N := some 49) (v := ?_) (a' := ?_) #[true, true, false, false, false, false, false, false, false] rfl rfl (by kernel_rfl) (fun _ _ _ h => h) (Or.inl ⟨by rfl, ?_⟩) hHeld ?_ ?_
            rotate_left
            · rintro w' hS
              have c3' := (hS _).trans c3
              go_simp
              with_reducible rfl
            rotate_left
            · simp only [Act.put, List.setIfInBounds_toArray, List.set_cons_zero, List.set_cons_succ, i64_w, i32_w]
              rfl
            refine pure_ (i := 2) (N := some 50) (v := ?_) (a' := ?_) #[true, true, true, false, false, false, false, false, false] rfl rfl (by kernel_rfl) (fun _ _ _ h => h) (Or.inl ⟨by rfl, ?_⟩) ?_ ?_
            rotate_left
            · intro w'
              go_simp
              with_reducible rfl
            rotate_left
            · simp only [Act.put, List.setIfInBounds_toArray, List.set_cons_zero, List.set_cons_succ, i64_w, i32_w]
              rfl
            refine pure_ (i := 3) (N := some 51) (v := ?_) (a' := ?_) #[true, true, true, true, false, false, false, false, false] rfl rfl (by kernel_rfl) (fun _ _ _ h => h) (Or.inl ⟨by rfl, ?_⟩) ?_ ?_
            rotate_left
            · intro w'
              go_simp
              with_reducible rfl
            rotate_left
            · simp only [Act.put, List.setIfInBounds_toArray, List.set_cons_zero, List.set_cons_succ, i64_w, i32_w]
              rfl
            refine pure_ (i := 4) (N := some 52) (v := ?_) (a' := ?_) #[true, true, true, true, true, false, false, false, false] rfl rfl (by kernel_rfl) (fun _ _ _ h => h) (Or.inl ⟨by rfl, ?_⟩) ?_ ?_
            rotate_left
            · intro w'
              go_simp
              with_reducible rfl
            rotate_left
            · simp only [Act.put, List.setIfInBounds_toArray, List.set_cons_zero, List.set_cons_succ, i64_w, i32_w]
              rfl
            refine take_ (i := 5) (N := some 53) (v := ?_) (a' := ?_) #[true, true, true, true, true, true, false, false, false] rfl rfl (by kernel_rfl) (fun _ _ _ h => h) (Or.inl ⟨by rfl, ?_⟩) hHeld ?_ ?_
            rotate_left
            · rintro w' hS
              have cq' := (hS _).trans cq
              go_simp
              with_reducible rfl
            rotate_left
            · simp only [Act.put, List.setIfInBounds_toArray, List.set_cons_zero, List.set_cons_succ, i64_w, i32_w]
              rfl
            refine pure_ (i := 6) (N := some 54) (v := ?_) (a' := ?_) #[true, true, true, true, true, true, true, false, false] rfl rfl (by kernel_rfl) (fun _ _ _ h => h) (Or.inl ⟨by rfl, ?_⟩) ?_ ?_
            rotate_left
            · intro w'
              go_simp
              with_reducible rfl
            rotate_left
            · simp only [Act.put, List.setIfInBounds_toArray, List.set_cons_zero, List.set_cons_succ, i64_w, i32_w]
              rfl
            refine take_ (i := 7) (N := some 55) (v := ?_) (a' := ?_) #[true, true, true, true, true, true, true, true, false] rfl rfl (by kernel_rfl) (fun _ _ _ h => h) (Or.inl ⟨by rfl, ?_⟩) hHeld ?_ ?_
            rotate_left
            · rintro w' hS
              have a0' := (hS _).trans a0
              have a1' := (hS _).trans a1
              have a2' := (hS _).trans a2
              have a3' := (hS _).trans a3
              go_simp
              with_reducible rfl
            rotate_left
            · simp only [Act.put, List.setIfInBounds_toArray, List.set_cons_zero, List.set_cons_succ, i64_w, i32_w]
              rfl
            refine last_ (i := 8) (N := none) #[true, true, true, true, true, true, true, true, true] rfl rfl (by kernel_rfl) (by decide) (fun K hK => ?_)
            refine Stb.store_step (by rfl) rfl 24 (.tmp 3) (.tmp 55) (by rfl) (cur' := #[.int .i64 y.f0, .int .i64 y.f1, .string y.f2, .slice A3 y.f3.length c3n]) [.int .i64 y.f0, .int .i64 y.f1, .string y.f2, .slice A3 y.f3.length c3n] HVq.out (by rfl) (by rfl) (by rfl) (by kernel_rfl) (Nat.le_of_ble_eq_true rfl) (by rfl) (by rfl) ?_
            intro wf hz hg hs
            have HF := Lib.hid hz
            have HZ3 := Lib.hid (blk_grown HZq.out hg (by simp))
            have HB3 := Lib.hid (Stb.below_grown1 HBq.out hg (Nat.le_refl _) HBq.out.size)
            clear hz hg hs
            refine hK.out _ _ ?_
            clear hK K
            refine norm_ (a' := ?_) ?_ ?_
            rotate_left
            · show Act.put _ (none) _ = _
              simp only [Act.put, List.setIfInBounds_toArray, List.set_cons_zero, List.set_cons_succ, i64_w, i32_w]
              rfl
            refine done_ (by kernel_rfl) ?_
            go_wp2_with fail
            go_roundw
            case rel =>
              refine ⟨i + 1, y, A3, c3n, by go_num, Lib.hid (by have := HLT.out; omega), HWY, HY4, HC3, HF, HZ3, HB3⟩
            case measure => have := HLT.out; simp only [intOf]; omega
          · have m1 : decide ((x1.f3.length : Int) ≤ q) = true := decide_eq_true (by omega)
            have HNO : Hid (takeO x p k = (z24, 4)) := Lib.hid (by
              rw [HT.out, HW.out, HQ.out, walkP_cons, if_neg (fun h => by have := h.2.2; omega)])
            clear hq0 h5 hq1
            go_wp2_with fail
            go_quiet (fail)
            have HZp := Lib.hid (blk_below HZR.out (pw_below_drewN (Below.refl _ _) nq))
            have HBp := Lib.hid (pw_below_drewN HBR.out nq)
            obtain ⟨wp, hwp⟩ : ∃ wp, wp = wr.drewN nq := ⟨_, rfl⟩
            rw [← hwp] at HZp HBp ⊢
            clear c0 c1 c2 c3 cq HVR HZR HBR hwp
            go_wp2_with ((refine gate_ (.store 24 (.tmp 6) (.tmp 47)) rfl ?_; go_must (refine Stb.store_list rfl rfl 24 (.tmp 6) (.tmp 47) rfl (cur' := #[.int .i64 0, .int .i64 0, .string ⟨#[]⟩, .slice none 0 0]) [.int .i64 0, .int .i64 0, .string ⟨#[]⟩, .slice none 0 0] (by exact HZp.out) (by rfl) (by rfl) (by rfl) (by kernel_rfl) (Nat.le_of_ble_eq_true rfl) (by rfl) (by rfl) ?_; intro wf hz_ hg_ hs_; have HF := Lib.hid hz_; have HG := Lib.hid hg_; have HS := Lib.hid hs_; have HBF := Lib.hid (Stb.below_grown1 HBp.out hg_ (Nat.le_add_right _ 1) HBp.out.size); clear hz_ hg_ hs_)))
            refine bodyPost_ret (results_ct rfl _ _ (w.heap.size + 1) 24 #[.int .i64 0, .int .i64 0, .string ⟨#[]⟩, .slice none 0 0] (0, 0) _ rfl HF.out Try.underlying24 rfl (by kernel_rfl)) rfl ?_
            exact gives_zero HNO.out rfl HBF.out
      · have n5 : decide (x1.f0 = 5) = false := decide_eq_false h5
        have n6 : (x1.f0 == 5) = false := beq_false_of_ne h5
        have n7 : (x1.f0 != 5) = true := by rw [bne, n6]; rfl
        have HNO : Hid (takeO x p k = (z24, 4)) := Lib.hid (by
          rw [HT.out, HW.out, HQ.out, walkP_cons, if_neg (fun h => h5 h.1)])
        clear h5
        go_wp2_with fail
        go_quiet (fail)
        have HZp := Lib.hid (blk_below HZR.out (pw_below_drewN (Below.refl _ _) nq))
        have HBp := Lib.hid (pw_below_drewN HBR.out nq)
        obtain ⟨wp, hwp⟩ : ∃ wp, wp = wr.drewN nq := ⟨_, rfl⟩
        rw [← hwp] at HZp HBp ⊢
        clear c0 c1 c2 c3 cq HVR HZR HBR hwp
        go_wp2_with ((refine gate_ (.store 24 (.tmp 6) (.tmp 47)) rfl ?_; go_must (refine Stb.store_list rfl rfl 24 (.tmp 6) (.tmp 47) rfl (cur' := #[.int .i64 0, .int .i64 0, .string ⟨#[]⟩, .slice none 0 0]) [.int .i64 0, .int .i64 0, .string ⟨#[]⟩, .slice none 0 0] (by exact HZp.out) (by rfl) (by rfl) (by rfl) (by kernel_rfl) (Nat.le_of_ble_eq_true rfl) (by rfl) (by rfl) ?_; intro wf hz_ hg_ hs_; have HF := Lib.hid hz_; have HG := Lib.hid hg_; have HS := Lib.hid hs_; have HBF := Lib.hid (Stb.below_grown1 HBp.out hg_ (Nat.le_add_right _ 1) HBp.out.size); clear hz_ hg_ hs_)))
        refine bodyPost_ret (results_ct rfl _ _ (w.heap.size + 1) 24 #[.int .i64 0, .int .i64 0, .string ⟨#[]⟩, .slice none 0 0] (0, 0) _ rfl HF.out Try.underlying24 rfl (by kernel_rfl)) rfl ?_
        exact gives_zero HNO.out rfl HBF.out
    · obtain rfl : i = p.length := by have := HI.out; omega
      have hlt : decide (p.length < p.length) = false := decide_eq_false (Nat.lt_irrefl _)
      have hlt2 : decide ((p.length : Int) < (p.length : Int)) = false := decide_eq_false (by omega)
      have HWY : Hid (takeO x p k = if x1.f0 = k then (x1, 0) else (z24, 5)) := Lib.hid (by rw [HT.out, HW.out, List.drop_length]; rfl)
      clear h
      by_cases hk : x1.f0 = k
      · have HYK : Hid (takeO x p k = (x1, 0)) := Lib.hid (HWY.out.trans (if_pos hk))
        subst hk
        go_wp2_with ((refine gate_ (.store 24 (.tmp 6) (.tmp 61)) rfl ?_; go_must (refine Stb.store_list rfl rfl 24 (.tmp 6) (.tmp 61) rfl (cur' := #[.int .i64 x1.f0, .int .i64 x1.f1, .string x1.f2, .slice A1 x1.f3.length n1]) [.int .i64 x1.f0, .int .i64 x1.f1, .string x1.f2, .slice A1 x1.f3.length n1] (by exact HZR.out) (by rfl) (by rfl) (by rfl) (by kernel_rfl) (Nat.le_of_ble_eq_true rfl) (by rfl) (by rfl) ?_; intro wf hz_ hg_ hs_; have HF := Lib.hid hz_; have HG := Lib.hid hg_; have HS := Lib.hid hs_; have HBF := Lib.hid (Stb.below_grown1 HBR.out hg_ (Nat.le_add_right _ 1) HBR.out.size); clear hz_ hg_ hs_)))
        refine bodyPost_ret (results_ct rfl _ _ (w.heap.size + 1) 24 #[.int .i64 x1.f0, .int .i64 x1.f1, .string x1.f2, .slice A1 x1.f3.length n1] (0, 0) _ rfl HF.out Try.underlying24 rfl (by kernel_rfl)) rfl ?_
        exact (show Gives (takeO x p x1.f0) w _ _ from by rw [HYK.out]; exact ⟨HBF.out, A1, n1, rfl, HL1.out, Kd.C_below HC1.out HBF.out⟩)
      · have HYK : Hid (takeO x p k = (z24, 5)) := Lib.hid (HWY.out.trans (if_neg hk))
        have n1 : decide (x1.f0 = k) = false := decide_eq_false hk
        have n2 : (x1.f0 == k) = false := beq_false_of_ne hk
        have n3 : (x1.f0 != k) = true := by rw [bne, n2]; rfl
        clear hk
        go_wp2_with ((refine gate_ (.store 24 (.tmp 6) (.tmp 60)) rfl ?_; go_must (refine Stb.store_list rfl rfl 24 (.tmp 6) (.tmp 60) rfl (cur' := #[.int .i64 0, .int .i64 0, .string ⟨#[]⟩, .slice none 0 0]) [.int .i64 0, .int .i64 0, .string ⟨#[]⟩, .slice none 0 0] (by exact HZR.out) (by rfl) (by rfl) (by rfl) (by kernel_rfl) (Nat.le_of_ble_eq_true rfl) (by rfl) (by rfl) ?_; intro wf hz_ hg_ hs_; have HF := Lib.hid hz_; have HG := Lib.hid hg_; have HS := Lib.hid hs_; have HBF := Lib.hid (Stb.below_grown1 HBR.out hg_ (Nat.le_add_right _ 1) HBR.out.size); clear hz_ hg_ hs_)))
        refine bodyPost_ret (results_ct rfl _ _ (w.heap.size + 1) 24 #[.int .i64 0, .int .i64 0, .string ⟨#[]⟩, .slice none 0 0] (0, 0) _ rfl HF.out Try.underlying24 rfl (by kernel_rfl)) rfl ?_
        exact gives_zero HYK.out rfl HBF.out
theorem rtake_calls (x : V) (hs : Sz x) (A : Option Addr) (c : Nat) (PA : Option Addr) (pc : Nat) (p : List Int) (k : Int) (w : World) (hl : x.f3.length ≤ c) (hc : kV.C w A x.f3.length x.f3) (hp : IK.C w PA p.length p) :
    Calls Try.prog 11 #[.agg (aggV x A c), .slice PA p.length pc, .int .i64 k] w fun e w' => Gives (takeO x p k) w w' e := by
  by_cases hb : mayN 16 x = true ∧ 0 ≤ k ∧ k < 6
  · exact rtake_ok x hs A c PA pc p k w hl hc hp hb
  · exact rtake_bad x hs A c PA pc p k w hl hc hb
end Go.Proofs.Ytcilojakgnjjmaa.MeY
/- MessageTakes. -/
set_option linter.unusedSimpArgs false
set_option linter.unusedVariables false
namespace Go.Proofs.Ytcilojakgnjjmaa.LmT
open Go Go.RowKit Go.Proofs.YtcilojakgnjjmaaW.PrintWords Go.Proofs.YtcilojakgnjjmaaW.PrintLast Go.Proofs.YtcilojakgnjjmaaW.PrintMore Mem PAll MeP MeM MeN MeA MeT MeS MeX MeC MeV MeK MeW MeQ MeR MeY
theorem infoI : (Try.prog.info? 3).map (fun i => (i.zero, i.size, i.bytes)) = some (some (.int .i64 0), IK.sz, 8) := by kernel_rfl
set_option maxHeartbeats 16000000 in
set_option maxRecDepth 100000 in
theorem takes_calls (x : V) (hs : Sz x) (A : Option Addr) (c : Nat) (PA : Option Addr) (pc : Nat) (p : List Int) (k : Int) (w : World) (hl : x.f3.length ≤ c) (hc : kV.C w A x.f3.length x.f3) (hp : IK.C w PA p.length p) (hpl : p.length * 8 ≤ 140737488355328) :
    Calls Try.prog 3 #[.agg (aggV x A c), .slice PA p.length pc, .int .i64 k] w fun e w' => e = .returned (.bool true) ∧ Below w.heap.size w w' := by
  have HB0 := Lib.hid (below_alloc (Below.refl w.heap.size w) (.cells (aggV x A c) 24))
  have HV0 := Lib.hid (blk_new w (.cells (aggV x A c) 24))
  have c0 := blk_cell HV0.out 0
  have c1 := blk_cell HV0.out 1
  have c2 := blk_cell HV0.out 2
  have c3 := blk_cell HV0.out 3
  obtain ⟨lt, hlt⟩ := light_calls x hs A c _ (Kd.C_below hc HB0.out) hl
  have TL := Lib.hid hlt
  have HS := Lib.hid hs
  have HC := Lib.hid hc
  have HP := Lib.hid hp
  have HL := Lib.hid hl
  have HPL := Lib.hid hpl
  clear hlt hs hc hp hl hpl
  go_enter Try.func3, Try.ntmps3
  go_wp2_with fail
  refine TL.out.mono ?_
  rintro e w3 ⟨rfl, hb⟩
  have HB3 := Lib.hid (below_then HB0.out HB0.out.size hb)
  have HV3 := Lib.hid (blk_below HV0.out hb)
  clear hb TL HB0 HV0 c0 c1 c2 c3
  have c0 := blk_cell HV3.out 0
  have c1 := blk_cell HV3.out 1
  have c2 := blk_cell HV3.out 2
  have c3 := blk_cell HV3.out 3
  cases lt
  · go_wp2_with fail
    refine (awake_calls _).mono ?_
    rintro e wz ⟨rfl, hb⟩
    have HBZ := Lib.hid (below_then HB3.out HB3.out.size hb)
    clear hb
    go_wp2_with fail
    go_ret
    exact ⟨rfl, HBZ.out⟩
  · go_wp2_with fail
    obtain ⟨yy, hyy⟩ : ∃ yy, yy = takeO x p k := ⟨_, rfl⟩
    have HY := Lib.hid hyy
    clear hyy
    obtain ⟨y, er⟩ := yy
    refine start_ (n := 12) (S := fun w' => Below w3.heap.size w3 w') (ds := [11]) #[false, false, false, false, false, false, false, false, false, false, false, false] (by kernel_rfl) rfl rfl (below_drew (Below.refl _ _)) (fun hHeld => ?_)
    have HB4 := Lib.hid (below_drew (Below.refl w3.heap.size w3))
    generalize w3.drew = wd at HB4 hHeld ⊢
    refine take_ (i := 0) (N := some 16) (v := ?_) (a' := ?_) #[true, false, false, false, false, false, false, false, false, false, false, false] rfl rfl (by kernel_rfl) (fun _ _ _ h => h) (Or.inl ⟨by rfl, ?_⟩) hHeld ?_ ?_
    rotate_left
    · rintro w' hS
      have x0 := pw_cell_below hS c0
      have x1 := pw_cell_below hS c1
      have x2 := pw_cell_below hS c2
      have x3 := pw_cell_below hS c3
      go_simp
      with_reducible rfl
    rotate_left
    · simp only [Act.put, List.setIfInBounds_toArray, List.set_cons_zero, List.set_cons_succ, i64_w, i32_w]
      rfl
    refine pure_ (i := 2) (N := some 18) (v := ?_) (a' := ?_) #[true, false, true, false, false, false, false, false, false, false, false, false] rfl rfl (by kernel_rfl) (fun _ _ _ h => h) (Or.inl ⟨by rfl, ?_⟩) ?_ ?_
    rotate_left
    · intro w'
      go_simp
      with_reducible rfl
    rotate_left
    · simp only [Act.put, List.setIfInBounds_toArray, List.set_cons_zero, List.set_cons_succ, i64_w, i32_w]
      rfl
    refine pure_ (i := 4) (N := some 20) (v := ?_) (a' := ?_) #[true, false, true, false, true, false, false, false, false, false, false, false] rfl rfl (by kernel_rfl) (fun _ _ _ h => h) (Or.inl ⟨by rfl, ?_⟩) ?_ ?_
    rotate_left
    · intro w'
      go_simp
      with_reducible rfl
    rotate_left
    · simp only [Act.put, List.setIfInBounds_toArray, List.set_cons_zero, List.set_cons_succ, i64_w, i32_w]
      rfl
    refine join_ (σ := (Nat × Value) × (Value × Value)) 0 #[true, true, true, true, true, true, true, true, true, true, true, true] (fun s => [(7, .pointer (some ⟨s.1.1, 0, none⟩)), (8, .int .i64 er), (15, .tuple #[.agg #[.int .i64 y.f0, .int .i64 y.f1, .string y.f2, s.1.2], .int .i64 er]), (17, s.2.1), (19, s.2.2), (21, .tuple #[.agg #[.int .i64 y.f0, .int .i64 y.f1, .string y.f2, s.1.2], .int .i64 er]), (22, .agg #[.int .i64 y.f0, .int .i64 y.f1, .string y.f2, s.1.2]), (23, .int .i64 er)]) (fun s w' => Hid (w'.heap[s.1.1]? = some (.cells #[.int .i64 y.f0, .int .i64 y.f1, .string y.f2, s.1.2] 24 (0, 0))) ∧ Hid (kV.R 24 w' w3.heap.size (fun _ => True) s.1.2 y.f3) ∧ Hid (Below w3.heap.size w3 w')) ?_ (fun hfin => ?_)
    · rintro ⟨⟨g7, v5⟩, ⟨v17, v19⟩⟩ w5 ⟨H7, HR5, HB5⟩
      dsimp only at H7 HR5
      refine norm_ (a' := ?_) ?_ ?_
      rotate_left
      · show putAll _ _ = _
        simp only [putAll, Act.put, List.setIfInBounds_toArray, List.set_cons_zero, List.set_cons_succ]
        rfl
      refine done_ (by kernel_rfl) ?_
      obtain ⟨A5, n5, rfl, hl5, hc5⟩ := Kd.R_reads HR5.out
      have HL5 := Lib.hid hl5
      have HC5 := Lib.hid hc5
      have HBB := Lib.hid (below_then HB3.out HB3.out.size HB5.out)
      have HV5 := Lib.hid (blk_below HV3.out HB5.out)
      clear c0 c1 c2 c3 HV3 HB3 HB5 HR5 hl5 hc5
      have c0 := blk_cell HV5.out 0
      have c1 := blk_cell HV5.out 1
      have c2 := blk_cell HV5.out 2
      have c3 := blk_cell HV5.out 3
      have TR := Lib.hid (rtake_calls x HS.out A c PA pc p k w5 HL.out (Kd.C_below HC.out HBB.out) (Kd.C_below HP.out HBB.out))
      rw [← HY.out] at TR
      go_wp2_with fail
      refine TR.out.mono ?_
      rintro e w6 ⟨hb, A6, n6, he, hl6, hc6⟩
      replace he : e = .returned (.tuple #[.agg #[.int .i64 y.f0, .int .i64 y.f1, .string y.f2, .slice A6 y.f3.length n6], .int .i64 er]) := he
      subst he
      have HB7 := Lib.hid (below_alloc (below_then HBB.out HBB.out.size hb) (.cells #[.int .i64 y.f0, .int .i64 y.f1, .string y.f2, .slice A6 y.f3.length n6] 24))
      have H77 := Lib.hid (blk_alloc (blk_below H7.out hb) (.cells #[.int .i64 y.f0, .int .i64 y.f1, .string y.f2, .slice A6 y.f3.length n6] 24))
      have H97 := Lib.hid (blk_new w6 (.cells #[.int .i64 y.f0, .int .i64 y.f1, .string y.f2, .slice A6 y.f3.length n6] 24))
      have HC57 := Lib.hid (Kd.C_alloc (Kd.C_below HC5.out hb) (.cells #[.int .i64 y.f0, .int .i64 y.f1, .string y.f2, .slice A6 y.f3.length n6] 24))
      have HC67 := Lib.hid (Kd.C_alloc hc6 (.cells #[.int .i64 y.f0, .int .i64 y.f1, .string y.f2, .slice A6 y.f3.length n6] 24))
      have HL6 := Lib.hid hl6
      clear hb TR hc6 hl6 c0 c1 c2 c3 HV5 H7 HC5 HBB
      have c0 := blk_cell H77.out 0
      have c1 := blk_cell H77.out 1
      have c2 := blk_cell H77.out 2
      have c3 := blk_cell H77.out 3
      have d0 := blk_cell H97.out 0
      have d1 := blk_cell H97.out 1
      have d2 := blk_cell H97.out 2
      have d3 := blk_cell H97.out 3
      have HSY : Hid (Sz y) := Lib.hid (by
        have h := take_sz x HS.out p k
        rw [← HY.out] at h
        exact h)
      obtain ⟨r, hr, hsame⟩ := same_calls y y HSY.out A5 A6 n5 n6 _ HC57.out HL5.out HC67.out HL6.out
      obtain rfl : r = true := hr.2 rfl
      have TS := Lib.hid hsame
      clear hsame hr
      go_wp2_with fail
      refine TS.out.mono ?_
      rintro e w8 ⟨rfl, hb⟩
      have HB8 := Lib.hid (below_then HB7.out HB7.out.size hb)
      clear hb TS c0 c1 c2 c3 d0 d1 d2 d3
      go_wp2_with fail
      refine (awake_calls _).mono ?_
      rintro e wz ⟨rfl, hb⟩
      have HBZ := Lib.hid (below_then HB8.out HB8.out.size hb)
      clear hb
      go_wp2_with fail
      go_ret
      exact ⟨rfl, HBZ.out⟩
    refine two_ (i := 1) (j := 9) (Ni := some 17) (Nj := some 7) #[true, true, true, false, true, false, false, false, false, false, false, false] #[true, false, true, false, true, false, false, false, false, true, false, false] rfl rfl rfl rfl (by kernel_rfl) (by decide) (by decide) (fun K hK => ?_) (fun K hK => ?_)
    · refine value_ (w1 := ?_) (v := ?_) (by rfl) rfl ?_ ?_
      rotate_left 2
      · go_simp
        constructor
        · rfl
        · rfl
      refine hK.out _ _ (below_alloc HB4.out _) (fun hHeld => ?_)
      clear hK K
      refine norm_ (a' := ?_) ?_ ?_
      rotate_left
      · show Act.put _ (some 17) _ = _
        simp only [Act.put, List.setIfInBounds_toArray, List.set_cons_zero, List.set_cons_succ, i64_w, i32_w]
        rfl
      have HB11 := Lib.hid hHeld
      have R11 : Hid (IK.R 3 (wd.alloc (.cells #[] 3)) w3.heap.size (fun _ => True) (.slice (some ⟨wd.heap.size, 0, none⟩) 0 0) []) := Lib.hid ⟨fun _ _ => trivial, OwnRow.lit wd w3.heap.size (ps := []) (inner := []) (Reps.none _ _) HB4.out.size (Nat.zero_le _)⟩
      have LQ : Hid (wd.heap.size < (wd.alloc (.cells #[] 3)).heap.size) := Lib.hid (by simp only [World.alloc, Array.size_push]; omega)
      obtain ⟨gq, hg11⟩ : ∃ g, g = wd.heap.size := ⟨_, rfl⟩
      rw [← hg11] at R11 LQ  ⊢
      obtain ⟨w111, hW11⟩ : ∃ W, W = wd.alloc (.cells #[] 3) := ⟨_, rfl⟩
      rw [← hW11] at HB11 R11 LQ  hHeld ⊢
      clear hW11 hg11
      refine two_ (i := 3) (j := 9) (Ni := some 19) (Nj := some 7) #[true, true, true, true, true, false, false, false, false, false, false, false] #[true, true, true, false, true, false, false, false, false, true, false, false] rfl rfl rfl rfl (by kernel_rfl) (by decide) (by decide) (fun K hK => ?_) (fun K hK => ?_)
      · refine Kd.R_append_rows_step IK (w0 := w3) w3.heap.size (by rfl) (.tmp 17) (.tmp 18) 25 3 (.int .i64 0) 8 rfl Try.underlying25 infoI rfl (by decide) (by decide) (.slice (some ⟨gq, 0, none⟩) 0 0) [] p PA p.length pc (fun _ => True) (fun _ => False) rfl rfl R11.out (Kd.C_below HP.out (below_then HB3.out HB3.out.size HB11.out)) (fun y cs hk => hk) (fun _ hk => hk.elim) (fun _ _ => trivial) HB11.out HB11.out.size (by have := HPL.out; simp; omega) ?_
        intro v19 w313 ho hb hg hat
        rw [List.nil_append] at ho
        have R13 := Lib.hid ho
        have HB13 := Lib.hid hb
        clear ho hb hg hat
        refine hK.out _ _ HB13.out (fun hHeld => ?_)
        clear hK K
        refine norm_ (a' := ?_) ?_ ?_
        rotate_left
        · show Act.put _ (some 19) _ = _
          simp only [Act.put, List.setIfInBounds_toArray, List.set_cons_zero, List.set_cons_succ, i64_w, i32_w]
          rfl
        refine two_ (i := 5) (j := 9) (Ni := some 21) (Nj := some 7) #[true, true, true, true, true, true, false, false, false, false, false, false] #[true, true, true, true, true, false, false, false, false, true, false, false] rfl rfl rfl rfl (by kernel_rfl) (by decide) (by decide) (fun K hK => ?_) (fun K hK => ?_)
        · obtain ⟨A19, n19, hv19, hl19, hc19⟩ := Kd.R_reads R13.out
          subst hv19
          have T := takeR_calls x A c A19 n19 p k w313 HL.out (Kd.C_below HC.out (below_then HB3.out HB3.out.size HB13.out)) (HS.out.fit 16) hc19
          rw [← HY.out] at T
          refine goes_ Try.func10 (by kernel_rfl) rfl #[.agg (aggV x A c), .slice A19 p.length n19, .int .i64 k] (by rfl) rfl rfl (by (try simp only [List.map_toArray, List.map_cons, List.map_nil]); first | done | rfl | (go_simp; done) | (go_simp; rfl)) ?_
          refine T.mono ?_
          rintro r w515 ⟨hb, v5, he, hr⟩
          replace he : r = .returned (.tuple #[.agg #[.int .i64 y.f0, .int .i64 y.f1, .string y.f2, v5], .int .i64 er]) := he
          subst he
          obtain ⟨A5, c5, hv5⟩ := Kd.R_slice hr
          subst hv5
          refine ⟨_, rfl, ?_⟩
          have HB15 := Lib.hid (below_then HB13.out HB13.out.size hb)
          have R15 := Lib.hid (Kd.R_lower hr HB13.out.size)
          clear T hb hr hc19 hl19
          refine hK.out _ _ HB15.out (fun hHeld => ?_)
          clear hK K
          refine norm_ (a' := ?_) ?_ ?_
          rotate_left
          · show Act.put _ (some 21) _ = _
            simp only [Act.put, List.setIfInBounds_toArray, List.set_cons_zero, List.set_cons_succ, i64_w, i32_w]
            rfl
          refine pure_ (i := 6) (N := some 15) (v := ?_) (a' := ?_) #[true, true, true, true, true, true, true, false, false, false, false, false] rfl rfl (by kernel_rfl) (fun _ _ _ h => h) (Or.inl ⟨by rfl, ?_⟩) ?_ ?_
          rotate_left
          · intro w'
            go_simp
            with_reducible rfl
          rotate_left
          · simp only [Act.put, List.setIfInBounds_toArray, List.set_cons_zero, List.set_cons_succ, i64_w, i32_w]
            rfl
          refine pure_ (i := 7) (N := some 22) (v := ?_) (a' := ?_) #[true, true, true, true, true, true, true, true, false, false, false, false] rfl rfl (by kernel_rfl) (fun _ _ _ h => h) (Or.inl ⟨by rfl, ?_⟩) ?_ ?_
          rotate_left
          · intro w'
            go_simp
            with_reducible rfl
          rotate_left
          · simp only [Act.put, List.setIfInBounds_toArray, List.set_cons_zero, List.set_cons_succ, i64_w, i32_w]
            rfl
          refine pure_ (i := 8) (N := some 23) (v := ?_) (a' := ?_) #[true, true, true, true, true, true, true, true, true, false, false, false] rfl rfl (by kernel_rfl) (fun _ _ _ h => h) (Or.inl ⟨by rfl, ?_⟩) ?_ ?_
          rotate_left
          · intro w'
            go_simp
            with_reducible rfl
          rotate_left
          · simp only [Act.put, List.setIfInBounds_toArray, List.set_cons_zero, List.set_cons_succ, i64_w, i32_w]
            rfl
          refine one_ (i := 9) (N := some 7) #[true, true, true, true, true, true, true, true, true, true, false, false] rfl rfl (by kernel_rfl) (by decide) (fun K hK => ?_)
          refine value_ (w1 := ?_) (v := ?_) (by rfl) rfl ?_ ?_
          rotate_left 2
          · go_simp
            constructor
            · rfl
            · rfl
          refine hK.out _ _ (below_alloc HB15.out _) (fun hHeld => ?_)
          clear hK K
          refine norm_ (a' := ?_) ?_ ?_
          rotate_left
          · show Act.put _ (some 7) _ = _
            simp only [Act.put, List.setIfInBounds_toArray, List.set_cons_zero, List.set_cons_succ, i64_w, i32_w]
            rfl
          have HB17 := Lib.hid hHeld
          have F17 := Lib.hid (blk_new w515 (.cells #[.int .i64 0, .int .i64 0, .string ⟨#[]⟩, .slice none 0 0] 24))
          have G17 : Hid (w3.heap.size ≤ w515.heap.size) := Lib.hid HB15.out.size
          obtain ⟨g17, hg17⟩ : ∃ g, g = w515.heap.size := ⟨_, rfl⟩
          rw [← hg17] at F17 G17 ⊢
          have R517 := Lib.hid (Kd.R_below R15.out (below_alloc (Below.refl _ _) (.cells #[.int .i64 0, .int .i64 0, .string ⟨#[]⟩, .slice none 0 0] 24)))
          have L517 : Hid (∀ k, k < g17 → k ≠ g17) := Lib.hid (fun k h => Nat.ne_of_lt h)
          have Q517 := Lib.hid (Kd.R_mono (Kd.R_bound R15.out) (fun k hk => (hk.2.2.1 : k < w515.heap.size)))
          have S517 := Lib.hid (Kd.R_below Q517.out (below_alloc (Below.refl _ _) (.cells #[.int .i64 0, .int .i64 0, .string ⟨#[]⟩, .slice none 0 0] 24)))
          rw [← hg17] at S517
          obtain ⟨w917, hW17⟩ : ∃ W, W = w515.alloc (.cells #[.int .i64 0, .int .i64 0, .string ⟨#[]⟩, .slice none 0 0] 24) := ⟨_, rfl⟩
          rw [← hW17] at HB17 F17 R517 S517 hHeld ⊢
          clear hW17 hg17
          refine one_ (i := 10) (N := none) #[true, true, true, true, true, true, true, true, true, true, true, false] rfl rfl (by kernel_rfl) (by decide) (fun K hK => ?_)
          refine Stb.store_step (by rfl) rfl 24 (.tmp 7) (.tmp 22) (by rfl) (cur' := #[.int .i64 y.f0, .int .i64 y.f1, .string y.f2, .slice A5 y.f3.length c5]) [.int .i64 y.f0, .int .i64 y.f1, .string y.f2, .slice A5 y.f3.length c5] F17.out (by rfl) (by rfl) (by rfl) (by kernel_rfl) (Nat.le_of_ble_eq_true rfl) (by rfl) (by rfl) ?_
          intro w018 hz hg hs
          have F18 := Lib.hid hz
          have HB18 := Lib.hid (Stb.below_grown1 HB17.out hg G17.out HB17.out.size)
          have R18 := Lib.hid ((Kd.R_mono (ok' := fun _ => True) (Kd.R_grown S517.out hg (fun k hk e => by have := Option.some.inj e; omega)) (fun _ _ => trivial)))
          clear hz hg hs
          refine hK.out _ _ HB18.out (fun hHeld => ?_)
          clear hK K
          refine norm_ (a' := ?_) ?_ ?_
          rotate_left
          · show Act.put _ (none) _ = _
            simp only [Act.put, List.setIfInBounds_toArray, List.set_cons_zero, List.set_cons_succ, i64_w, i32_w]
            rfl
          refine pure_ (i := 11) (N := some 8) (v := ?_) (a' := ?_) #[true, true, true, true, true, true, true, true, true, true, true, true] rfl rfl (by kernel_rfl) (fun _ _ _ h => h) (Or.inl ⟨by rfl, ?_⟩) ?_ ?_
          rotate_left
          · intro w'
            go_simp
            with_reducible rfl
          rotate_left
          · simp only [Act.put, List.setIfInBounds_toArray, List.set_cons_zero, List.set_cons_succ, i64_w, i32_w]
            rfl
          have h9 := hfin ((g17, (.slice A5 y.f3.length c5)), ((.slice (some ⟨gq, 0, none⟩) 0 0), (.slice A19 p.length n19))) _ ⟨F18, R18, HB18⟩
          refine norm_ ?_ h9
          show _ = putAll _ _
          simp only [putAll, Act.put, List.setIfInBounds_toArray, List.set_cons_zero, List.set_cons_succ]
        · refine value_ (w1 := ?_) (v := ?_) (by rfl) rfl ?_ ?_
          rotate_left 2
          · go_simp
            constructor
            · rfl
            · rfl
          refine hK.out _ _ (below_alloc HB13.out _) (fun hHeld => ?_)
          clear hK K
          refine norm_ (a' := ?_) ?_ ?_
          rotate_left
          · show Act.put _ (some 7) _ = _
            simp only [Act.put, List.setIfInBounds_toArray, List.set_cons_zero, List.set_cons_succ, i64_w, i32_w]
            rfl
          have HB16 := Lib.hid hHeld
          have F16 := Lib.hid (blk_new w313 (.cells #[.int .i64 0, .int .i64 0, .string ⟨#[]⟩, .slice none 0 0] 24))
          have G16 : Hid (w3.heap.size ≤ w313.heap.size) := Lib.hid HB13.out.size
          obtain ⟨g16, hg16⟩ : ∃ g, g = w313.heap.size := ⟨_, rfl⟩
          rw [← hg16] at F16 G16 ⊢
          have R16 := Lib.hid (Kd.R_below R13.out (below_alloc (Below.refl _ _) (.cells #[.int .i64 0, .int .i64 0, .string ⟨#[]⟩, .slice none 0 0] 24)))
          obtain ⟨w916, hW16⟩ : ∃ W, W = w313.alloc (.cells #[.int .i64 0, .int .i64 0, .string ⟨#[]⟩, .slice none 0 0] 24) := ⟨_, rfl⟩
          rw [← hW16] at HB16 F16 R16 hHeld ⊢
          clear hW16 hg16
          refine one_ (i := 5) (N := some 21) #[true, true, true, true, true, true, false, false, false, true, false, false] rfl rfl (by kernel_rfl) (by decide) (fun K hK => ?_)
          obtain ⟨A19, n19, hv19, hl19, hc19⟩ := Kd.R_reads R16.out
          subst hv19
          have T := takeR_calls x A c A19 n19 p k w916 HL.out (Kd.C_below HC.out (below_then HB3.out HB3.out.size HB16.out)) (HS.out.fit 16) hc19
          rw [← HY.out] at T
          refine goes_ Try.func10 (by kernel_rfl) rfl #[.agg (aggV x A c), .slice A19 p.length n19, .int .i64 k] (by rfl) rfl rfl (by (try simp only [List.map_toArray, List.map_cons, List.map_nil]); first | done | rfl | (go_simp; done) | (go_simp; rfl)) ?_
          refine T.mono ?_
          rintro r w519 ⟨hb, v5, he, hr⟩
          replace he : r = .returned (.tuple #[.agg #[.int .i64 y.f0, .int .i64 y.f1, .string y.f2, v5], .int .i64 er]) := he
          subst he
          obtain ⟨A5, c5, hv5⟩ := Kd.R_slice hr
          subst hv5
          refine ⟨_, rfl, ?_⟩
          have HB19 := Lib.hid (below_then HB16.out HB16.out.size hb)
          have R19 := Lib.hid (Kd.R_lower hr HB16.out.size)
          have F19 := Lib.hid (blk_below F16.out hb)
          have M19 : Hid (g16 < w916.heap.size) := Lib.hid (blk_lt F16.out)
          have S519 := Lib.hid (Kd.R_mono (Kd.R_bound hr) (fun k hk => (hk.2.1 : w916.heap.size ≤ k)))
          clear T hb hr hc19 hl19
          refine hK.out _ _ HB19.out (fun hHeld => ?_)
          clear hK K
          refine norm_ (a' := ?_) ?_ ?_
          rotate_left
          · show Act.put _ (some 21) _ = _
            simp only [Act.put, List.setIfInBounds_toArray, List.set_cons_zero, List.set_cons_succ, i64_w, i32_w]
            rfl
          refine pure_ (i := 6) (N := some 15) (v := ?_) (a' := ?_) #[true, true, true, true, true, true, true, false, false, true, false, false] rfl rfl (by kernel_rfl) (fun _ _ _ h => h) (Or.inl ⟨by rfl, ?_⟩) ?_ ?_
          rotate_left
          · intro w'
            go_simp
            with_reducible rfl
          rotate_left
          · simp only [Act.put, List.setIfInBounds_toArray, List.set_cons_zero, List.set_cons_succ, i64_w, i32_w]
            rfl
          refine pure_ (i := 7) (N := some 22) (v := ?_) (a' := ?_) #[true, true, true, true, true, true, true, true, false, true, false, false] rfl rfl (by kernel_rfl) (fun _ _ _ h => h) (Or.inl ⟨by rfl, ?_⟩) ?_ ?_
          rotate_left
          · intro w'
            go_simp
            with_reducible rfl
          rotate_left
          · simp only [Act.put, List.setIfInBounds_toArray, List.set_cons_zero, List.set_cons_succ, i64_w, i32_w]
            rfl
          refine pure_ (i := 8) (N := some 23) (v := ?_) (a' := ?_) #[true, true, true, true, true, true, true, true, true, true, false, false] rfl rfl (by kernel_rfl) (fun _ _ _ h => h) (Or.inl ⟨by rfl, ?_⟩) ?_ ?_
          rotate_left
          · intro w'
            go_simp
            with_reducible rfl
          rotate_left
          · simp only [Act.put, List.setIfInBounds_toArray, List.set_cons_zero, List.set_cons_succ, i64_w, i32_w]
            rfl
          refine one_ (i := 10) (N := none) #[true, true, true, true, true, true, true, true, true, true, true, false] rfl rfl (by kernel_rfl) (by decide) (fun K hK => ?_)
          refine Stb.store_step (by rfl) rfl 24 (.tmp 7) (.tmp 22) (by rfl) (cur' := #[.int .i64 y.f0, .int .i64 y.f1, .string y.f2, .slice A5 y.f3.length c5]) [.int .i64 y.f0, .int .i64 y.f1, .string y.f2, .slice A5 y.f3.length c5] F19.out (by rfl) (by rfl) (by rfl) (by kernel_rfl) (Nat.le_of_ble_eq_true rfl) (by rfl) (by rfl) ?_
          intro w020 hz hg hs
          have F20 := Lib.hid hz
          have HB20 := Lib.hid (Stb.below_grown1 HB19.out hg G16.out HB19.out.size)
          have R20 := Lib.hid ((Kd.R_lower (Kd.R_mono (ok' := fun _ => True) (Kd.R_grown S519.out hg (fun k hk e => by have := Option.some.inj e; have := M19.out; omega)) (fun _ _ => trivial)) HB16.out.size))
          clear hz hg hs
          refine hK.out _ _ HB20.out (fun hHeld => ?_)
          clear hK K
          refine norm_ (a' := ?_) ?_ ?_
          rotate_left
          · show Act.put _ (none) _ = _
            simp only [Act.put, List.setIfInBounds_toArray, List.set_cons_zero, List.set_cons_succ, i64_w, i32_w]
            rfl
          refine pure_ (i := 11) (N := some 8) (v := ?_) (a' := ?_) #[true, true, true, true, true, true, true, true, true, true, true, true] rfl rfl (by kernel_rfl) (fun _ _ _ h => h) (Or.inl ⟨by rfl, ?_⟩) ?_ ?_
          rotate_left
          · intro w'
            go_simp
            with_reducible rfl
          rotate_left
          · simp only [Act.put, List.setIfInBounds_toArray, List.set_cons_zero, List.set_cons_succ, i64_w, i32_w]
            rfl
          have h9 := hfin ((g16, (.slice A5 y.f3.length c5)), ((.slice (some ⟨gq, 0, none⟩) 0 0), (.slice A19 p.length n19))) _ ⟨F20, R20, HB20⟩
          refine norm_ ?_ h9
          show _ = putAll _ _
          simp only [putAll, Act.put, List.setIfInBounds_toArray, List.set_cons_zero, List.set_cons_succ]
      · refine value_ (w1 := ?_) (v := ?_) (by rfl) rfl ?_ ?_
        rotate_left 2
        · go_simp
          constructor
          · rfl
          · rfl
        refine hK.out _ _ (below_alloc HB11.out _) (fun hHeld => ?_)
        clear hK K
        refine norm_ (a' := ?_) ?_ ?_
        rotate_left
        · show Act.put _ (some 7) _ = _
          simp only [Act.put, List.setIfInBounds_toArray, List.set_cons_zero, List.set_cons_succ, i64_w, i32_w]
          rfl
        have HB14 := Lib.hid hHeld
        have F14 := Lib.hid (blk_new w111 (.cells #[.int .i64 0, .int .i64 0, .string ⟨#[]⟩, .slice none 0 0] 24))
        have G14 : Hid (w3.heap.size ≤ w111.heap.size) := Lib.hid HB11.out.size
        obtain ⟨g14, hg14⟩ : ∃ g, g = w111.heap.size := ⟨_, rfl⟩
        rw [← hg14] at F14 G14 ⊢
        have R14 := Lib.hid (Kd.R_below R11.out (below_alloc (Below.refl _ _) (.cells #[.int .i64 0, .int .i64 0, .string ⟨#[]⟩, .slice none 0 0] 24)))
        have N14 : Hid (gq < g14) := Lib.hid (by rw [hg14]; exact LQ.out)
        obtain ⟨w914, hW14⟩ : ∃ W, W = w111.alloc (.cells #[.int .i64 0, .int .i64 0, .string ⟨#[]⟩, .slice none 0 0] 24) := ⟨_, rfl⟩
        rw [← hW14] at HB14 F14 R14 hHeld ⊢
        clear hW14 hg14
        refine one_ (i := 3) (N := some 19) #[true, true, true, true, true, false, false, false, false, true, false, false] rfl rfl (by kernel_rfl) (by decide) (fun K hK => ?_)
        refine Kd.R_append_rows_step IK (w0 := w3) w3.heap.size (by rfl) (.tmp 17) (.tmp 18) 25 3 (.int .i64 0) 8 rfl Try.underlying25 infoI rfl (by decide) (by decide) (.slice (some ⟨gq, 0, none⟩) 0 0) [] p PA p.length pc (fun _ => True) (fun _ => False) rfl rfl R14.out (Kd.C_below HP.out (below_then HB3.out HB3.out.size HB14.out)) (fun y cs hk => hk) (fun _ hk => hk.elim) (fun _ _ => trivial) HB14.out HB14.out.size (by have := HPL.out; simp; omega) ?_
        intro v19 w321 ho hb hg hat
        rw [List.nil_append] at ho
        have R21 := Lib.hid ho
        have HB21 := Lib.hid hb
        have F21 := Lib.hid (blk_grown F14.out hg (fun e => by have h1 : g14 = gq := Option.some.inj (e.trans (by simp [Value.ownBlock])); have := N14.out; omega))
        clear ho hb hg hat
        refine hK.out _ _ HB21.out (fun hHeld => ?_)
        clear hK K
        refine norm_ (a' := ?_) ?_ ?_
        rotate_left
        · show Act.put _ (some 19) _ = _
          simp only [Act.put, List.setIfInBounds_toArray, List.set_cons_zero, List.set_cons_succ, i64_w, i32_w]
          rfl
        refine one_ (i := 5) (N := some 21) #[true, true, true, true, true, true, false, false, false, true, false, false] rfl rfl (by kernel_rfl) (by decide) (fun K hK => ?_)
        obtain ⟨A19, n19, hv19, hl19, hc19⟩ := Kd.R_reads R21.out
        subst hv19
        have T := takeR_calls x A c A19 n19 p k w321 HL.out (Kd.C_below HC.out (below_then HB3.out HB3.out.size HB21.out)) (HS.out.fit 16) hc19
        rw [← HY.out] at T
        refine goes_ Try.func10 (by kernel_rfl) rfl #[.agg (aggV x A c), .slice A19 p.length n19, .int .i64 k] (by rfl) rfl rfl (by (try simp only [List.map_toArray, List.map_cons, List.map_nil]); first | done | rfl | (go_simp; done) | (go_simp; rfl)) ?_
        refine T.mono ?_
        rintro r w522 ⟨hb, v5, he, hr⟩
        replace he : r = .returned (.tuple #[.agg #[.int .i64 y.f0, .int .i64 y.f1, .string y.f2, v5], .int .i64 er]) := he
        subst he
        obtain ⟨A5, c5, hv5⟩ := Kd.R_slice hr
        subst hv5
        refine ⟨_, rfl, ?_⟩
        have HB22 := Lib.hid (below_then HB21.out HB21.out.size hb)
        have R22 := Lib.hid (Kd.R_lower hr HB21.out.size)
        have F22 := Lib.hid (blk_below F21.out hb)
        have M22 : Hid (g14 < w321.heap.size) := Lib.hid (blk_lt F21.out)
        have S522 := Lib.hid (Kd.R_mono (Kd.R_bound hr) (fun k hk => (hk.2.1 : w321.heap.size ≤ k)))
        clear T hb hr hc19 hl19
        refine hK.out _ _ HB22.out (fun hHeld => ?_)
        clear hK K
        refine norm_ (a' := ?_) ?_ ?_
        rotate_left
        · show Act.put _ (some 21) _ = _
          simp only [Act.put, List.setIfInBounds_toArray, List.set_cons_zero, List.set_cons_succ, i64_w, i32_w]
          rfl
        refine pure_ (i := 6) (N := some 15) (v := ?_) (a' := ?_) #[true, true, true, true, true, true, true, false, false, true, false, false] rfl rfl (by kernel_rfl) (fun _ _ _ h => h) (Or.inl ⟨by rfl, ?_⟩) ?_ ?_
        rotate_left
        · intro w'
          go_simp
          with_reducible rfl
        rotate_left
        · simp only [Act.put, List.setIfInBounds_toArray, List.set_cons_zero, List.set_cons_succ, i64_w, i32_w]
          rfl
        refine pure_ (i := 7) (N := some 22) (v := ?_) (a' := ?_) #[true, true, true, true, true, true, true, true, false, true, false, false] rfl rfl (by kernel_rfl) (fun _ _ _ h => h) (Or.inl ⟨by rfl, ?_⟩) ?_ ?_
        rotate_left
        · intro w'
          go_simp
          with_reducible rfl
        rotate_left
        · simp only [Act.put, List.setIfInBounds_toArray, List.set_cons_zero, List.set_cons_succ, i64_w, i32_w]
          rfl
        refine pure_ (i := 8) (N := some 23) (v := ?_) (a' := ?_) #[true, true, true, true, true, true, true, true, true, true, false, false] rfl rfl (by kernel_rfl) (fun _ _ _ h => h) (Or.inl ⟨by rfl, ?_⟩) ?_ ?_
        rotate_left
        · intro w'
          go_simp
          with_reducible rfl
        rotate_left
        · simp only [Act.put, List.setIfInBounds_toArray, List.set_cons_zero, List.set_cons_succ, i64_w, i32_w]
          rfl
        refine one_ (i := 10) (N := none) #[true, true, true, true, true, true, true, true, true, true, true, false] rfl rfl (by kernel_rfl) (by decide) (fun K hK => ?_)
        refine Stb.store_step (by rfl) rfl 24 (.tmp 7) (.tmp 22) (by rfl) (cur' := #[.int .i64 y.f0, .int .i64 y.f1, .string y.f2, .slice A5 y.f3.length c5]) [.int .i64 y.f0, .int .i64 y.f1, .string y.f2, .slice A5 y.f3.length c5] F22.out (by rfl) (by rfl) (by rfl) (by kernel_rfl) (Nat.le_of_ble_eq_true rfl) (by rfl) (by rfl) ?_
        intro w023 hz hg hs
        have F23 := Lib.hid hz
        have HB23 := Lib.hid (Stb.below_grown1 HB22.out hg G14.out HB22.out.size)
        have R23 := Lib.hid ((Kd.R_lower (Kd.R_mono (ok' := fun _ => True) (Kd.R_grown S522.out hg (fun k hk e => by have := Option.some.inj e; have := M22.out; omega)) (fun _ _ => trivial)) HB21.out.size))
        clear hz hg hs
        refine hK.out _ _ HB23.out (fun hHeld => ?_)
        clear hK K
        refine norm_ (a' := ?_) ?_ ?_
        rotate_left
        · show Act.put _ (none) _ = _
          simp only [Act.put, List.setIfInBounds_toArray, List.set_cons_zero, List.set_cons_succ, i64_w, i32_w]
          rfl
        refine pure_ (i := 11) (N := some 8) (v := ?_) (a' := ?_) #[true, true, true, true, true, true, true, true, true, true, true, true] rfl rfl (by kernel_rfl) (fun _ _ _ h => h) (Or.inl ⟨by rfl, ?_⟩) ?_ ?_
        rotate_left
        · intro w'
          go_simp
          with_reducible rfl
        rotate_left
        · simp only [Act.put, List.setIfInBounds_toArray, List.set_cons_zero, List.set_cons_succ, i64_w, i32_w]
          rfl
        have h9 := hfin ((g14, (.slice A5 y.f3.length c5)), ((.slice (some ⟨gq, 0, none⟩) 0 0), (.slice A19 p.length n19))) _ ⟨F23, R23, HB23⟩
        refine norm_ ?_ h9
        show _ = putAll _ _
        simp only [putAll, Act.put, List.setIfInBounds_toArray, List.set_cons_zero, List.set_cons_succ]
    · refine value_ (w1 := ?_) (v := ?_) (by rfl) rfl ?_ ?_
      rotate_left 2
      · go_simp
        constructor
        · rfl
        · rfl
      refine hK.out _ _ (below_alloc HB4.out _) (fun hHeld => ?_)
      clear hK K
      refine norm_ (a' := ?_) ?_ ?_
      rotate_left
      · show Act.put _ (some 7) _ = _
        simp only [Act.put, List.setIfInBounds_toArray, List.set_cons_zero, List.set_cons_succ, i64_w, i32_w]
        rfl
      have HB12 := Lib.hid hHeld
      have F12 := Lib.hid (blk_new wd (.cells #[.int .i64 0, .int .i64 0, .string ⟨#[]⟩, .slice none 0 0] 24))
      have G12 : Hid (w3.heap.size ≤ wd.heap.size) := Lib.hid HB4.out.size
      obtain ⟨g12, hg12⟩ : ∃ g, g = wd.heap.size := ⟨_, rfl⟩
      rw [← hg12] at F12 G12 ⊢
      obtain ⟨w912, hW12⟩ : ∃ W, W = wd.alloc (.cells #[.int .i64 0, .int .i64 0, .string ⟨#[]⟩, .slice none 0 0] 24) := ⟨_, rfl⟩
      rw [← hW12] at HB12 F12  hHeld ⊢
      clear hW12 hg12
      refine one_ (i := 1) (N := some 17) #[true, true, true, false, true, false, false, false, false, true, false, false] rfl rfl (by kernel_rfl) (by decide) (fun K hK => ?_)
      refine value_ (w1 := ?_) (v := ?_) (by rfl) rfl ?_ ?_
      rotate_left 2
      · go_simp
        constructor
        · rfl
        · rfl
      refine hK.out _ _ (below_alloc HB12.out _) (fun hHeld => ?_)
      clear hK K
      refine norm_ (a' := ?_) ?_ ?_
      rotate_left
      · show Act.put _ (some 17) _ = _
        simp only [Act.put, List.setIfInBounds_toArray, List.set_cons_zero, List.set_cons_succ, i64_w, i32_w]
        rfl
      have HB24 := Lib.hid hHeld
      have R24 : Hid (IK.R 3 (w912.alloc (.cells #[] 3)) w3.heap.size (fun _ => True) (.slice (some ⟨w912.heap.size, 0, none⟩) 0 0) []) := Lib.hid ⟨fun _ _ => trivial, OwnRow.lit w912 w3.heap.size (ps := []) (inner := []) (Reps.none _ _) HB12.out.size (Nat.zero_le _)⟩
      have LQ : Hid (w912.heap.size < (w912.alloc (.cells #[] 3)).heap.size) := Lib.hid (by simp only [World.alloc, Array.size_push]; omega)
      have F24 := Lib.hid (blk_alloc F12.out (.cells #[] 3))
      have N24 : Hid (g12 < w912.heap.size) := Lib.hid (blk_lt F12.out)
      obtain ⟨gq, hg24⟩ : ∃ g, g = w912.heap.size := ⟨_, rfl⟩
      rw [← hg24] at R24 LQ N24 ⊢
      obtain ⟨w124, hW24⟩ : ∃ W, W = w912.alloc (.cells #[] 3) := ⟨_, rfl⟩
      rw [← hW24] at HB24 R24 LQ F24 hHeld ⊢
      clear hW24 hg24
      refine one_ (i := 3) (N := some 19) #[true, true, true, true, true, false, false, false, false, true, false, false] rfl rfl (by kernel_rfl) (by decide) (fun K hK => ?_)
      refine Kd.R_append_rows_step IK (w0 := w3) w3.heap.size (by rfl) (.tmp 17) (.tmp 18) 25 3 (.int .i64 0) 8 rfl Try.underlying25 infoI rfl (by decide) (by decide) (.slice (some ⟨gq, 0, none⟩) 0 0) [] p PA p.length pc (fun _ => True) (fun _ => False) rfl rfl R24.out (Kd.C_below HP.out (below_then HB3.out HB3.out.size HB24.out)) (fun y cs hk => hk) (fun _ hk => hk.elim) (fun _ _ => trivial) HB24.out HB24.out.size (by have := HPL.out; simp; omega) ?_
      intro v19 w325 ho hb hg hat
      rw [List.nil_append] at ho
      have R25 := Lib.hid ho
      have HB25 := Lib.hid hb
      have F25 := Lib.hid (blk_grown F24.out hg (fun e => by have h1 : g12 = gq := Option.some.inj (e.trans (by simp [Value.ownBlock])); have := N24.out; omega))
      clear ho hb hg hat
      refine hK.out _ _ HB25.out (fun hHeld => ?_)
      clear hK K
      refine norm_ (a' := ?_) ?_ ?_
      rotate_left
      · show Act.put _ (some 19) _ = _
        simp only [Act.put, List.setIfInBounds_toArray, List.set_cons_zero, List.set_cons_succ, i64_w, i32_w]
        rfl
      refine one_ (i := 5) (N := some 21) #[true, true, true, true, true, true, false, false, false, true, false, false] rfl rfl (by kernel_rfl) (by decide) (fun K hK => ?_)
      obtain ⟨A19, n19, hv19, hl19, hc19⟩ := Kd.R_reads R25.out
      subst hv19
      have T := takeR_calls x A c A19 n19 p k w325 HL.out (Kd.C_below HC.out (below_then HB3.out HB3.out.size HB25.out)) (HS.out.fit 16) hc19
      rw [← HY.out] at T
      refine goes_ Try.func10 (by kernel_rfl) rfl #[.agg (aggV x A c), .slice A19 p.length n19, .int .i64 k] (by rfl) rfl rfl (by (try simp only [List.map_toArray, List.map_cons, List.map_nil]); first | done | rfl | (go_simp; done) | (go_simp; rfl)) ?_
      refine T.mono ?_
      rintro r w526 ⟨hb, v5, he, hr⟩
      replace he : r = .returned (.tuple #[.agg #[.int .i64 y.f0, .int .i64 y.f1, .string y.f2, v5], .int .i64 er]) := he
      subst he
      obtain ⟨A5, c5, hv5⟩ := Kd.R_slice hr
      subst hv5
      refine ⟨_, rfl, ?_⟩
      have HB26 := Lib.hid (below_then HB25.out HB25.out.size hb)
      have R26 := Lib.hid (Kd.R_lower hr HB25.out.size)
      have F26 := Lib.hid (blk_below F25.out hb)
      have M26 : Hid (g12 < w325.heap.size) := Lib.hid (blk_lt F25.out)
      have S526 := Lib.hid (Kd.R_mono (Kd.R_bound hr) (fun k hk => (hk.2.1 : w325.heap.size ≤ k)))
      clear T hb hr hc19 hl19
      refine hK.out _ _ HB26.out (fun hHeld => ?_)
      clear hK K
      refine norm_ (a' := ?_) ?_ ?_
      rotate_left
      · show Act.put _ (some 21) _ = _
        simp only [Act.put, List.setIfInBounds_toArray, List.set_cons_zero, List.set_cons_succ, i64_w, i32_w]
        rfl
      refine pure_ (i := 6) (N := some 15) (v := ?_) (a' := ?_) #[true, true, true, true, true, true, true, false, false, true, false, false] rfl rfl (by kernel_rfl) (fun _ _ _ h => h) (Or.inl ⟨by rfl, ?_⟩) ?_ ?_
      rotate_left
      · intro w'
        go_simp
        with_reducible rfl
      rotate_left
      · simp only [Act.put, List.setIfInBounds_toArray, List.set_cons_zero, List.set_cons_succ, i64_w, i32_w]
        rfl
      refine pure_ (i := 7) (N := some 22) (v := ?_) (a' := ?_) #[true, true, true, true, true, true, true, true, false, true, false, false] rfl rfl (by kernel_rfl) (fun _ _ _ h => h) (Or.inl ⟨by rfl, ?_⟩) ?_ ?_
      rotate_left
      · intro w'
        go_simp
        with_reducible rfl
      rotate_left
      · simp only [Act.put, List.setIfInBounds_toArray, List.set_cons_zero, List.set_cons_succ, i64_w, i32_w]
        rfl
      refine pure_ (i := 8) (N := some 23) (v := ?_) (a' := ?_) #[true, true, true, true, true, true, true, true, true, true, false, false] rfl rfl (by kernel_rfl) (fun _ _ _ h => h) (Or.inl ⟨by rfl, ?_⟩) ?_ ?_
      rotate_left
      · intro w'
        go_simp
        with_reducible rfl
      rotate_left
      · simp only [Act.put, List.setIfInBounds_toArray, List.set_cons_zero, List.set_cons_succ, i64_w, i32_w]
        rfl
      refine one_ (i := 10) (N := none) #[true, true, true, true, true, true, true, true, true, true, true, false] rfl rfl (by kernel_rfl) (by decide) (fun K hK => ?_)
      refine Stb.store_step (by rfl) rfl 24 (.tmp 7) (.tmp 22) (by rfl) (cur' := #[.int .i64 y.f0, .int .i64 y.f1, .string y.f2, .slice A5 y.f3.length c5]) [.int .i64 y.f0, .int .i64 y.f1, .string y.f2, .slice A5 y.f3.length c5] F26.out (by rfl) (by rfl) (by rfl) (by kernel_rfl) (Nat.le_of_ble_eq_true rfl) (by rfl) (by rfl) ?_
      intro w027 hz hg hs
      have F27 := Lib.hid hz
      have HB27 := Lib.hid (Stb.below_grown1 HB26.out hg G12.out HB26.out.size)
      have R27 := Lib.hid ((Kd.R_lower (Kd.R_mono (ok' := fun _ => True) (Kd.R_grown S526.out hg (fun k hk e => by have := Option.some.inj e; have := M26.out; omega)) (fun _ _ => trivial)) HB25.out.size))
      clear hz hg hs
      refine hK.out _ _ HB27.out (fun hHeld => ?_)
      clear hK K
      refine norm_ (a' := ?_) ?_ ?_
      rotate_left
      · show Act.put _ (none) _ = _
        simp only [Act.put, List.setIfInBounds_toArray, List.set_cons_zero, List.set_cons_succ, i64_w, i32_w]
        rfl
      refine pure_ (i := 11) (N := some 8) (v := ?_) (a' := ?_) #[true, true, true, true, true, true, true, true, true, true, true, true] rfl rfl (by kernel_rfl) (fun _ _ _ h => h) (Or.inl ⟨by rfl, ?_⟩) ?_ ?_
      rotate_left
      · intro w'
        go_simp
        with_reducible rfl
      rotate_left
      · simp only [Act.put, List.setIfInBounds_toArray, List.set_cons_zero, List.set_cons_succ, i64_w, i32_w]
        rfl
      have h9 := hfin ((g12, (.slice A5 y.f3.length c5)), ((.slice (some ⟨gq, 0, none⟩) 0 0), (.slice A19 p.length n19))) _ ⟨F27, R27, HB27⟩
      refine norm_ ?_ h9
      show _ = putAll _ _
      simp only [putAll, Act.put, List.setIfInBounds_toArray, List.set_cons_zero, List.set_cons_succ]
end Go.Proofs.Ytcilojakgnjjmaa.LmT
/- The walks of MessageTakes and MessageCounts, as a row asks for them. -/
set_option linter.unusedSimpArgs false
set_option linter.unusedVariables false
namespace Go.Proofs.Ytcilojakgnjjmaa.LmO
open Go Go.RowKit Go.Proofs.YtcilojakgnjjmaaW.PrintWords Go.Proofs.YtcilojakgnjjmaaW.PrintLast Go.Proofs.YtcilojakgnjjmaaW.PrintMore PAll MeP MeT MeN MeX MeQ MeO
theorem agg_of {w : World} {x : V} {cs : Array Value} (h : kV.K w x cs.toList) : ∃ A c, cs = aggV x A c ∧ x.f3.length ≤ c ∧ kV.C w A x.f3.length x.f3 := by
  obtain ⟨A, c, e, hl, hc⟩ := k24_open h
  exact ⟨A, c, Array.toList_inj.1 e, hl, hc⟩
theorem walkCounts (cs : Array Value) (x : V) (k : Int) (w : World) (hk : kV.K w x cs.toList) (hs : Sz x) (_ : (Lit.int .i64 k).wf = true) :
    Calls Try.prog 4 #[.agg cs, .int .i64 k] w fun e w' => e = .returned (.bool true) ∧ Below w.heap.size w w' := by
  obtain ⟨A, c, rfl, hl, hc⟩ := agg_of hk
  exact LmC.counts_calls x hs A c k w hl hc
theorem walkTakes (cs : Array Value) (x : V) (PA : Option Addr) (pc : Nat) (p : List Int) (k : Int) (w : World) (hk : kV.K w x cs.toList) (hs : Sz x) (_ : p.length ≤ pc) (hp : IK.C w PA p.length p) (g : (∀ y ∈ p, (Lit.int .i64 y).wf = true) ∧ p.length * 8 ≤ reachBytes) (_ : (Lit.int .i64 k).wf = true) :
    Calls Try.prog 3 #[.agg cs, .slice PA p.length pc, .int .i64 k] w fun e w' => e = .returned (.bool true) ∧ Below w.heap.size w w' := by
  obtain ⟨A, c, rfl, hl, hc⟩ := agg_of hk
  have e : reachBytes = 140737488351232 := rfl
  exact LmT.takes_calls x hs A c PA pc p k w hl hc hp (by have := g.2; omega)
end Go.Proofs.Ytcilojakgnjjmaa.LmO
