import Derived.Test.YtdogkhbfpbdfpaaWireS
import Derived.Deep.RegionWith
import Derived.Deep.QuietTactic
/- What a reader does: bytes. -/
namespace Go.Proofs.Ytdogkhbfpbdfpaa.WireT
open Go.RowKit Go.Proofs.YtdogkhbfpbdfpaaW.PrintWords Mem WireP WireW WireV WireR WireS
theorem set1' {w : World} {base p : Nat} {xs : List Int} {a : Nat} {e : Int} (h : IsRd w base p xs a e) (a' : Nat) (ha : a' ≤ xs.length) (s : Int) (hs : s = (a' : Int)) : IsRd (w.setCell ⟨p, 1, none⟩ (.int .i64 s)) base p xs a' e := by
  subst hs
  exact h.set1 a' ha
theorem take_no (base p : Nat) (xs : List Int) (a : Nat) (e n : Int) (w : World) (h : IsRd w base p xs a e) (he : e ≠ 0) :
    Calls Try.prog 51 #[.pointer (some ⟨p, 0, none⟩), .int .i64 n] w fun r w' => r = .returned (.slice none 0 0) ∧ w = w' := by
  have H := Lib.hid h
  have h1 : (e == 0) = false := beq_eq_false_iff_ne.2 he
  clear h he
  go_enter Try.func51, Try.ntmps51
  go_wp2_with fail
  refine (fine_calls base p xs a e w H.out).mono ?_
  rintro r w1 ⟨rfl, rfl⟩
  go_wp2_with fail
  go_ret
  exact ⟨rfl, rfl⟩
theorem take_few (base p : Nat) (xs : List Int) (a n : Nat) (w : World) (h : IsRd w base p xs a 0) (hn : xs.length < a + n) :
    Calls Try.prog 51 #[.pointer (some ⟨p, 0, none⟩), .int .i64 (n : Int)] w fun r w' => r = .returned (.slice none 0 0) ∧ IsRd w' base p xs a 5 ∧ w.grownBy w' (some p) := by
  have H := Lib.hid h
  obtain ⟨A, c, _, _, c0, c1, c2, cf⟩ := h.cells
  have ha := h.le
  have hs := h.small
  obtain ⟨z, hz⟩ : ∃ z : Int, z = ((xs.length - a : Nat) : Int) := ⟨_, rfl⟩
  have e1 : wrap64 z = z := by unfold wrap64; omega
  have e2 : ((xs.length : Int) - a) = z := by omega
  have h1 : decide (z < (n : Int)) = true := decide_eq_true (by omega)
  clear h hz ha hs hn
  go_enter Try.func51, Try.ntmps51
  go_wp2_with fail
  refine (fine_calls base p xs a 0 w H.out).mono ?_
  rintro r w1 ⟨rfl, rfl⟩
  go_wp2_with fail
  go_quiet (fail)
  go_wp2_with fail
  refine (fail_calls base p xs a 0 5 _ (H.out.grown (pw_below_drewN (Below.refl _ _) _))).mono ?_
  rintro r w2 ⟨rfl, h2, hg⟩
  have H2 := Lib.hid h2
  have HG := Lib.hid (World.grownBy.trans (grown_none (pw_below_drewN (Below.refl _ _) _) p) hg)
  clear h2 hg
  go_wp2_with fail
  go_ret
  exact ⟨rfl, H2.out, HG.out⟩
theorem cut_two (A : Option Addr) (c : Nat) (xs : List Int) (a n : Nat) (h : a + n ≤ xs.length) (hc : xs.length ≤ c) : ∃ A' : Option Addr, (∀ W : World, (Instr.slice 22 (.slice A xs.length c) (some (.int .i64 (a : Int))) (some (.int .i64 ((a : Int) + (n : Int)))) none).run Try.prog W = .ok (.slice A' n (c - a)) W) ∧
    ∀ w : World, BK.C w A xs.length xs → BK.C w A' n ((xs.drop a).take n) := by
  obtain ⟨i, hi, hz⟩ := info5'
  have h1 := cut_mid (P := Try.prog) 22 5 .i64 .i64 Try.underlying22 hi 1 hz A xs.length c (a : Int) ((a : Int) + (n : Int)) (by omega) (by omega) (by omega) hc
  refine ⟨_, fun W => by rw [h1 W, show ((a : Int) + (n : Int)).toNat - (a : Int).toNat = n by omega, show ((a : Int)).toNat = a by omega], fun w hC => ?_⟩
  have := Kd.C_mid (c := c) (lo := a) (hi := a + n) hC (by omega) h hc
  have e : ((xs.take (a + n)).drop a) = (xs.drop a).take n := by rw [List.drop_take]; congr 1; omega
  rw [e, show ((xs.drop a).take n).length = n by rw [List.length_take, List.length_drop]; omega] at this
  exact this
set_option maxHeartbeats 800000 in
theorem take_ok (base p : Nat) (xs : List Int) (a n : Nat) (w : World) (h : IsRd w base p xs a 0) (hn : a + n ≤ xs.length) :
    Calls Try.prog 51 #[.pointer (some ⟨p, 0, none⟩), .int .i64 (n : Int)] w fun r w' => ∃ A c, r = .returned (.slice A n c) ∧ n ≤ c ∧ BK.C w' A n ((xs.drop a).take n) ∧ IsRd w' base p xs (a + n) 0 ∧ w.grownBy w' (some p) := by
  have H := Lib.hid h
  obtain ⟨A, c, r1, r2, r3, r4⟩ := h
  have hc := (Kd.R_reads' r1).2.1
  have c0 := blk_cell r2 0
  have c1 := blk_cell r2 1
  have c2 := blk_cell r2 2
  have cf := blk_frozen r2
  have HR := Lib.hid r1
  have ha := H.out.le
  have hs := H.out.small
  obtain ⟨A', hcut, hC⟩ := cut_two A c xs a n hn hc
  have HC := Lib.hid hC
  obtain ⟨z, hz⟩ : ∃ z : Int, z = ((xs.length - a : Nat) : Int) := ⟨_, rfl⟩
  have e1 : wrap64 z = z := by unfold wrap64; omega
  have e2 : ((xs.length : Int) - a) = z := by omega
  have h1 : decide (z < (n : Int)) = false := decide_eq_false (by omega)
  have hsum : (a : Int) + (n : Int) ≤ 9223372036854775807 := by omega
  have HN := Lib.hid hn
  have HCC := Lib.hid hc
  have n0 : 0 ≤ (n : Int) := by omega
  have a0 : 0 ≤ (a : Int) := by omega
  have e3 : IntKind.i64.wrap ((a : Int) + (n : Int) - (n : Int)) = (a : Int) := by rw [Go.IntKind.wrap_i64]; omega
  have e4 : IntKind.i64.wrap (a : Int) = (a : Int) := by rw [Go.IntKind.wrap_i64]; omega
  have e5 : wrap64 (a : Int) = (a : Int) := by unfold wrap64; omega
  clear r1 r2 r3 r4 hz ha hs hn hC hc
  go_enter Try.func51, Try.ntmps51
  go_wp2_with fail
  refine (fine_calls base p xs a 0 w H.out).mono ?_
  rintro r w1 ⟨rfl, rfl⟩
  go_wp2_with fail
  go_quiet (fail)
  go_wp2_with fail
  go_quiet (fail)
  go_wp2_with fail
  go_ret
  refine ⟨A', c - a, rfl, by have := HN.out; have := HCC.out; omega, ?_, ?_, ?_⟩
  · exact HC.out _ (Kd.R_reads' (Kd.R_below (Kd.R_far (Kd.R_below HR.out (pw_below_drewN (Below.refl _ _) _)) (fun k hk => hk) _) (pw_below_drewN (Below.refl _ _) _))).2.2
  · exact (set1' (H.out.grown (pw_below_drewN (Below.refl _ _) _)) (a + n) HN.out _ (by omega)).grown (pw_below_drewN (Below.refl _ _) _)
  · exact World.grownBy.trans (World.grownBy.trans (grown_none (pw_below_drewN (Below.refl _ _) _) p) (grown_set _ _ _ _)) (grown_none (pw_below_drewN (Below.refl _ _) _) p)
theorem or32 {j acc y : Nat} (hj : j < 32) (ha : acc < 2 ^ j) (hb : y * 2 ^ j < 4294967296) (ha' : acc < 4294967296) :
    Go.bits .or .u32 (acc : Int) (((y * 2 ^ j : Nat)) : Int) = ((acc + y * 2 ^ j : Nat) : Int) := by
  rw [(bits_nat .u32 32 (Nat.le_refl _) (fun n h0 h1 => by rw [Go.IntKind.wrap_u32]; omega) acc _ (by omega) (by omega)).2]
  congr 1
  have := Nat.two_pow_add_eq_or_of_lt (i := j) (b := acc) ha y
  rw [Nat.or_comm, Nat.mul_comm y, ← this]; omega
theorem or4 {c0 c1 c2 c3 : Int} (h0 : 0 ≤ c0 ∧ c0 < 256) (h1 : 0 ≤ c1 ∧ c1 < 256) (h2 : 0 ≤ c2 ∧ c2 < 256) (h3 : 0 ≤ c3 ∧ c3 < 256) :
    Go.bits .or .u32 (Go.bits .or .u32 (Go.bits .or .u32 c0 (c1 * 256)) (c2 * 65536)) (c3 * 16777216) = c0 + 256 * (c1 + 256 * (c2 + 256 * (c3 + 256 * 0))) := by
  obtain ⟨x0, rfl⟩ := Int.eq_ofNat_of_zero_le h0.1
  obtain ⟨x1, rfl⟩ := Int.eq_ofNat_of_zero_le h1.1
  obtain ⟨x2, rfl⟩ := Int.eq_ofNat_of_zero_le h2.1
  obtain ⟨x3, rfl⟩ := Int.eq_ofNat_of_zero_le h3.1
  have e1 := or32 (j := 8) (acc := x0) (y := x1) (by omega) (by omega) (by omega) (by omega)
  have e2 := or32 (j := 16) (acc := x0 + x1 * 2 ^ 8) (y := x2) (by omega) (by omega) (by omega) (by omega)
  have e3 := or32 (j := 24) (acc := x0 + x1 * 2 ^ 8 + x2 * 2 ^ 16) (y := x3) (by omega) (by omega) (by omega) (by omega)
  rw [show (x1 : Int) * 256 = ((x1 * 2 ^ 8 : Nat) : Int) by omega, show (x2 : Int) * 65536 = ((x2 * 2 ^ 16 : Nat) : Int) by omega, show (x3 : Int) * 16777216 = ((x3 * 2 ^ 24 : Nat) : Int) by omega, e1, e2, e3]
  omega
theorem four_of {xs : List Int} (h : 4 ≤ xs.length) : ∃ c0 c1 c2 c3 t, xs = c0 :: c1 :: c2 :: c3 :: t := by
  match xs, h with
  | c0 :: c1 :: c2 :: c3 :: t, _ => exact ⟨c0, c1, c2, c3, t, rfl⟩
set_option maxHeartbeats 800000 in
theorem low4_calls (A : Option Addr) (n c : Nat) (ys : List Int) (w : World) (h : BK.C w A n ys) (hb : ∀ c ∈ ys, 0 ≤ c ∧ c < 256) (hn : 4 ≤ n) (_ : n ≤ c) :
    Calls Try.prog 52 #[.slice A n c] w fun r w' => r = .returned (.int .u32 (lev (ys.take 4))) ∧ ∃ m, w' = w.drewN m := by
  obtain ⟨ad, x0, hx0, rfl, d0⟩ := at_B h 0 (by omega)
  obtain ⟨_, x1, hx1, e, d1⟩ := at_B h 1 (by omega)
  obtain rfl := Option.some.inj e
  obtain ⟨_, x2, hx2, e, d2⟩ := at_B h 2 (by omega)
  obtain rfl := Option.some.inj e
  obtain ⟨_, x3, hx3, e, d3⟩ := at_B h 3 (by omega)
  obtain rfl := Option.some.inj e
  have hlen := h.1
  obtain ⟨c0, c1, c2, c3, t, rfl⟩ := four_of (xs := ys) (by omega)
  simp at hx0 hx1 hx2 hx3
  subst hx0 hx1 hx2 hx3
  have r0 := hb c0 (by simp)
  have r1 := hb c1 (by simp)
  have r2 := hb c2 (by simp)
  have r3 := hb c3 (by simp)
  have HE := Lib.hid (or4 r0 r1 r2 r3)
  have hn0 : 0 < n := by omega
  have hn1 : (1 : Int) < (n : Int) := by omega
  have hn2 : (2 : Int) < (n : Int) := by omega
  have hn3 : (3 : Int) < (n : Int) := by omega
  have d0' : w.cell? ad = some (.int .u8 c0) := by rw [← d0]; congr 1
  have d1' : w.cell? ⟨ad.block, ad.off + 1, none⟩ = some (.int .u8 c1) := d1
  have d2' : w.cell? ⟨ad.block, ad.off + 2, none⟩ = some (.int .u8 c2) := d2
  have d3' : w.cell? ⟨ad.block, ad.off + 3, none⟩ = some (.int .u8 c3) := d3
  clear h hb hlen
  go_enter Try.func52, Try.ntmps52
  go_wp2_with fail
  go_quiet (fail)
  go_wp2_with fail
  go_ret
  exact ⟨congrArg (fun z => Ending.returned (Value.int .u32 z)) HE.out, _, rfl⟩
theorem mem_cut {xs : List Int} (hb : ∀ c ∈ xs, 0 ≤ c ∧ c < 256) (a n : Nat) : ∀ c ∈ (xs.drop a).take n, 0 ≤ c ∧ c < 256 := fun c hc => hb c (List.mem_of_mem_drop (List.mem_of_mem_take hc))
theorem fixed4R (base p : Nat) (xs : List Int) (a : Nat) (e : Int) (w : World) (h : IsRd w base p xs a e) (hb : ∀ c ∈ xs, 0 ≤ c ∧ c < 256) :
    Calls Try.prog 31 #[.pointer (some ⟨p, 0, none⟩)] w fun r w' => ∃ (n : Int) (a' : Nat) (e' : Int), r = .returned (.int .u32 n) ∧ RdF xs a e 4 n a' e' ∧ IsRd w' base p xs a' e' ∧ w.grownBy w' (some p) := by
  have H := Lib.hid h
  have HR := Lib.hid hb
  clear h hb
  by_cases he : e = 0
  · subst he
    by_cases hl : a + 4 ≤ xs.length
    · go_enter Try.func31, Try.ntmps31
      go_wp2_with fail
      refine (take_ok base p xs a 4 w H.out hl).mono ?_
      rintro r w1 ⟨A, c, rfl, hc, hC, h2, hg⟩
      obtain ⟨ad, rfl, _⟩ := hC.2.2 (by decide)
      have H2 := Lib.hid h2
      have HG := Lib.hid hg
      have HC := Lib.hid hC
      have HL := Lib.hid hl
      clear h2 hg hC hl
      go_wp2_with fail
      refine (low4_calls (some ad) 4 c _ w1 HC.out (mem_cut HR.out a 4) (Nat.le_refl _) hc).mono ?_
      rintro r w2 ⟨rfl, m, rfl⟩
      go_wp2_with fail
      go_ret
      refine ⟨_, a + 4, 0, rfl, .inr (.inr ⟨rfl, HL.out, by rw [List.take_take]; rfl, rfl, rfl⟩), H2.out.grown (pw_below_drewN (Below.refl _ _) _), World.grownBy.trans HG.out (grown_none (pw_below_drewN (Below.refl _ _) _) p)⟩
    · go_enter Try.func31, Try.ntmps31
      go_wp2_with fail
      refine (take_few base p xs a 4 w H.out (by omega)).mono ?_
      rintro r w1 ⟨rfl, h2, hg⟩
      have H2 := Lib.hid h2
      have HG := Lib.hid hg
      have HL := Lib.hid hl
      clear h2 hg hl
      go_wp2_with fail
      go_ret
      exact ⟨0, a, 5, rfl, .inr (.inl ⟨rfl, by have := HL.out; omega, rfl, rfl, rfl⟩), H2.out, HG.out⟩
  · have HE := Lib.hid he
    go_enter Try.func31, Try.ntmps31
    go_wp2_with fail
    refine (take_no base p xs a e 4 w H.out he).mono ?_
    rintro r w1 ⟨rfl, rfl⟩
    clear he
    go_wp2_with fail
    go_ret
    exact ⟨0, a, e, rfl, .inl ⟨HE.out, rfl, rfl, rfl⟩, H.out, World.grownBy.refl _ _⟩
theorem cut_tail (A : Option Addr) (c : Nat) (xs : List Int) (hl : xs.length = 8) (hc : 8 ≤ c) : ∃ A' : Option Addr, (∀ W : World, (Instr.slice 22 (.slice A 8 c) (some (.int .i64 4)) none none).run Try.prog W = .ok (.slice A' 4 (c - 4)) W) ∧
    ∀ w : World, BK.C w A 8 xs → BK.C w A' 4 (xs.drop 4) := by
  obtain ⟨A', h1, h2⟩ := cut_bytes A c xs 4 (by omega) (by omega)
  rw [hl] at h1 h2
  exact ⟨A', h1, h2⟩
theorem quiet_any {P : Program} {f : FuncId} {args : Array Value} {w : World} {n : Nat} {v : Value} (c : ∀ m, Calls P f args (w.drewN m) fun e w' => e = .returned v ∧ ∃ k, w' = (w.drewN m).drewN k) :
    Calls P f args (w.drewN n) fun e w'' => e = .returned v ∧ ∃ m, w'' = w.drewN m :=
  (c n).mono fun _ _ ⟨he, m, hm⟩ => ⟨he, n + m, by rw [hm, World.drewN_drewN]⟩
theorem or64 {x y : Int} (h0 : 0 ≤ x ∧ x < 4294967296) (h1 : 0 ≤ y ∧ y < 4294967296) : Go.bits .or .u64 x (y * 4294967296) = x + 4294967296 * y := by
  obtain ⟨a, rfl⟩ := Int.eq_ofNat_of_zero_le h0.1
  obtain ⟨b, rfl⟩ := Int.eq_ofNat_of_zero_le h1.1
  have h : (b : Int) * 4294967296 = ((b * 2 ^ 32 : Nat) : Int) := by omega
  rw [h, bits_or_u64_nat a _ (by omega) (by omega)]
  have := Nat.two_pow_add_eq_or_of_lt (i := 32) (b := a) (by omega) b
  rw [Nat.or_comm, Nat.mul_comm b, ← this]; omega
theorem lev_split (ys : List Int) (h : 8 ≤ ys.length) : lev (ys.take 8) = lev (ys.take 4) + 4294967296 * lev ((ys.drop 4).take 4) := by
  match ys, h with
  | a :: b :: c :: d :: e :: f :: g :: i :: t, _ =>
    simp only [List.take_succ_cons, List.take_zero, List.drop_succ_cons, List.drop_zero, lev]
    omega
theorem lev4 {ys : List Int} (hb : ∀ c ∈ ys, 0 ≤ c ∧ c < 256) : 0 ≤ lev (ys.take 4) ∧ lev (ys.take 4) < 4294967296 := by
  have h := lev_range (ys.take 4) (fun c hc => hb c (List.mem_of_mem_take hc))
  have h2 : (256 ^ (ys.take 4).length : Nat) ≤ 4294967296 := Nat.le_trans (Nat.pow_le_pow_right (by decide) (List.length_take_le _ _)) (by decide)
  have h3 : (256 : Int) ^ (ys.take 4).length = ((256 ^ (ys.take 4).length : Nat) : Int) := by rw [Int.natCast_pow]; rfl
  rw [h3] at h
  omega
set_option maxHeartbeats 800000 in
theorem fixed8R (base p : Nat) (xs : List Int) (a : Nat) (e : Int) (w : World) (h : IsRd w base p xs a e) (hb : ∀ c ∈ xs, 0 ≤ c ∧ c < 256) :
    Calls Try.prog 32 #[.pointer (some ⟨p, 0, none⟩)] w fun r w' => ∃ (n : Int) (a' : Nat) (e' : Int), r = .returned (.int .u64 n) ∧ RdF xs a e 8 n a' e' ∧ IsRd w' base p xs a' e' ∧ w.grownBy w' (some p) := by
  have H := Lib.hid h
  have HR := Lib.hid hb
  clear h hb
  by_cases he : e = 0
  · subst he
    by_cases hl : a + 8 ≤ xs.length
    · go_enter Try.func32, Try.ntmps32
      go_wp2_with fail
      refine (take_ok base p xs a 8 w H.out hl).mono ?_
      rintro r w1 ⟨A, c, rfl, hc, hC, h2, hg⟩
      obtain ⟨ad, rfl, _⟩ := hC.2.2 (by decide)
      have H2 := Lib.hid h2
      have HG := Lib.hid hg
      have HC := Lib.hid hC
      have HL := Lib.hid hl
      have HCC := Lib.hid hc
      obtain ⟨A', hcut, hC'⟩ := cut_tail (some ad) c ((xs.drop a).take 8) (by rw [List.length_take, List.length_drop]; omega) hc
      have hC4 := hC' w1 hC
      have hm := mem_cut HR.out a 8
      have hm4 : ∀ c ∈ ((xs.drop a).take 8).drop 4, 0 ≤ c ∧ c < 256 := fun c hc => hm c (List.mem_of_mem_drop hc)
      obtain ⟨x, hx⟩ : ∃ x, x = lev (((xs.drop a).take 8).take 4) := ⟨_, rfl⟩
      obtain ⟨y, hy⟩ : ∃ y, y = lev ((((xs.drop a).take 8).drop 4).take 4) := ⟨_, rfl⟩
      have hx0 := lev4 hm
      have hy0 := lev4 hm4
      rw [← hx] at hx0
      rw [← hy] at hy0
      have T1 : Hid (∀ m, Calls Try.prog 52 #[.slice (some ad) 8 c] (w1.drewN m) fun r w' => r = .returned (.int .u32 x) ∧ ∃ k, w' = (w1.drewN m).drewN k) :=
        Lib.hid (fun m => by rw [hx]; exact low4_calls (some ad) 8 c _ _ (Kd.C_below hC (pw_below_drewN (Below.refl _ _) _)) hm (by decide) hc)
      have T2 : Hid (∀ m, Calls Try.prog 52 #[.slice A' 4 (c - 4)] (w1.drewN m) fun r w' => r = .returned (.int .u32 y) ∧ ∃ k, w' = (w1.drewN m).drewN k) :=
        Lib.hid (fun m => by rw [hy]; exact low4_calls A' 4 (c - 4) _ _ (Kd.C_below hC4 (pw_below_drewN (Below.refl _ _) _)) hm4 (by decide) (by omega))
      have HO := Lib.hid (or64 hx0 hy0)
      have e1 : IntKind.u64.wrap x = x := by rw [Go.IntKind.wrap_u64]; omega
      have e2 : IntKind.u64.wrap y = y := by rw [Go.IntKind.wrap_u64]; omega
      have e3 : IntKind.u64.wrap (y * 4294967296) = y * 4294967296 := by rw [Go.IntKind.wrap_u64]; omega
      have HX := Lib.hid hx
      have HY := Lib.hid hy
      clear h2 hg hC hl hc hC' hC4 hm hm4 hx0 hy0 hx hy
      go_wp2_with fail
      go_quiet ((go_at_call 52; first | (with_reducible exact quiet_any T1.out) | (with_reducible exact quiet_any T2.out)))
      go_wp2_with fail
      go_ret
      refine ⟨_, a + 8, 0, congrArg (fun z => Ending.returned (Value.int .u64 z)) HO.out, .inr (.inr ⟨rfl, HL.out, ?_, rfl, rfl⟩), H2.out.grown (pw_below_drewN (Below.refl _ _) _), World.grownBy.trans HG.out (grown_none (pw_below_drewN (Below.refl _ _) _) p)⟩
      rw [HX.out, HY.out, ← lev_split _ (by rw [List.length_take, List.length_drop]; have := HL.out; omega), List.take_take]; rfl
    · go_enter Try.func32, Try.ntmps32
      go_wp2_with fail
      refine (take_few base p xs a 8 w H.out (by omega)).mono ?_
      rintro r w1 ⟨rfl, h2, hg⟩
      have H2 := Lib.hid h2
      have HG := Lib.hid hg
      have HL := Lib.hid hl
      clear h2 hg hl
      go_wp2_with fail
      go_ret
      exact ⟨0, a, 5, rfl, .inr (.inl ⟨rfl, by have := HL.out; omega, rfl, rfl, rfl⟩), H2.out, HG.out⟩
  · have HE := Lib.hid he
    go_enter Try.func32, Try.ntmps32
    go_wp2_with fail
    refine (take_no base p xs a e 8 w H.out he).mono ?_
    rintro r w1 ⟨rfl, rfl⟩
    clear he
    go_wp2_with fail
    go_ret
    exact ⟨0, a, e, rfl, .inl ⟨HE.out, rfl, rfl, rfl⟩, H.out, World.grownBy.refl _ _⟩
theorem byteR (base p : Nat) (xs : List Int) (a : Nat) (e : Int) (w : World) (h : IsRd w base p xs a e) :
    Calls Try.prog 35 #[.pointer (some ⟨p, 0, none⟩)] w fun r w' => ∃ (n : Int) (a' : Nat) (e' : Int), r = .returned (.int .u8 n) ∧ RdF xs a e 1 n a' e' ∧ IsRd w' base p xs a' e' ∧ w.grownBy w' (some p) := by
  have H := Lib.hid h
  clear h
  by_cases he : e = 0
  · subst he
    by_cases hl : a + 1 ≤ xs.length
    · go_enter Try.func35, Try.ntmps35
      go_wp2_with fail
      refine (take_ok base p xs a 1 w H.out hl).mono ?_
      rintro r w1 ⟨A, c, rfl, hc, hC, h2, hg⟩
      obtain ⟨ad, x, hx, rfl, cx⟩ := at_B hC 0 (by decide)
      have cx' : w1.cell? ad = some (.int .u8 x) := by rw [← cx]; congr 1
      have H2 := Lib.hid h2
      have HG := Lib.hid hg
      have HL := Lib.hid hl
      have HX : Hid (x = lev ((xs.drop a).take 1)) := Lib.hid (by
        have hlen := hC.1
        generalize (xs.drop a).take 1 = ys at *
        match ys, hlen with
        | [c], _ => simp at hx; subst hx; simp [lev])
      clear h2 hg hC hl hx cx
      go_wp2_with fail
      go_ret
      exact ⟨x, a + 1, 0, rfl, .inr (.inr ⟨rfl, HL.out, HX.out, rfl, rfl⟩), H2.out, HG.out⟩
    · go_enter Try.func35, Try.ntmps35
      go_wp2_with fail
      refine (take_few base p xs a 1 w H.out (by omega)).mono ?_
      rintro r w1 ⟨rfl, h2, hg⟩
      have H2 := Lib.hid h2
      have HG := Lib.hid hg
      have HL := Lib.hid hl
      clear h2 hg hl
      go_wp2_with fail
      go_ret
      exact ⟨0, a, 5, rfl, .inr (.inl ⟨rfl, by have := HL.out; omega, rfl, rfl, rfl⟩), H2.out, HG.out⟩
  · have HE := Lib.hid he
    go_enter Try.func35, Try.ntmps35
    go_wp2_with fail
    refine (take_no base p xs a e 1 w H.out he).mono ?_
    rintro r w1 ⟨rfl, rfl⟩
    clear he
    go_wp2_with fail
    go_ret
    exact ⟨0, a, e, rfl, .inl ⟨HE.out, rfl, rfl, rfl⟩, H.out, World.grownBy.refl _ _⟩
end Go.Proofs.Ytdogkhbfpbdfpaa.WireT
