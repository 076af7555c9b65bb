import Derived.Test.YtdogkhbfpbdfpaaWireT
/- What a reader does: numbers and bytes. -/
namespace Go.Proofs.Ytdogkhbfpbdfpaa.WireU
open Go.RowKit Go.Proofs.YtdogkhbfpbdfpaaW.PrintWords Mem WireP WireW WireV WireR WireS WireT
/-- What the next number of at most another one is, and how many bytes it has. -/
def NmR (xs : List Int) (a : Nat) (e most : Int) (n kk : Nat) (e' : Int) : Prop :=
  (e ≠ 0 ∧ n = 0 ∧ kk = 0 ∧ e' = e) ∨ (e = 0 ∧ ∃ m k, PkOk (xs.drop a) m k ∧ ((k = 0 ∧ n = 0 ∧ kk = 0 ∧ e' = 5) ∨ (0 < k ∧ most < (m : Int) ∧ n = 0 ∧ kk = 0 ∧ e' = 3) ∨ (0 < k ∧ (m : Int) ≤ most ∧ n = m ∧ kk = k ∧ e' = 0)))
set_option maxHeartbeats 800000 in
theorem number_calls (base p : Nat) (xs : List Int) (a : Nat) (e most : Int) (w : World) (h : IsRd w base p xs a e) (hb : ∀ c ∈ xs, 0 ≤ c ∧ c < 256) (hm : -9223372036854775808 ≤ most ∧ most < 9223372036854775808) :
    Calls Try.prog 53 #[.pointer (some ⟨p, 0, none⟩), .int .i64 most] w fun r w' => ∃ (n k : Nat) (e' : Int), r = .returned (.tuple #[.int .i64 n, .int .i64 k]) ∧ NmR xs a e most n k e' ∧ IsRd w' base p xs a e' ∧ w.grownBy w' (some p) := by
  have H := Lib.hid h
  have HR := Lib.hid hb
  have HM := Lib.hid hm
  clear h hb hm
  by_cases he : e = 0
  · subst he
    go_enter Try.func53, Try.ntmps53
    go_wp2_with fail
    refine (fine_calls base p xs a 0 w H.out).mono ?_
    rintro r w1 ⟨rfl, rfl⟩
    go_wp2_with fail
    refine (peek_calls base p xs a 0 w H.out HR.out).mono ?_
    rintro r w1 ⟨n, k, rfl, hp, hb⟩
    have HP := Lib.hid hp
    have H1 := Lib.hid (H.out.grown hb)
    have HG := Lib.hid (grown_none hb p)
    have HN := Lib.hid (pk_lt hp)
    clear hb hp
    by_cases hk : k = 0
    · subst hk
      go_wp2_with fail
      refine (fail_calls base p xs a 0 5 w1 H1.out).mono ?_
      rintro r w2 ⟨rfl, h2, hg⟩
      have H2 := Lib.hid h2
      have HG2 := Lib.hid (World.grownBy.trans HG.out hg)
      clear h2 hg
      go_wp2_with fail
      go_ret2
      exact ⟨0, 0, 5, rfl, .inr ⟨rfl, n, 0, HP.out, .inl ⟨rfl, rfl, rfl, rfl⟩⟩, H2.out, HG2.out⟩
    · have b1 : ((k : Int) == 0) = false := by rw [beq_eq_false_iff_ne]; omega
      have HK0 := Lib.hid hk
      clear hk
      by_cases hx : 9223372036854775807 < n
      · have hd : decide ((9223372036854775807 : Int) < (n : Int)) = true := decide_eq_true (by omega)
        have HX := Lib.hid hx
        clear hx
        go_wp2_with fail
        refine (fail_calls base p xs a 0 3 w1 H1.out).mono ?_
        rintro r w2 ⟨rfl, h2, hg⟩
        have H2 := Lib.hid h2
        have HG2 := Lib.hid (World.grownBy.trans HG.out hg)
        clear h2 hg
        go_wp2_with fail
        go_ret2
        exact ⟨0, 0, 3, rfl, .inr ⟨rfl, n, k, HP.out, .inr (.inl ⟨by have := HK0.out; omega, by have := HX.out; have := HM.out; omega, rfl, rfl, rfl⟩)⟩, H2.out, HG2.out⟩
      · have hd : decide ((9223372036854775807 : Int) < (n : Int)) = false := decide_eq_false (by omega)
        have ew : wrap64 (n : Int) = (n : Int) := by unfold wrap64; omega
        have HX := Lib.hid hx
        clear hx
        by_cases hmo : most < (n : Int)
        · have hd2 : decide (most < (n : Int)) = true := decide_eq_true hmo
          have HMO := Lib.hid hmo
          clear hmo
          go_wp2_with fail
          refine (fail_calls base p xs a 0 3 w1 H1.out).mono ?_
          rintro r w2 ⟨rfl, h2, hg⟩
          have H2 := Lib.hid h2
          have HG2 := Lib.hid (World.grownBy.trans HG.out hg)
          clear h2 hg
          go_wp2_with fail
          go_ret2
          exact ⟨0, 0, 3, rfl, .inr ⟨rfl, n, k, HP.out, .inr (.inl ⟨by have := HK0.out; omega, HMO.out, rfl, rfl, rfl⟩)⟩, H2.out, HG2.out⟩
        · have hd2 : decide (most < (n : Int)) = false := decide_eq_false hmo
          have HMO := Lib.hid hmo
          clear hmo
          go_wp2_with fail
          go_ret2
          exact ⟨n, k, 0, congrArg (fun z => Ending.returned (Value.tuple #[.int .i64 z, .int .i64 (k : Int)])) (by first | rfl | exact ew), .inr ⟨rfl, n, k, HP.out, .inr (.inr ⟨by have := HK0.out; omega, by have := HMO.out; omega, rfl, rfl, rfl⟩)⟩, H1.out, HG.out⟩
  · have HE := Lib.hid he
    have h1 : (e == 0) = false := beq_eq_false_iff_ne.2 he
    clear he
    go_enter Try.func53, Try.ntmps53
    go_wp2_with fail
    refine (fine_calls base p xs a e w H.out).mono ?_
    rintro r w1 ⟨rfl, rfl⟩
    go_wp2_with fail
    go_ret2
    exact ⟨0, 0, e, rfl, .inl ⟨HE.out, rfl, rfl, rfl⟩, H.out, World.grownBy.refl _ _⟩
theorem nmR_len {xs : List Int} {a : Nat} {e most : Int} {n k : Nat} {e' : Int} (h : NmR xs a e most n k e') (ha : a ≤ xs.length) : a + k ≤ xs.length := by
  rcases h with ⟨_, _, h, _⟩ | ⟨_, m, j, hp, h⟩
  · omega
  · have h1 := pk_len hp
    rw [List.length_drop] at h1
    rcases h with ⟨_, _, h, _⟩ | ⟨_, _, _, h, _⟩ | ⟨_, _, _, h, _⟩ <;> omega
theorem numberR (base p : Nat) (xs : List Int) (a : Nat) (e most : Int) (w : World) (h : IsRd w base p xs a e) (hb : ∀ c ∈ xs, 0 ≤ c ∧ c < 256) (hm : -9223372036854775808 ≤ most ∧ most < 9223372036854775808) :
    Calls Try.prog 36 #[.pointer (some ⟨p, 0, none⟩), .int .i64 most] w fun r w' => ∃ (n : Int) (a' : Nat) (e' : Int), r = .returned (.int .i64 n) ∧ RdN xs a e most n a' e' ∧ IsRd w' base p xs a' e' ∧ w.grownBy w' (some p) := by
  have H := Lib.hid h
  have HR := Lib.hid hb
  have HM := Lib.hid hm
  clear h hb hm
  go_enter Try.func36, Try.ntmps36
  go_wp2_with fail
  refine (number_calls base p xs a e most w H.out HR.out HM.out).mono ?_
  rintro r w1 ⟨n, k, e', rfl, hp, h1, hg⟩
  have HP := Lib.hid hp
  have H1 := Lib.hid h1
  have HG := Lib.hid hg
  have hl := nmR_len hp h1.le
  have hs := h1.small
  obtain ⟨A, c, _, _, c0, c1, c2, cf⟩ := h1.cells
  have HL := Lib.hid hl
  clear hp h1 hg
  by_cases hk : 0 < k
  · have hd : decide ((0 : Int) < (k : Int)) = true := decide_eq_true (by omega)
    have hd' : decide (0 < k) = true := decide_eq_true hk
    have hsum : (a : Int) + (k : Int) ≤ 9223372036854775807 := by omega
    have HK := Lib.hid hk
    clear hl hs hk
    go_wp2_with fail
    go_ret
    refine ⟨n, a + k, e', rfl, ?_, set1' H1.out (a + k) HL.out _ (by omega), World.grownBy.trans HG.out (grown_set _ _ _ _)⟩
    have hk := HK.out
    rcases HP.out with ⟨_, _, h, _⟩ | ⟨h0, m, j, hp, h⟩
    · omega
    · rcases h with ⟨_, _, h, _⟩ | ⟨_, _, _, h, _⟩ | ⟨g1, g2, rfl, rfl, rfl⟩
      · omega
      · omega
      · exact .inr ⟨h0, n, k, hp, .inr (.inr ⟨g1, g2, rfl, rfl, rfl⟩)⟩
  · obtain rfl : k = 0 := by omega
    clear hl hs hk
    go_wp2_with fail
    go_ret
    refine ⟨n, a, e', rfl, ?_, H1.out, HG.out⟩
    rcases HP.out with ⟨g1, g2, g3, g4⟩ | ⟨h0, m, j, hp, h⟩
    · exact .inl ⟨g1, by rw [g2]; rfl, rfl, g4⟩
    · rcases h with ⟨g1, rfl, _, g4⟩ | ⟨g1, g2, rfl, _, g5⟩ | ⟨g1, _, _, g2, _⟩
      · exact .inr ⟨h0, m, j, hp, .inl ⟨g1, rfl, rfl, g4⟩⟩
      · exact .inr ⟨h0, m, j, hp, .inr (.inl ⟨g1, g2, rfl, rfl, g5⟩)⟩
      · omega
theorem clone_any (A : Option Addr) (n c : Nat) (xs : List Int) (w : World) (hc : n ≤ c) (hx : BK.C w A n xs) (hl : n ≤ 140737488355328) :
    Calls Try.prog 46 #[.slice A n c] w fun e w' => ∃ A' c', e = .returned (.slice A' xs.length c') ∧ Ow .u8 5 w' w.heap.size (.slice A' xs.length c') xs ∧ Below w.heap.size w w' := by
  obtain rfl : n = xs.length := hx.1.symm
  exact (clone_calls A c xs w hc hx hl).mono (fun e w' ⟨v, h1, h2, h3⟩ => by
    obtain ⟨A', c', rfl, h4, h5⟩ := h2.reads
    exact ⟨A', c', h1, h2, h3⟩)
set_option maxHeartbeats 1600000 in
theorem bytesR (base p : Nat) (xs : List Int) (a : Nat) (e most : Int) (w : World) (h : IsRd w base p xs a e) (hb : ∀ c ∈ xs, 0 ≤ c ∧ c < 256) (hm : -9223372036854775808 ≤ most ∧ most < 9223372036854775808) (hl : xs.length ≤ 140737488355328) :
    Calls Try.prog 33 #[.pointer (some ⟨p, 0, none⟩), .int .i64 most] w fun r w' => ∃ (A : Option Addr) (c : Nat) (ys : List Int) (a' : Nat) (e' : Int), r = .returned (.slice A ys.length c) ∧ Ow .u8 5 w' w.heap.size (.slice A ys.length c) ys ∧ RdB xs a e most ys a' e' ∧ IsRd w' base p xs a' e' ∧ w.grownBy w' (some p) := by
  have H := Lib.hid h
  have HR := Lib.hid hb
  have HM := Lib.hid hm
  have HLL := Lib.hid hl
  clear h hb hm hl
  go_enter Try.func33, Try.ntmps33
  go_wp2_with fail
  refine (number_calls base p xs a e most w H.out HR.out HM.out).mono ?_
  rintro r w1 ⟨n, k, e', rfl, hp, h1, hg⟩
  have HP := Lib.hid hp
  have H1 := Lib.hid h1
  have HG := Lib.hid hg
  by_cases hk : k = 0
  · subst hk
    clear hp h1 hg
    go_wp2_with fail
    go_ret
    refine ⟨none, 0, [], a, e', rfl, ow0 _ _, ?_, H1.out, HG.out⟩
    rcases HP.out with ⟨g1, g2, g3, g4⟩ | ⟨h0, m, j, hp, h⟩
    · exact .inl ⟨g1, rfl, rfl, g4⟩
    · rcases h with ⟨g1, rfl, _, g4⟩ | ⟨g1, g2, rfl, _, g5⟩ | ⟨g1, _, _, g2, _⟩
      · exact .inr ⟨h0, m, j, hp, .inl ⟨g1, rfl, rfl, g4⟩⟩
      · exact .inr ⟨h0, m, j, hp, .inr (.inl ⟨g1, g2, rfl, rfl, g5⟩)⟩
      · omega
  · have b1 : ((k : Int) == 0) = false := by rw [beq_eq_false_iff_ne]; omega
    have hq : e = 0 ∧ PkOk (xs.drop a) n k ∧ (n : Int) ≤ most ∧ e' = 0 := by
      rcases hp with ⟨_, _, h, _⟩ | ⟨h0, m, j, hp, h⟩
      · omega
      · rcases h with ⟨_, _, h, _⟩ | ⟨_, _, _, h, _⟩ | ⟨g1, g2, rfl, rfl, rfl⟩
        · omega
        · omega
        · exact ⟨h0, hp, g2, rfl⟩
    obtain ⟨rfl, hpk, hmo, rfl⟩ := hq
    have HPK := Lib.hid hpk
    have HMO := Lib.hid hmo
    have HK0 : Hid (0 < k) := Lib.hid (by omega)
    have ha := h1.le
    have hs := h1.small
    have hkl := nmR_len hp ha
    obtain ⟨A, c, _, _, c0, c1, c2, cf⟩ := h1.cells
    obtain ⟨z, hz⟩ : ∃ z : Int, z = ((xs.length - a : Nat) : Int) := ⟨_, rfl⟩
    have e1 : wrap64 z = z := by unfold wrap64; omega
    have e2 : ((xs.length : Int) - a) = z := by omega
    obtain ⟨y, hy⟩ : ∃ y : Int, y = ((xs.length - a - k : Nat) : Int) := ⟨_, rfl⟩
    have e3 : wrap64 y = y := by unfold wrap64; omega
    have e4 : z - (k : Int) = y := by omega
    by_cases hfew : xs.length < a + k + n
    · have hd : decide (y < (n : Int)) = true := decide_eq_true (by omega)
      have HF := Lib.hid hfew
      clear hp h1 hg hk hpk hmo hz hy hfew ha hs hkl
      go_wp2_with fail
      go_quiet (fail)
      go_wp2_with fail
      refine (fail_calls base p xs a 0 5 _ (H1.out.grown (pw_below_drewN (Below.refl _ _) _))).mono ?_
      rintro r w2 ⟨rfl, h2, hg⟩
      have H2 := Lib.hid h2
      have HG2 := Lib.hid (World.grownBy.trans (World.grownBy.trans HG.out (grown_none (pw_below_drewN (Below.refl _ _) _) p)) hg)
      clear h2 hg
      go_wp2_with fail
      go_ret
      exact ⟨none, 0, [], a, 5, rfl, ow0 _ _, .inr ⟨rfl, n, k, HPK.out, .inr (.inr (.inl ⟨HK0.out, HMO.out, HF.out, rfl, rfl, rfl⟩))⟩, H2.out, HG2.out⟩
    · have hd : decide (y < (n : Int)) = false := decide_eq_false (by omega)
      have HF := Lib.hid hfew
      have HKL := Lib.hid hkl
      have hsum : (a : Int) + (k : Int) ≤ 9223372036854775807 := by omega
      clear hp h1 hg hk hpk hmo hz hy hfew ha hs hkl
      go_wp2_with fail
      go_quiet (fail)
      go_wp2_with fail
      refine (take_ok base p xs (a + k) n _ (set1' (H1.out.grown (pw_below_drewN (Below.refl _ _) _)) (a + k) HKL.out _ (by omega)) (by have := HF.out; omega)).mono ?_
      rintro r w2 ⟨A2, c2', rfl, hc2, hC2, h2, hg⟩
      have H2 := Lib.hid h2
      have HG2 := Lib.hid (World.grownBy.trans (World.grownBy.trans (World.grownBy.trans HG.out (grown_none (pw_below_drewN (Below.refl _ _) _) p)) (grown_set _ _ _ _)) hg)
      clear h2 hg
      obtain ⟨ys, hys⟩ : ∃ ys, ys = (xs.drop (a + k)).take n := ⟨_, rfl⟩
      rw [← hys] at hC2
      have HY := Lib.hid hys
      clear hys
      have HC2 := Lib.hid hC2
      have hn : n ≤ 140737488355328 := by have := HF.out; have := HLL.out; omega
      clear hC2
      go_wp2_with fail
      refine (clone_any A2 n c2' _ w2 hc2 HC2.out hn).mono ?_
      rintro r w3 ⟨A3, c3, rfl, ho3, hb⟩
      have H3 := Lib.hid (H2.out.grown hb)
      have HG3 := Lib.hid (World.grownBy.trans HG2.out (grown_none hb p))
      have HO3 := Lib.hid (Ow.lower ho3 HG2.out.size)
      clear hb ho3 hn hc2
      go_wp2_with fail
      go_ret
      exact ⟨A3, c3, ys, a + k + n, 0, rfl, HO3.out, .inr ⟨rfl, n, k, HPK.out, .inr (.inr (.inr ⟨HK0.out, HMO.out, by have := HF.out; omega, HY.out, rfl, rfl⟩))⟩, H3.out, HG3.out⟩
end Go.Proofs.Ytdogkhbfpbdfpaa.WireU
