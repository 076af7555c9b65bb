import Derived.Test.YtdogkhbfpbdfpaaWireU
import Derived.Test.YtdogkhbfpbdfpaaWireX
import Derived.StillTailTactics
/- The document's reader: what its functions do. -/
namespace Go.Proofs.Ytdogkhbfpbdfpaa.WireQ
open Go.RowKit Go.Proofs.YtdogkhbfpbdfpaaW.PrintWords Go.Proofs.YtdogkhbfpbdfpaaW.PrintMore Mem WireP WireW WireV WireR WireS WireT WireU WireX
theorem C_in {w0 w : World} {A : Option Addr} {n : Nat} {xs : List Int} (h : BK.C w0 A n xs) (hb : Below w0.heap.size w0 w) : BK.C w A n xs := Kd.C_below h hb
theorem grown_of_keep {B : Nat} {w0 w w' : World} {g : Nat} (h1 : Below B w0 w) (h2 : Below B w0 w') (k : KeepBut w w' g none) : w.grownBy w' (some g) :=
  ⟨h2.os.trans h1.os.symm, h2.tape.trans h1.tape.symm, h2.output.trans h1.output.symm, k.1, fun i hi hne => k.2 i hi (fun e => hne (by rw [e])) (by simp)⟩
section
variable (g : Nat) (xs : List Int) (a : Nat) (e : Int) (w0 w : World)
theorem refUv (hI : IsS61 w0 w g xs a e) (hB : Below w0.heap.size w0 w) (hx : ∀ c ∈ xs, 0 ≤ c ∧ c < 256) (hs : xs.length ≤ 9223372036854775807) (ha : a ≤ xs.length) :
    Calls Try.prog 54 #[.pointer (some ⟨g, 0, none⟩)] w fun r w' => ∃ (n a' : Nat) (e' : Int), r = .returned (.int .u64 n) ∧ Rd1 xs a e n a' e' ∧ IsS61 w0 w' g xs a' e' ∧ Below w0.heap.size w0 w' ∧ w.grownBy w' (some g) := by
  obtain ⟨K, n, a', e', h1, h2⟩ := ruv xs hx hs a ha e
  exact (mooringref05_ReadUvarint.calls K g xs a e n a' e' w0 w hI hB h1).mono (fun r w' ⟨k1, k2, k3, k4⟩ => ⟨n, a', e', k1, h2, k2, k3, grown_of_keep hB k3 k4⟩)
theorem refVr (hI : IsS61 w0 w g xs a e) (hB : Below w0.heap.size w0 w) (hx : ∀ c ∈ xs, 0 ≤ c ∧ c < 256) (hs : xs.length ≤ 9223372036854775807) (ha : a ≤ xs.length) :
    Calls Try.prog 55 #[.pointer (some ⟨g, 0, none⟩)] w fun r w' => ∃ (n a' : Nat) (e' : Int), r = .returned (.int .i64 (unzig n)) ∧ Rd1 xs a e n a' e' ∧ IsS61 w0 w' g xs a' e' ∧ Below w0.heap.size w0 w' ∧ w.grownBy w' (some g) := by
  obtain ⟨K, n, a', e', h1, h2⟩ := rvr xs hx hs a ha e
  exact (mooringref05_ReadVarint.calls K g xs a e (unzig n) a' e' w0 w hI hB h1).mono (fun r w' ⟨k1, k2, k3, k4⟩ => ⟨n, a', e', k1, h2, k2, k3, grown_of_keep hB k3 k4⟩)
theorem refFx (k : Nat) (hk : k ≤ 8) (h0 : 0 < k) (hI : IsS61 w0 w g xs a e) (hB : Below w0.heap.size w0 w) (hx : ∀ c ∈ xs, 0 ≤ c ∧ c < 256) (hs : xs.length ≤ 9223372036854775807) (ha : a ≤ xs.length) :
    Calls Try.prog 56 #[.pointer (some ⟨g, 0, none⟩), .int .i64 (k : Int)] w fun r w' => ∃ (n : Int) (a' : Nat) (e' : Int), r = .returned (.int .u64 n) ∧ RdF xs a e k n a' e' ∧ IsS61 w0 w' g xs a' e' ∧ Below w0.heap.size w0 w' ∧ w.grownBy w' (some g) := by
  obtain ⟨K, a', n, e', h1, h2⟩ := rfx xs hx hs a ha e k hk h0
  exact (mooringref05_ReadFixed.calls K g xs a e k n a' e' w0 w hI hB h1).mono (fun r w' ⟨k1, k2, k3, k4⟩ => ⟨n, a', e', k1, h2, k2, k3, grown_of_keep hB k3 k4⟩)
theorem refNm (most : Int) (hm : -9223372036854775808 ≤ most ∧ most < 9223372036854775808) (hI : IsS61 w0 w g xs a e) (hB : Below w0.heap.size w0 w) (hx : ∀ c ∈ xs, 0 ≤ c ∧ c < 256) (hs : xs.length ≤ 9223372036854775807) (ha : a ≤ xs.length) :
    Calls Try.prog 57 #[.pointer (some ⟨g, 0, none⟩), .int .i64 most] w fun r w' => ∃ (n : Int) (a' : Nat) (e' : Int), r = .returned (.int .i64 n) ∧ RdN xs a e most n a' e' ∧ IsS61 w0 w' g xs a' e' ∧ Below w0.heap.size w0 w' ∧ w.grownBy w' (some g) := by
  obtain ⟨K, a', n, e', h1, h2⟩ := rnm xs hx hs a ha e most hm
  exact (mooringref05_ReadNumber.calls K g xs a e most n a' e' w0 w hI hB h1).mono (fun r w' ⟨k1, k2, k3, k4⟩ => ⟨n, a', e', k1, h2, k2, k3, grown_of_keep hB k3 k4⟩)
theorem refDone (hI : IsS61 w0 w g xs a e) :
    Calls Try.prog 59 #[.pointer (some ⟨g, 0, none⟩)] w fun r w' => r = .returned (.int .i64 (if e = 0 then (if a < xs.length then 5 else 0) else e)) ∧ ∃ m, w' = w.drewN m := by
  obtain ⟨A, c, hb, hg, hC, _⟩ := hI
  have c0 := cellS61_0 hb
  have c1 := cellS61_1 hb
  have c2 := cellS61_2 hb
  clear hb hg hC
  by_cases he : e = 0
  · subst he
    rw [if_pos rfl]
    by_cases hl : a < xs.length
    · rw [if_pos hl]
      have h1 : decide (a < xs.length) = true := decide_eq_true hl
      have h2 : decide ((a : Int) < (xs.length : Int)) = true := decide_eq_true (by omega)
      clear hl
      go_enter Try.func59, Try.ntmps59
      go_wp2_with fail
      try (go_quiet (fail))
      go_wp2_with fail
      go_ret
      exact ⟨rfl, _, rfl⟩
    · rw [if_neg hl]
      have h1 : decide (a < xs.length) = false := decide_eq_false hl
      have h2 : decide ((a : Int) < (xs.length : Int)) = false := decide_eq_false (by omega)
      clear hl
      go_enter Try.func59, Try.ntmps59
      go_wp2_with fail
      try (go_quiet (fail))
      go_wp2_with fail
      go_ret
      exact ⟨rfl, _, rfl⟩
  · rw [if_neg he]
    have h1 : (e == 0) = false := beq_eq_false_iff_ne.2 he
    clear he
    go_enter Try.func59, Try.ntmps59
    go_wp2_with fail
    try (go_quiet (fail))
    go_wp2_with fail
    go_ret
    exact ⟨rfl, _, rfl⟩
set_option maxHeartbeats 1600000 in
theorem refBy (most : Int) (hm : -9223372036854775808 ≤ most ∧ most < 9223372036854775808) (hI : IsS61 w0 w g xs a e) (hB : Below w0.heap.size w0 w) (hx : ∀ c ∈ xs, 0 ≤ c ∧ c < 256) (hs : xs.length ≤ 140737488355328) (ha : a ≤ xs.length) :
    Calls Try.prog 58 #[.pointer (some ⟨g, 0, none⟩), .int .i64 most] w fun r w' => ∃ (A : Option Addr) (c : Nat) (ys : List Int) (a' : Nat) (e' : Int), r = .returned (.slice A ys.length c) ∧ ys.length ≤ c ∧ BK.C w' A ys.length ys ∧ RdB xs a e most ys a' e' ∧ IsS61 w0 w' g xs a' e' ∧ Below w0.heap.size w0 w' ∧ w.grownBy w' (some g) := by
  have HX := Lib.hid hx
  have HM := Lib.hid hm
  have HS := Lib.hid hs
  have HI := Lib.hid hI
  obtain ⟨A, c, hb, hg, hC, hc⟩ := hI
  have c1 := cellS61_1 hb
  have HGE := Lib.hid hg
  have HBB := Lib.hid hB
  clear hb hg hC hc hx hm hs hB
  go_enter Try.func58, Try.ntmps58
  go_wp2_with fail
  refine (refNm g xs a e w0 w most HM.out HI.out HBB.out HX.out (by have := HS.out; omega) ha).mono ?_
  rintro r w1 ⟨n, a', e', rfl, hp, hI, hB, hgr⟩
  clear c1
  have HP := Lib.hid hp
  have HI1 := Lib.hid hI
  have HB1 := Lib.hid hB
  have HG := Lib.hid hgr
  obtain ⟨A, c, hb, _, hC, hc⟩ := hI
  have c0 := cellS61_0 hb
  have c1 := cellS61_1 hb
  have c2 := cellS61_2 hb
  have cf := blk_frozen hb
  have HC := Lib.hid hC
  clear hb hC hB hgr
  by_cases he : e' = 0
  · subst he
    have hq : e = 0 ∧ ∃ m k : Nat, n = (m : Int) ∧ PkOk (xs.drop a) m k ∧ 0 < k ∧ (m : Int) ≤ most ∧ a' = a + k := by
      rcases hp with ⟨h1, _, _, h2⟩ | ⟨h0, m, k, hp, h⟩
      · exact absurd h2.symm h1
      · rcases h with ⟨_, _, _, h⟩ | ⟨_, _, _, _, h⟩ | ⟨g1, g2, rfl, rfl, _⟩
        · omega
        · omega
        · exact ⟨h0, m, k, rfl, hp, g1, g2, rfl⟩
    obtain ⟨rfl, m, k, rfl, hpk, hk, hmo, rfl⟩ := hq
    have hkl := pk_len hpk
    rw [List.length_drop] at hkl
    have HQ := Lib.hid (And.intro hpk (And.intro hk hmo))
    obtain ⟨z, hz⟩ : ∃ z : Int, z = ((xs.length - (a + k) : Nat) : Int) := ⟨_, rfl⟩
    have hsl := HS.out
    have e1 : wrap64 z = z := by unfold wrap64; omega
    have e2 : ((xs.length : Int) - ((a : Int) + (k : Int))) = z := by omega
    by_cases hfew : xs.length < a + k + m
    · have hd : decide (z < (m : Int)) = true := decide_eq_true (by omega)
      have HF := Lib.hid hfew
      clear hp hkl hpk hk hmo hz hfew hsl
      go_wp2_with fail
      go_quiet (fail)
      go_wp2_with fail
      refine (mooringref05_wrong.calls g xs _ 0 5 a a 5 w0 _ (HI1.out.drewN _) (pw_below_drewN HB1.out _) (wrong_yes _ _ _ _)).mono ?_
      rintro r w2 ⟨rfl, hI, hB, hk⟩
      have HI2 := Lib.hid hI
      have HB2 := Lib.hid hB
      have HG2 := Lib.hid (World.grownBy.trans (World.grownBy.trans HG.out (grown_none (pw_below_drewN (Below.refl _ _) _) g)) (grown_of_keep (pw_below_drewN HB1.out _) hB hk))
      clear hI hB hk
      go_wp2_with fail
      go_ret
      exact ⟨none, 0, [], a, 5, rfl, Nat.le_refl _, Kd.C_nil _ _, .inr ⟨rfl, m, k, HQ.out.1, .inr (.inr (.inl ⟨HQ.out.2.1, HQ.out.2.2, HF.out, rfl, rfl, rfl⟩))⟩, HI2.out, HB2.out, HG2.out⟩
    · have hd : decide (z < (m : Int)) = false := decide_eq_false (by omega)
      have hsum : (a : Int) + (k : Int) + (m : Int) ≤ 9223372036854775807 := by omega
      have hsum0 : 0 ≤ (a : Int) + (k : Int) + (m : Int) := by omega
      have e6 : IntKind.i64.wrap ((a : Int) + (k : Int) + (m : Int)) = (a : Int) + (k : Int) + (m : Int) := by rw [Go.IntKind.wrap_i64]; omega
      obtain ⟨A', hcut, hC'⟩ := cut_two A c xs (a + k) m (by omega) hc
      rw [show ((a + k : Nat) : Int) = (a : Int) + (k : Int) by omega] at hcut
      have HC' := Lib.hid hC'
      have HF := Lib.hid hfew
      clear hp hkl hpk hk hmo hz hfew hsl hc hC'
      go_wp2_with fail
      go_quiet (fail)
      rename_i nq
      go_wp2_with fail
      obtain ⟨w3, hw3⟩ : ∃ w3, w3 = w1.drewN nq := ⟨_, rfl⟩
      rw [← hw3]
      have c0' : w3.cell? ⟨g, 0, none⟩ = some (.slice A xs.length c) := by rw [hw3]; exact c0
      have c1' : w3.cell? ⟨g, 1, none⟩ = some (.int .i64 ((a : Int) + (k : Int))) := by rw [hw3]; exact c1
      have HI3 : Hid (IsS61 w0 w3 g xs ((a : Int) + (k : Int)) 0) := Lib.hid (by rw [hw3]; exact HI1.out.drewN nq)
      have HB3 : Hid (Below w0.heap.size w0 w3) := Lib.hid (by rw [hw3]; exact pw_below_drewN HB1.out nq)
      have HG3 : Hid (w.grownBy w3 (some g)) := Lib.hid (by rw [hw3]; exact World.grownBy.trans HG.out (grown_none (pw_below_drewN (Below.refl _ _) _) g))
      clear hw3 c0 c1 c2 cf
      go_still_tail 16, (by kernel_rfl)
      change wpList _ _ _ _ _ w3.drew
      obtain ⟨w4, hw4⟩ : ∃ w4, w4 = w3.drew := ⟨_, rfl⟩
      rw [← hw4]
      have HI4 : Hid (IsS61 w0 w4 g xs ((a : Int) + (k : Int)) 0) := Lib.hid (by rw [hw4]; exact HI3.out.drew)
      have HB4 : Hid (Below w0.heap.size w0 w4) := Lib.hid (by rw [hw4]; exact below_drew HB3.out)
      have HG4 : Hid (w.grownBy w4 (some g)) := Lib.hid (by rw [hw4]; exact World.grownBy.trans HG3.out (grown_none (below_drew (Below.refl _ _)) g))
      have HC4 : Hid (BK.C w4 A' m ((xs.drop (a + k)).take m)) := Lib.hid (HC'.out _ (C_in HC.out HB4.out))
      clear hw4 c0' c1'
      have HO := Lib.hid (ow0 w4 w4.heap.size)
      have HBB := Lib.hid (Below.refl w4.heap.size w4)
      obtain ⟨ys, hys⟩ : ∃ ys, ys = (xs.drop (a + k)).take m := ⟨_, rfl⟩
      rw [← hys] at HC4
      have hym : ys.length = m := by rw [hys, List.length_take, List.length_drop]; have := HF.out; omega
      have HYM := Lib.hid hym
      have HY := Lib.hid hys
      clear hys hym
      go_wp2_with (at_builtin; go_must (refine Kd.R_append_rows BK (w0 := w4) w4.heap.size rfl _ _ 22 5 (.int .u8 0) 1 rfl Try.underlying22 info5 rfl (by decide) (by decide) _ [] ys _ _ _ (fun _ => True) (fun _ => False) rfl rfl (by exact HO.out) (by exact HC4.out) (fun y cs hk => hk) (fun _ hk => hk.elim) (fun _ _ => trivial) (by exact HBB.out) (by exact HBB.out.size) ?hl ?_; (case hl => have := HS.out; have := HF.out; simp; omega)); intro v1 w5 ho hb hg hg2; rw [List.nil_append] at ho; clear HBB hg hg2 HO; have HR6 := Lib.hid ho; obtain ⟨A6, c6, rfl, hc6, hC6⟩ := Ow.reads (k := .u8) ho; have HC6 := Lib.hid hC6; have HCC6 := Lib.hid hc6; clear hC6 hc6; have HB5 := Lib.hid hb; have HI5 := Lib.hid (HI4.out.below hb); obtain ⟨A5, c5, hb5, _⟩ := HI5.out; have c1 := cellS61_1 hb5; have cf := blk_frozen hb5; clear ho hb hb5)
      go_wp2_with fail
      go_ret
      refine ⟨A6, c6, ys, a + k + m, 0, rfl, HCC6.out, ?_, .inr ⟨rfl, m, k, HQ.out.1, .inr (.inr (.inr ⟨HQ.out.2.1, HQ.out.2.2, by have := HF.out; omega, HY.out, rfl, rfl⟩))⟩, ?_, ?_, ?_⟩
      · exact (Kd.R_reads' (Kd.R_far (Kd.R_mono (Kd.R_bound HR6.out) (ok' := fun k => k ≠ g) (fun k hk => by have := HI4.out.lt; have := hk.2.1; omega)) (fun k hk => hk) _)).2.2
      · rw [show ((a + k + m : Nat) : Int) = (a : Int) + (k : Int) + (m : Int) by omega]
        exact HI5.out.set_1 _
      · exact below_set (below_then HB4.out HB4.out.size HB5.out) HGE.out
      · exact World.grownBy.trans (World.grownBy.trans HG4.out (grown_none HB5.out g)) (grown_set _ _ _ _)
  · have h1 : (e' == 0) = false := beq_eq_false_iff_ne.2 he
    have h2 : (e' != 0) = true := bne_iff_ne.2 he
    have HE := Lib.hid he
    clear hp he hc
    go_wp2_with fail
    go_ret
    refine ⟨none, 0, [], a', e', rfl, Nat.le_refl _, Kd.C_nil _ _, ?_, HI1.out, HB1.out, HG.out⟩
    have he := HE.out
    rcases HP.out with ⟨g1, g2, g3, g4⟩ | ⟨h0, m, j, hp, h⟩
    · exact .inl ⟨g1, rfl, g3, g4⟩
    · rcases h with ⟨g1, _, g3, g4⟩ | ⟨g1, g2, _, g4, g5⟩ | ⟨g1, _, _, _, g2⟩
      · exact .inr ⟨h0, m, j, hp, .inl ⟨g1, rfl, g3, g4⟩⟩
      · exact .inr ⟨h0, m, j, hp, .inr (.inl ⟨g1, g2, rfl, g4, g5⟩)⟩
      · exact absurd g2 he
end
end Go.Proofs.Ytdogkhbfpbdfpaa.WireQ
