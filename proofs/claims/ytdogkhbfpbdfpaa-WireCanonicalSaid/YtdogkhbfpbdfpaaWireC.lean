import Derived.Test.YtdogkhbfpbdfpaaWireY
import Derived.Test.YtdogkhbfpbdfpaaWireZ
import Derived.Deep.RegionWith
import Derived.Deep.RegionLaw
import Derived.Deep.Cut
import Derived.Deep.DeepCutAuto
/- No number has two forms. -/
namespace Go.Proofs.Ytdogkhbfpbdfpaa.WireC
open Go.RowKit Go.Proofs.YtdogkhbfpbdfpaaW.PrintWords Mem WireP WireW WireV WireR WireY
theorem cut_to' (A : Option Addr) (c : Nat) (xs : List Int) (m : Nat) (hm : m ≤ xs.length) (hc : xs.length ≤ c) : ∀ W : World, (Instr.slice 22 (.slice A xs.length c) none (some (.int .i64 (m : Int))) none).run Try.prog W = .ok (.slice A m c) W := by
  obtain ⟨i, hi, hz⟩ := info5'
  intro W
  have := cut_to (P := Try.prog) 22 5 .i64 Try.underlying22 hi A xs.length c (m : Int) (by omega) (by omega) hc W
  simpa using this
theorem nil_uv (n : Nat) (hn : n < 18446744073709551616) (W : World) : Calls Try.prog 28 #[.slice none 0 0, .int .u64 n] W fun e w' => ∃ A c, e = .returned (.slice A (uv n).length c) ∧ (uv n).length ≤ c ∧ BK.C w' A (uv n).length (uv n) ∧ Below W.heap.size W w' :=
  (uvarint_calls none 0 [] n W (Nat.le_refl _) (Kd.C_nil _ _) (by omega) (by decide)).mono (fun e w' ⟨v, h1, h2, h3⟩ => by
    rw [List.nil_append, show ((n : Int)).toNat = n by omega] at h2
    obtain ⟨A, c, rfl, hc, hC⟩ := h2.reads
    exact ⟨A, c, h1, hc, hC, h3⟩)
theorem nil_vr (n : Nat) (hn : n < 18446744073709551616) (W : World) : Calls Try.prog 30 #[.slice none 0 0, .int .i64 (unzig n)] W fun e w' => ∃ A c, e = .returned (.slice A (uv n).length c) ∧ (uv n).length ≤ c ∧ BK.C w' A (uv n).length (uv n) ∧ Below W.heap.size W w' :=
  (varint_calls none 0 [] (unzig n) W (Nat.le_refl _) (Kd.C_nil _ _) (by unfold unzig; split <;> omega) (by decide)).mono (fun e w' ⟨v, h1, h2, h3⟩ => by
    rw [List.nil_append, zig_unzig] at h2
    obtain ⟨A, c, rfl, hc, hC⟩ := h2.reads
    exact ⟨A, c, h1, hc, hC, h3⟩)
theorem take_C {w : World} {A : Option Addr} {xs ys : List Int} (h : BK.C w A xs.length xs) (hp : ys <+: xs) : BK.C w A ys.length ys := by
  have h2 := Kd.C_take h hp.length_le
  rwa [← List.prefix_iff_eq_take.1 hp] at h2
set_option maxHeartbeats 6400000 in
theorem lawCanonical (A : Option Addr) (c : Nat) (xs : List Int) (w : World) (hc : xs.length ≤ c) (hx : BK.C w A xs.length xs) (hb : ∀ c ∈ xs, 0 ≤ c ∧ c < 256) (hl : xs.length ≤ 140737488355328) :
    Calls Try.prog 8 #[.slice A xs.length c] w fun e w' => e = .returned (.bool true) ∧ Below w.heap.size w w' := by
  have HC := Lib.hid hx
  have HR := Lib.hid hb
  have HL := Lib.hid hl
  have HCX := Lib.hid hc
  clear hx hb hl hc
  go_enter Try.func8, Try.ntmps8
  go_wp2_with fail
  refine (read_calls A c xs w HCX.out HC.out HL.out).mono ?_
  rintro r w1 ⟨p, rfl, h1, hb⟩
  have H1 := Lib.hid h1
  have HB1 := Lib.hid hb
  clear h1 hb
  go_wp2_with fail
  refine (uvarintR_calls _ p xs 0 0 w1 H1.out HR.out).mono ?_
  rintro r w2 ⟨n, a', e', rfl, h1, h2, h3⟩
  obtain ⟨ys, hp, hys, hnn, he⟩ : ∃ ys : List Int, PkOk xs n ys.length ∧ ys <+: xs ∧ a' = ys.length ∧ e' = (if ys.length = 0 then 5 else 0) ∧ (ys.length ≠ 0 → ys = uv n) := by
    rcases h1 with ⟨h, _⟩ | ⟨_, k, h, h4, h5⟩
    · exact absurd rfl h
    · have h : PkOk xs n k := h
      rcases h with ⟨g1, g2, g3, g4⟩ | ⟨rfl, rfl, g3⟩
      · exact ⟨uv n, .inl ⟨by rw [← g4]; exact g1, g2, g3, rfl⟩, g3, by omega, by rw [← g4]; exact h5, fun _ => rfl⟩
      · exact ⟨[], .inr ⟨rfl, rfl, g3⟩, List.nil_prefix, by rw [h4]; rfl, h5, fun h => absurd rfl h⟩
  obtain ⟨he, hyu⟩ := he
  subst hnn
  have H2 := Lib.hid h2
  have HB2 := Lib.hid (HB1.out.grown h3 HB1.out.size (fun k hk => by injection hk with hk; obtain ⟨_, _, _, _, hh, _⟩ := h2; omega))
  have HP := Lib.hid hp
  have HE := Lib.hid he
  have HYU := Lib.hid hyu
  have hkl := hys.length_le
  have HCC : Hid (ys.length ≤ c) := Lib.hid (by have := HCX.out; omega)
  have HKy : Hid (BK.C w A ys.length ys) := Lib.hid (take_C HC.out hys)
  have hcutk := cut_to' A c xs ys.length hkl HCX.out
  obtain ⟨z, hz⟩ : ∃ z : Int, z = ((xs.length - ys.length : Nat) : Int) := ⟨_, rfl⟩
  have hs := h2.small
  have e1 : wrap64 ((xs.length : Int) - z) = (ys.length : Int) := by unfold wrap64; omega
  have e3 : wrap64 (ys.length : Int) = (ys.length : Int) := by unfold wrap64; omega
  have HZ := Lib.hid hz
  have hnlt := pk_lt hp
  have TU : Hid (∀ W, Calls Try.prog 28 #[.slice none 0 0, .int .u64 n] W fun e w' => ys.length ≠ 0 → ∃ A1 c1, e = .returned (.slice A1 ys.length c1) ∧ ys.length ≤ c1 ∧ BK.C w' A1 ys.length ys ∧ Below W.heap.size W w') :=
    Lib.hid (fun W => (nil_uv n hnlt W).mono (fun e w' ⟨A1, c1, k1, k2, k3, k4⟩ h0 => by rw [hyu h0]; exact ⟨A1, c1, k1, k2, k3, k4⟩))
  have TV : Hid (∀ W, Calls Try.prog 30 #[.slice none 0 0, .int .i64 (unzig n)] W fun e w' => ys.length ≠ 0 → ∃ A1 c1, e = .returned (.slice A1 ys.length c1) ∧ ys.length ≤ c1 ∧ BK.C w' A1 ys.length ys ∧ Below W.heap.size W w') :=
    Lib.hid (fun W => (nil_vr n hnlt W).mono (fun e w' ⟨A1, c1, k1, k2, k3, k4⟩ h0 => by rw [hyu h0]; exact ⟨A1, c1, k1, k2, k3, k4⟩))
  clear h1 h2 h3 hp H1 hz hs hys hyu he hnlt
  go_wp2_with fail
  refine (left_calls _ p xs ys.length e' w2 H2.out).mono ?_
  rw [← HZ.out]
  rintro r w3 ⟨rfl, hb⟩
  have H3 := Lib.hid (H2.out.grown hb)
  have HB3 := Lib.hid (below_then HB2.out HB2.out.size hb)
  clear hb H2 HB2
  have TE : Hid (∀ W, Below w3.heap.size w3 W → Calls Try.prog 27 #[.pointer (some ⟨p, 0, none⟩)] W (fun r w' => r = .returned (.int .i64 e') ∧ W = w')) := Lib.hid (fun W hW => err_calls _ p xs _ _ W (H3.out.grown hW))
  have HW := Lib.hid (Below.refl w3.heap.size w3)
  go_upto_region 6 with fail
  try rw [e1]
  try rw [e3]
  go_cut [30] (fun b wx => b = .bool false ∧ Hid (Below w3.heap.size w3 wx))
  case first =>
      by_cases hk : ys.length = 0
      · obtain rfl : e' = 5 := by rw [HE.out, if_pos hk]
        clear hk
        first | go_region_law (go_simp; go_wp2_with (go_at_call 27; refine (TE.out _ (by first | exact HW.out | exact below_drew HW.out | exact pw_below_drewN HW.out _)).mono ?_; rintro r w4 ⟨rfl, rfl⟩)) | fail
        all_goals (go_wp2_with fail; (first | go_meet | (go_simp; go_meet) | (simp [Act.put]; go_meet)); exact ⟨rfl, Lib.hid (by first | exact HW.out | exact below_drew HW.out | exact pw_below_drewN HW.out _)⟩)
      · obtain rfl : e' = 0 := by rw [HE.out, if_neg hk]
        have HCK : Hid (BK.C w3 A ys.length ys) := Lib.hid (Kd.C_below HKy.out HB3.out)
        have HNZ := Lib.hid hk
        clear hk
        go_region_law (go_simp; go_wp2_with (first
          | (go_at_call 27; go_must (refine (TE.out _ (by first | exact HW.out | exact below_drew HW.out | exact pw_below_drewN HW.out _)).mono ?_; rintro r w4 ⟨rfl, rfl⟩))
          | (go_at_call 28; go_must (refine (TU.out _).mono ?_; rintro r w4 hh; obtain ⟨A1, c1, rfl, hc1, hC1, hb⟩ := hh HNZ.out; clear hh; have HV := Lib.hid (And.intro hc1 hC1); have hB := Lib.hid (below_then (by first | exact HW.out | exact below_drew HW.out | exact pw_below_drewN HW.out _) (by exact HW.out.size) hb); clear hb hc1 hC1 HW; have HW := hB; clear hB))
          | (go_at_call 13; go_must (refine (same_yes _ _ _ _ ys _ (by exact HV.out.1) (by first | exact HV.out.2 | exact Kd.C_below HV.out.2 (below_drew (Below.refl _ _)) | exact Kd.C_below HV.out.2 (pw_below_drewN (Below.refl _ _) _)) (by exact HCC.out) (by exact Kd.C_below HCK.out (by first | exact HW.out | exact below_drew HW.out | exact pw_below_drewN HW.out _))).mono ?_; rintro r w4 ⟨rfl, hb⟩; have hB := Lib.hid (below_then (by first | exact HW.out | exact below_drew HW.out | exact pw_below_drewN HW.out _) (by exact HW.out.size) hb); clear hb HW HV; have HW := hB; clear hB))))
        all_goals (go_wp2_with fail; (first | go_meet | (go_simp; go_meet) | (simp [Act.put]; go_meet)); exact ⟨rfl, Lib.hid (by first | exact HW.out | exact below_drew HW.out | exact pw_below_drewN HW.out _)⟩)
  case rest =>
  obtain ⟨rfl, HWB⟩ := hcut
  go_wp2_with fail
  refine (read_calls A c xs _ HCX.out (Kd.C_below HC.out (below_then HB3.out HB3.out.size HWB.out)) HL.out).mono ?_
  rintro r w5 ⟨q, rfl, h1, hb⟩
  have HW5 := Lib.hid (below_then HWB.out HWB.out.size hb)
  have H5 := Lib.hid (h1.lower HWB.out.size)
  clear h1 hb HW
  go_wp2_with fail
  refine (varintR_calls _ q xs 0 0 w5 H5.out HR.out).mono ?_
  rintro r w6 ⟨n2, b', e2', rfl, h1, h2, h3⟩
  obtain ⟨rfl, rfl, rfl⟩ : n = n2 ∧ ys.length = b' ∧ e' = e2' := by
    rcases h1 with ⟨h, _⟩ | ⟨_, j, h, h4, h5⟩
    · exact absurd rfl h
    · obtain ⟨g1, g2⟩ := pk_unique h HP.out
      exact ⟨g1.symm, by omega, by rw [h5, g2, HE.out]⟩
  have H6 := Lib.hid h2
  have HW6 := Lib.hid (HW5.out.grown h3 HW5.out.size (fun k hk => by injection hk with hk; obtain ⟨_, _, _, _, hh, _⟩ := h2; omega))
  clear h1 h2 h3 H5 HW5
  go_wp2_with fail
  refine (left_calls _ q xs _ _ w6 H6.out).mono ?_
  rw [← HZ.out]
  rintro r w7 ⟨rfl, hb⟩
  have H7 := Lib.hid (H6.out.grown hb)
  have HW7 := Lib.hid (below_then HW6.out HW6.out.size hb)
  have HB7 := Lib.hid (below_then HB3.out HB3.out.size HW7.out)
  clear hb H6 HW6
  have TQ : Hid (∀ W, Below w7.heap.size w7 W → Calls Try.prog 27 #[.pointer (some ⟨q, 0, none⟩)] W (fun r w' => r = .returned (.int .i64 e') ∧ W = w')) := Lib.hid (fun W hW => err_calls _ q xs _ _ W (H7.out.grown hW))
  have HW := Lib.hid (Below.refl w7.heap.size w7)
  go_upto_region 11 with fail
  try rw [e1]
  try rw [e3]
  go_cut [51] (fun b wx => b = .bool false ∧ Hid (Below w7.heap.size w7 wx))
  case first =>
      by_cases hk : ys.length = 0
      · obtain rfl : e' = 5 := by rw [HE.out, if_pos hk]
        clear hk
        first | go_region_law (go_simp; go_wp2_with (go_at_call 27; refine (TQ.out _ (by first | exact HW.out | exact below_drew HW.out | exact pw_below_drewN HW.out _)).mono ?_; rintro r w4 ⟨rfl, rfl⟩)) | fail
        all_goals (go_wp2_with fail; (first | go_meet | (go_simp; go_meet) | (simp [Act.put]; go_meet)); exact ⟨rfl, Lib.hid (by first | exact HW.out | exact below_drew HW.out | exact pw_below_drewN HW.out _)⟩)
      · obtain rfl : e' = 0 := by rw [HE.out, if_neg hk]
        have HCK : Hid (BK.C w7 A ys.length ys) := Lib.hid (Kd.C_below HKy.out HB7.out)
        have HNZ := Lib.hid hk
        clear hk
        go_region_law (go_simp; go_wp2_with (first
          | (go_at_call 27; go_must (refine (TQ.out _ (by first | exact HW.out | exact below_drew HW.out | exact pw_below_drewN HW.out _)).mono ?_; rintro r w4 ⟨rfl, rfl⟩))
          | (go_at_call 30; go_must (refine (TV.out _).mono ?_; rintro r w4 hh; obtain ⟨A1, c1, rfl, hc1, hC1, hb⟩ := hh HNZ.out; clear hh; have HV := Lib.hid (And.intro hc1 hC1); have hB := Lib.hid (below_then (by first | exact HW.out | exact below_drew HW.out | exact pw_below_drewN HW.out _) (by exact HW.out.size) hb); clear hb hc1 hC1 HW; have HW := hB; clear hB))
          | (go_at_call 13; go_must (refine (same_yes _ _ _ _ ys _ (by exact HV.out.1) (by first | exact HV.out.2 | exact Kd.C_below HV.out.2 (below_drew (Below.refl _ _)) | exact Kd.C_below HV.out.2 (pw_below_drewN (Below.refl _ _) _)) (by exact HCC.out) (by exact Kd.C_below HCK.out (by first | exact HW.out | exact below_drew HW.out | exact pw_below_drewN HW.out _))).mono ?_; rintro r w4 ⟨rfl, hb⟩; have hB := Lib.hid (below_then (by first | exact HW.out | exact below_drew HW.out | exact pw_below_drewN HW.out _) (by exact HW.out.size) hb); clear hb HW HV; have HW := hB; clear hB))))
        all_goals (go_wp2_with fail; (first | go_meet | (go_simp; go_meet) | (simp [Act.put]; go_meet)); exact ⟨rfl, Lib.hid (by first | exact HW.out | exact below_drew HW.out | exact pw_below_drewN HW.out _)⟩)
  case rest =>
  obtain ⟨rfl, HWD⟩ := hcut
  clear HWB
  go_wp2_with fail
  refine (TQ.out _ HWD.out).mono ?_
  rintro r w8 ⟨rfl, rfl⟩
  go_wp2_with fail
  refine (TE.out _ (below_then HW7.out HW7.out.size HWD.out)).mono ?_
  rintro r w8 ⟨rfl, rfl⟩
  go_wp2_with fail
  refine (awake_calls _).mono ?_
  rintro r w9 ⟨rfl, hb⟩
  have HB9 := Lib.hid (below_then (below_then HB7.out HB7.out.size HWD.out) (below_then HB7.out HB7.out.size HWD.out).size hb)
  clear hb
  go_wp2_with fail
  go_ret
  exact ⟨rfl, HB9.out⟩
theorem walkCanonical (A : Option Addr) (c : Nat) (xs : List Int) (w : World) (hcap : xs.length ≤ c) (hc : BK.C w A xs.length xs) (hg : (∀ x ∈ xs, (Lit.int .u8 x).wf = true) ∧ xs.length * 1 ≤ reachBytes) :
    Calls Try.prog 8 #[.slice A xs.length c] w fun e w' => e = .returned (.bool true) ∧ Below w.heap.size w w' := by
  refine lawCanonical A c xs w hcap hc (fun x hx => WireZ.wf_u8 (hg.1 x hx)) ?_
  have := hg.2
  simp only [reachBytes] at this
  omega
end Go.Proofs.Ytdogkhbfpbdfpaa.WireC
