import Derived.Test.YtdogkhbfpbdfpaaWireM
import Derived.Test.YtdogkhbfpbdfpaaWireZ
import Derived.Deep.Cut
import Derived.Deep.DeepCutAuto
/- What was written is read back. -/
namespace Go.Proofs.Ytdogkhbfpbdfpaa.WireB
open Go.RowKit Go.Proofs.YtdogkhbfpbdfpaaW.PrintWords Go.Proofs.YtdogkhbfpbdfpaaW.PrintMore Mem WireP WireW WireV WireR WireS WireT WireU WireY WireK WireL WireM WireZ Opns
theorem uv_range : ∀ (n : Nat), ∀ c ∈ uv n, 0 ≤ c ∧ c < 256 := by
  intro n
  induction n using Nat.strongRecOn with
  | ind n ih =>
    intro c hc
    rcases Nat.lt_or_ge n 128 with h | h
    · rw [uv_lt h] at hc
      have := List.mem_singleton.1 hc
      omega
    · rw [uv_ge h] at hc
      rcases List.mem_cons.1 hc with rfl | hc
      · omega
      · exact ih (n / 128) (by omega) c hc
theorem fx_range (k : Nat) : ∀ (n : Int), ∀ c ∈ fx n k, 0 ≤ c ∧ c < 256 := by
  induction k with
  | zero => intro n c hc; cases hc
  | succ k ih =>
    intro n c hc
    rcases List.mem_cons.1 hc with rfl | hc
    · omega
    · exact ih _ c hc
theorem wr_range (x : It) (hu : ∀ c ∈ x.b, 0 ≤ c ∧ c < 256) : ∀ c ∈ WireL.wr x, 0 ≤ c ∧ c < 256 := by
  intro c hc
  unfold WireL.wr at hc
  split at hc
  · exact uv_range _ c hc
  split at hc
  · exact uv_range _ c hc
  split at hc
  · exact fx_range _ _ c hc
  split at hc
  · exact fx_range _ _ c hc
  split at hc
  · rcases List.mem_append.1 hc with hc | hc
    · exact uv_range _ c hc
    · exact hu c hc
  · cases hc
theorem Z_range {l : List It} (hu : ∀ x ∈ l, ∀ c ∈ x.b, 0 ≤ c ∧ c < 256) (k : Nat) : ∀ c ∈ Z [] l k, 0 ≤ c ∧ c < 256 := by
  intro c hc
  unfold Z at hc
  rw [List.nil_append] at hc
  obtain ⟨x, hx, hc⟩ := List.mem_flatMap.1 hc
  exact wr_range x (hu x (List.mem_of_mem_take hx)) c hc
theorem Z_drop {l : List It} {k : Nat} {x : It} (h : l[k]? = some x) : ∃ t, (Z [] l l.length).drop (Z [] l k).length = WireL.wr x ++ t := by
  have hk := (List.getElem?_eq_some_iff.1 h).1
  refine ⟨(l.drop (k + 1)).flatMap WireL.wr, ?_⟩
  have e : Z [] l l.length = Z [] l k ++ (WireL.wr x ++ (l.drop (k + 1)).flatMap WireL.wr) := by
    unfold Z
    rw [List.nil_append, List.nil_append, List.take_length]
    have hd : l = l.take k ++ x :: l.drop (k + 1) := by
      have h1 := (List.take_append_drop k l).symm
      rw [List.drop_eq_getElem_cons hk, (List.getElem?_eq_some_iff.1 h).2] at h1
      exact h1
    conv => lhs; rw [hd]
    rw [List.flatMap_append, List.flatMap_cons]
  rw [e, List.drop_left]
theorem back_uv {xs t : List Int} {a v n1 a1 : Nat} {e1 : Int} (hd : xs.drop a = uv v ++ t) (hv : v < 18446744073709551616) (h : Rd1 xs a 0 n1 a1 e1) : n1 = v ∧ a1 = a + (uv v).length ∧ e1 = 0 := by
  rcases h with ⟨h, _⟩ | ⟨_, k, hp, h1, h2⟩
  · exact absurd rfl h
  · rw [hd] at hp
    obtain ⟨g1, g2⟩ := pk_of_uv hv hp
    have := uv_pos v
    exact ⟨g1, by omega, by rw [h2, if_neg (by omega)]⟩
theorem back_fx {xs t : List Int} {a k : Nat} {v n1 e1 : Int} {a1 : Nat} (hd : xs.drop a = fx v k ++ t) (h0 : 0 ≤ v) (hv : v < 256 ^ k) (ha : a ≤ xs.length) (h : RdF xs a 0 k n1 a1 e1) : n1 = v ∧ a1 = a + (fx v k).length ∧ e1 = 0 := by
  have hl := congrArg List.length hd
  rw [List.length_drop, List.length_append, fx_len] at hl
  rcases h with ⟨h, _⟩ | ⟨_, h, _⟩ | ⟨_, _, h1, h2, h3⟩
  · exact absurd rfl h
  · omega
  · rw [hd, List.take_append_of_le_length (by rw [fx_len]; omega), List.take_of_length_le (by rw [fx_len]; omega), lev_fx, Int.emod_eq_of_lt h0 hv] at h1
    exact ⟨h1, by rw [fx_len]; exact h2, h3⟩
theorem back_by {xs t b ys : List Int} {a a1 : Nat} {e1 : Int} (hd : xs.drop a = uv b.length ++ b ++ t) (hb : b.length < 18446744073709551616) (ha : a ≤ xs.length) (h : RdB xs a 0 (b.length : Int) ys a1 e1) : ys = b ∧ a1 = a + (uv b.length ++ b).length ∧ e1 = 0 := by
  rcases h with ⟨h, _⟩ | ⟨_, m, k, hp, h⟩
  · exact absurd rfl h
  · have hp' := hp
    rw [hd, List.append_assoc] at hp'
    obtain ⟨rfl, rfl⟩ := pk_of_uv hb hp'
    have := uv_pos b.length
    have hl := congrArg List.length hd
    rw [List.length_drop, List.length_append, List.length_append] at hl
    rcases h with ⟨g, _⟩ | ⟨_, g, _⟩ | ⟨_, _, g, _⟩ | ⟨_, _, _, g1, g2, g3⟩
    · omega
    · omega
    · omega
    · refine ⟨?_, by rw [List.length_append]; omega, g3⟩
      rw [g1, ← List.drop_drop, hd, List.append_assoc, List.drop_left, List.take_left]
theorem lt8 {n : Int} (h : n < 18446744073709551616) : n < 256 ^ 8 := by
  have e : (256 : Int) ^ 8 = 18446744073709551616 := by decide +kernel
  rw [e]; exact h
theorem keepA {w w1 : World} {b j q : Nat} {v : Option Value} (hg : w.grownBy w1 (some q)) (hq : q < b) (hlt : b < w.heap.size) (c : w.cell? ⟨b, j, none⟩ = v) : w1.cell? ⟨b, j, none⟩ = v :=
  keepG hg hlt (by omega) c
set_option maxHeartbeats 40000000 in
set_option maxRecDepth 100000 in
theorem lawBack (B : Option Addr) (cb : Nat) (l : List It) (w : World) (hl : kI.C w B l.length l)
    (hn : ∀ x ∈ l, 0 ≤ x.n ∧ x.n < 18446744073709551616) (hs : tot l ≤ 70368744177664) (hu : ∀ x ∈ l, ∀ c ∈ x.b, 0 ≤ c ∧ c < 256) :
    Calls Try.prog 9 #[.slice B l.length cb] w fun e w' => e = .returned (.bool true) ∧ Below w.heap.size w w' := by
  have HD := Lib.hid hl
  have HN := Lib.hid hn
  have HS := Lib.hid hs
  have HU := Lib.hid hu
  have hll : l.length ≤ 9223372036854775807 := hl.2.1
  have HB := Lib.hid (Below.refl w.heap.size w)
  clear hl hn hs hu
  go_enter Try.func9, Try.ntmps9
  go_wp2_with fail
  go_loopw [3, 4] (fun b i' wr => ∃ (k : Nat), i' = .int .i64 k ∧ Hid (BK.R 5 wr w.heap.size (fun _ => True) b (Z [] l k)) ∧ Hid (k ≤ l.length) ∧ Hid (Below w.heap.size w wr)) (fun _ i' _ => (l.length - intOf i').toNat)
  case atStart => exact ⟨0, rfl, Lib.hid (by simp [Z]; exact Kd.R_nil _ _ _ _ _), Lib.hid (by omega), HB⟩
  case round =>
    obtain ⟨k, rfl, HV, HZ, HB⟩ := hrel
    by_cases h : k < l.length
    · have h1 : decide (k < l.length) = true := decide_eq_true h
      have i0 : (0 : Int) ≤ k := by omega
      obtain ⟨ad, x, C, d, hx, hA, c0, c1, c2, c3, hle, hC⟩ := at_I (Kd.C_below HD.out HB.out) k h
      subst hA
      have hlz : (Z [] l k).length + x.b.length + 10 ≤ 140737488355328 := by
        have h1 := Z_len (hd := []) k HN.out (by have := HS.out; omega)
        have h2 := HS.out
        have h3 := tot_get hx
        rw [List.length_nil] at h1
        omega
      have hxn := HN.out x (List.mem_of_getElem? hx)
      have HX := Lib.hid hx
      have HY := Lib.hid hC
      have HL := Lib.hid hlz
      have HN2 := Lib.hid hxn
      obtain ⟨zs, hzs⟩ : ∃ zs, zs = Z [] l k := ⟨_, rfl⟩
      rw [← hzs] at HL HV
      have HZS := Lib.hid hzs
      obtain ⟨A5, c5, rfl, hc5, hC5⟩ := Kd.R_reads HV.out
      have HC5 := Lib.hid hC5
      clear hx hC hlz hxn hC5 hle hzs
      go_wp2_with fail
      refine (written_calls A5 c5 zs C d x wr hc5 HC5.out HY.out HN2.out HL.out).mono ?_
      rintro e w3 ⟨v1, v2, rfl, hp, _, hb⟩
      have HV1 : Hid (BK.R 5 w3 w.heap.size (fun _ => True) v1 (zs ++ WireL.wr x)) := Lib.hid (by
        rcases hp with hp | ⟨rfl, hp⟩
        · exact Kd.R_lower hp HB.out.size
        · rw [hp, List.append_nil]
          exact Kd.R_below HV.out hb)
      have HB3 := Lib.hid (below_then HB.out HB.out.size hb)
      clear hp hb hc5 c0 c1 c2 c3 HV HB HC5 HY
      go_wp2_with fail
      go_roundw
      case rel =>
        refine ⟨k + 1, ?_, Lib.hid ?_, Lib.hid (by omega), HB3⟩
        · rw [show ((k : Int) + 1) = ((k + 1 : Nat) : Int) by omega]
        · rw [Z_succ HX.out, ← HZS.out]; exact HV1.out
      case measure => simp only [intOf]; omega
    · have h1 : decide (k < l.length) = false := decide_eq_false h
      obtain rfl : k = l.length := by have := HZ.out; omega
      clear h
      obtain ⟨xs, hxs⟩ : ∃ xs, xs = Z [] l l.length := ⟨_, rfl⟩
      rw [← hxs] at HV
      have HXS := Lib.hid hxs
      obtain ⟨A5, c5, rfl, hc5, hC5⟩ := Kd.R_reads HV.out
      have HC5 := Lib.hid hC5
      have HC55 := Lib.hid hc5
      have HLX : Hid (xs.length ≤ 140737488355328) := Lib.hid (by
        have h1 := Z_len (hd := []) l.length HN.out (by have := HS.out; omega)
        have h2 := HS.out
        rw [List.length_nil, ← hxs] at h1
        omega)
      clear hxs hC5 hc5
      go_wp2_with fail
      refine (read_calls A5 c5 xs wr HC55.out HC5.out HLX.out).mono ?_
      rintro r w2 ⟨p, rfl, h2, hb⟩
      have HR := Lib.hid (h2.lower HB.out.size)
      have HB2 := Lib.hid (below_then HB.out HB.out.size hb)
      clear h2 hb HC5 HC55 HB HV
      go_wp2_with fail
      go_loopw [6] (fun i' wr => ∃ (k a : Nat), i' = .int .i64 k ∧ Hid (k ≤ l.length) ∧ Hid (IsRd wr w.heap.size p xs a 0) ∧ Hid (a = (Z [] l k).length) ∧ Hid (Below w.heap.size w wr)) (fun i' _ => (l.length - intOf i').toNat)
      case atStart => exact ⟨0, 0, rfl, Lib.hid (by omega), HR, Lib.hid (by simp [Z]), HB2⟩
      case round =>
        obtain ⟨k, a, rfl, HZ2, HR, HA, HB⟩ := hrel
        by_cases h : k < l.length
        · have h1 : decide (k < l.length) = true := decide_eq_true h
          have i0 : (0 : Int) ≤ k := by omega
          obtain ⟨ad, x, C, d, hx, hA, c0, c1, c2, c3, hle, hC⟩ := at_I (Kd.C_below HD.out HB.out) k h
          subst hA
          have d0 : (wr.alloc (.cells #[.int .i64 x.act, .int .u64 x.n, .slice C x.b.length d, .int .i64 x.most] 28)).cell? ⟨wr.heap.size, 0, none⟩ = some (.int .i64 x.act) := blk_cell (blk_new wr _) 0
          have d1 : (wr.alloc (.cells #[.int .i64 x.act, .int .u64 x.n, .slice C x.b.length d, .int .i64 x.most] 28)).cell? ⟨wr.heap.size, 1, none⟩ = some (.int .u64 x.n) := blk_cell (blk_new wr _) 1
          have d2 : (wr.alloc (.cells #[.int .i64 x.act, .int .u64 x.n, .slice C x.b.length d, .int .i64 x.most] 28)).cell? ⟨wr.heap.size, 2, none⟩ = some (.slice C x.b.length d) := blk_cell (blk_new wr _) 2
          have HR4 := Lib.hid (HR.out.grown (below_alloc (Below.refl _ _) (.cells #[.int .i64 x.act, .int .u64 x.n, .slice C x.b.length d, .int .i64 x.most] 28)))
          have HPL : Hid (p < wr.heap.size) := Lib.hid HR.out.lt
          have HSZ : Hid (wr.heap.size < (wr.alloc (.cells #[.int .i64 x.act, .int .u64 x.n, .slice C x.b.length d, .int .i64 x.most] 28)).heap.size) := Lib.hid (by simp)
          have HNX := Lib.hid (HN.out x (List.mem_of_getElem? hx))
          have HBX : Hid (x.b.length ≤ 70368744177664) := Lib.hid (by have := tot_get hx; have := HS.out; omega)
          obtain ⟨t, hdr⟩ := Z_drop hx
          rw [← HXS.out, ← HA.out] at hdr
          have HDR := Lib.hid hdr
          have HXX : Hid (∀ c ∈ xs, 0 ≤ c ∧ c < 256) := Lib.hid (by rw [HXS.out]; exact Z_range HU.out _)
          have HXK := Lib.hid hx
          have HC8 : Hid (x.b.length ≤ d) := Lib.hid hle
          have HC9 : Hid (BK.C (wr.alloc (.cells #[.int .i64 x.act, .int .u64 x.n, .slice C x.b.length d, .int .i64 x.most] 28)) C x.b.length x.b) := Lib.hid (Kd.C_alloc hC _)
          have HB4 : Hid (Below w.heap.size w (wr.alloc (.cells #[.int .i64 x.act, .int .u64 x.n, .slice C x.b.length d, .int .i64 x.most] 28))) := Lib.hid (below_alloc HB.out _)
          have HCW : Hid (∃ C' d', BK.C w C' x.b.length x.b ∧ C' = C ∧ d' = d) := Lib.hid (by
            obtain ⟨ad2, x2, C2, d2, hx2, hA2, _, _, e2, _, _, hC2⟩ := at_I HD.out k h
            rw [HXK.out] at hx2
            obtain rfl := Option.some.inj hx2
            injection hA2 with hA2
            subst hA2
            have e3 := (HB.out.cell (World.block_lt_of_cell? _ _ e2)).trans e2
            rw [c2] at e3
            injection e3 with e3
            injection e3 with e4 e5 e6
            exact ⟨C2, d2, hC2, e4.symm, e6.symm⟩)
          clear hdr hx hle hC HR HC9
          by_cases g0 : x.act = 0
          · have HG := Lib.hid g0
            have f0 : (x.act == 0) = true := beq_iff_eq.2 g0
            have f1 : (x.act == 1) = false := beq_eq_false_iff_ne.2 (by omega)
            have f2 : (x.act == 2) = false := beq_eq_false_iff_ne.2 (by omega)
            have f3 : (x.act == 3) = false := beq_eq_false_iff_ne.2 (by omega)
            have f6 : (x.act == 6) = false := beq_eq_false_iff_ne.2 (by omega)
            clear g0
            go_wp2_with fail
            go_region_with ((go_at_call 25; go_must (refine (uvarintR_calls _ p xs a 0 _ (by first | exact HR4.out | exact HR4.out.grown (below_drew (Below.refl _ _)) | exact HR4.out.grown (pw_below_drewN (Below.refl _ _) _)) HXX.out).mono ?_; rintro r w5 ⟨n1, a1, e1, rfl, h1, h2, h3⟩; obtain ⟨rfl, rfl, rfl⟩ := back_uv (v := x.n.toNat) (by have := HDR.out; simp only [WireL.wr, HG.out, if_true] at this; exact this) (by have := HNX.out; omega) h1; have q3 : ((x.n.toNat : Int) != x.n) = false := bne_eq_false_iff_eq.2 (by have := HNX.out; omega); have d0 := keepA h3 HPL.out HSZ.out d0; have d1 := keepA h3 HPL.out HSZ.out d1; have d2 := keepA h3 HPL.out HSZ.out d2; have HR5 := Lib.hid h2; have HBW := Lib.hid (Below.grown (by first | exact HB4.out | exact below_drew HB4.out | exact pw_below_drewN HB4.out _) h3 (by exact HB4.out.size) (fun k hk => by injection hk with hk; obtain ⟨_, _, _, _, hh, _⟩ := h2; omega)); clear h1 h2 h3 HR4)))
            all_goals
              go_wp2_with fail
              try go_simp
              go_quiet (fail)
              go_wp2_with fail
              go_quiet (fail)
              go_wp2_with fail
              go_quiet (fail)
              go_wp2_with fail
              go_quiet (fail)
              go_wp2_with fail
              go_roundw
              case rel =>
                refine ⟨k + 1, _, by first | rfl | (rw [show ((k : Int) + 1) = ((k + 1 : Nat) : Int) by omega]), Lib.hid (by omega), Lib.hid (by first | exact HR5.out | exact HR5.out.grown (pw_below_drewN (Below.refl _ _) _) | exact HR5.out.grown (below_drew (Below.refl _ _))), Lib.hid ?_, Lib.hid (by first | exact HBW.out | exact pw_below_drewN HBW.out _ | exact below_drew HBW.out)⟩
                have hz := congrArg List.length (Z_succ (hd := []) HXK.out)
                rw [List.length_append, ← HA.out] at hz
                rw [hz]
                unfold WireL.wr
                rw [HG.out]
                rfl
              case measure => simp only [intOf]; omega
          by_cases g1 : x.act = 1
          · have HG := Lib.hid g1
            have f0 : (x.act == 0) = false := beq_eq_false_iff_ne.2 (by omega)
            have f1 : (x.act == 1) = true := beq_iff_eq.2 g1
            have f2 : (x.act == 2) = false := beq_eq_false_iff_ne.2 (by omega)
            have f3 : (x.act == 3) = false := beq_eq_false_iff_ne.2 (by omega)
            have f6 : (x.act == 6) = false := beq_eq_false_iff_ne.2 (by omega)
            clear g0 g1
            go_wp2_with fail
            go_quiet (fail)
            go_wp2_with fail
            go_region_with ((go_at_call 29; go_must (refine (varintR_calls _ p xs a 0 _ (by first | exact HR4.out | exact HR4.out.grown (below_drew (Below.refl _ _)) | exact HR4.out.grown (pw_below_drewN (Below.refl _ _) _)) HXX.out).mono ?_; rintro r w5 ⟨n1, a1, e1, rfl, h1, h2, h3⟩; obtain ⟨rfl, rfl, rfl⟩ := back_uv (v := zig (IntKind.i64.wrap x.n)) (by have := HDR.out; simp only [WireL.wr, HG.out] at this; exact this) (zig_lt (by rw [Go.IntKind.wrap_i64]; omega)) h1; have q3 : (unzig (zig (IntKind.i64.wrap x.n)) != IntKind.i64.wrap x.n) = false := bne_eq_false_iff_eq.2 unzig_zig; have q4 : (unzig (zig (IntKind.i64.wrap x.n)) != wrap64 x.n) = false := bne_eq_false_iff_eq.2 (by rw [unzig_zig, Go.IntKind.wrap_i64]; unfold wrap64; omega); have d0 := keepA h3 HPL.out HSZ.out d0; have d1 := keepA h3 HPL.out HSZ.out d1; have d2 := keepA h3 HPL.out HSZ.out d2; have HR5 := Lib.hid h2; have HBW := Lib.hid (Below.grown (by first | exact HB4.out | exact below_drew HB4.out | exact pw_below_drewN HB4.out _) h3 (by exact HB4.out.size) (fun k hk => by injection hk with hk; obtain ⟨_, _, _, _, hh, _⟩ := h2; omega)); clear h1 h2 h3 HR4)))
            all_goals
              go_wp2_with fail
              try go_simp
              go_quiet (fail)
              go_wp2_with fail
              go_quiet (fail)
              go_wp2_with fail
              go_quiet (fail)
              go_wp2_with fail
              go_roundw
              case rel =>
                refine ⟨k + 1, _, by first | rfl | (rw [show ((k : Int) + 1) = ((k + 1 : Nat) : Int) by omega]), Lib.hid (by omega), Lib.hid (by first | exact HR5.out | exact HR5.out.grown (pw_below_drewN (Below.refl _ _) _) | exact HR5.out.grown (below_drew (Below.refl _ _))), Lib.hid ?_, Lib.hid (by first | exact HBW.out | exact pw_below_drewN HBW.out _ | exact below_drew HBW.out)⟩
                have hz := congrArg List.length (Z_succ (hd := []) HXK.out)
                rw [List.length_append, ← HA.out] at hz
                rw [hz]
                unfold WireL.wr
                rw [HG.out]
                rfl
              case measure => simp only [intOf]; omega
          by_cases g2 : x.act = 2
          · have HG := Lib.hid g2
            have f0 : (x.act == 0) = false := beq_eq_false_iff_ne.2 (by omega)
            have f1 : (x.act == 1) = false := beq_eq_false_iff_ne.2 (by omega)
            have f2 : (x.act == 2) = true := beq_iff_eq.2 g2
            have f3 : (x.act == 3) = false := beq_eq_false_iff_ne.2 (by omega)
            have f6 : (x.act == 6) = false := beq_eq_false_iff_ne.2 (by omega)
            clear g0 g1 g2
            go_wp2_with fail
            go_quiet (fail)
            go_wp2_with fail
            go_quiet (fail)
            go_wp2_with fail
            go_region_with ((go_at_call 31; go_must (refine (fixed4R _ p xs a 0 _ (by first | exact HR4.out | exact HR4.out.grown (below_drew (Below.refl _ _)) | exact HR4.out.grown (pw_below_drewN (Below.refl _ _) _)) HXX.out).mono ?_; rintro r w5 ⟨n1, a1, e1, rfl, h1, h2, h3⟩; obtain ⟨rfl, rfl, rfl⟩ := back_fx (v := IntKind.u32.wrap x.n) (by have := HDR.out; simp only [WireL.wr, HG.out] at this; exact this) (by rw [Go.IntKind.wrap_u32]; omega) (by rw [Go.IntKind.wrap_u32]; omega) HR4.out.le h1;  have d0 := keepA h3 HPL.out HSZ.out d0; have d1 := keepA h3 HPL.out HSZ.out d1; have d2 := keepA h3 HPL.out HSZ.out d2; have HR5 := Lib.hid h2; have HBW := Lib.hid (Below.grown (by first | exact HB4.out | exact below_drew HB4.out | exact pw_below_drewN HB4.out _) h3 (by exact HB4.out.size) (fun k hk => by injection hk with hk; obtain ⟨_, _, _, _, hh, _⟩ := h2; omega)); clear h1 h2 h3 HR4)))
            all_goals
              go_wp2_with fail
              try go_simp
              go_quiet (fail)
              go_wp2_with fail
              go_quiet (fail)
              go_wp2_with fail
              go_roundw
              case rel =>
                refine ⟨k + 1, _, by first | rfl | (rw [show ((k : Int) + 1) = ((k + 1 : Nat) : Int) by omega]), Lib.hid (by omega), Lib.hid (by first | exact HR5.out | exact HR5.out.grown (pw_below_drewN (Below.refl _ _) _) | exact HR5.out.grown (below_drew (Below.refl _ _))), Lib.hid ?_, Lib.hid (by first | exact HBW.out | exact pw_below_drewN HBW.out _ | exact below_drew HBW.out)⟩
                have hz := congrArg List.length (Z_succ (hd := []) HXK.out)
                rw [List.length_append, ← HA.out] at hz
                rw [hz]
                unfold WireL.wr
                rw [HG.out]
                rfl
              case measure => simp only [intOf]; omega
          by_cases g3 : x.act = 3
          · have HG := Lib.hid g3
            have f0 : (x.act == 0) = false := beq_eq_false_iff_ne.2 (by omega)
            have f1 : (x.act == 1) = false := beq_eq_false_iff_ne.2 (by omega)
            have f2 : (x.act == 2) = false := beq_eq_false_iff_ne.2 (by omega)
            have f3 : (x.act == 3) = true := beq_iff_eq.2 g3
            have f6 : (x.act == 6) = false := beq_eq_false_iff_ne.2 (by omega)
            clear g0 g1 g2 g3
            go_wp2_with fail
            go_quiet (fail)
            go_wp2_with fail
            go_quiet (fail)
            go_wp2_with fail
            go_quiet (fail)
            go_wp2_with fail
            go_region_with ((go_at_call 32; go_must (refine (fixed8R _ p xs a 0 _ (by first | exact HR4.out | exact HR4.out.grown (below_drew (Below.refl _ _)) | exact HR4.out.grown (pw_below_drewN (Below.refl _ _) _)) HXX.out).mono ?_; rintro r w5 ⟨n1, a1, e1, rfl, h1, h2, h3⟩; obtain ⟨rfl, rfl, rfl⟩ := back_fx (v := x.n) (by have := HDR.out; simp only [WireL.wr, HG.out] at this; exact this) HNX.out.1 (lt8 HNX.out.2) HR4.out.le h1;  have d0 := keepA h3 HPL.out HSZ.out d0; have d1 := keepA h3 HPL.out HSZ.out d1; have d2 := keepA h3 HPL.out HSZ.out d2; have HR5 := Lib.hid h2; have HBW := Lib.hid (Below.grown (by first | exact HB4.out | exact below_drew HB4.out | exact pw_below_drewN HB4.out _) h3 (by exact HB4.out.size) (fun k hk => by injection hk with hk; obtain ⟨_, _, _, _, hh, _⟩ := h2; omega)); clear h1 h2 h3 HR4)))
            all_goals
              go_wp2_with fail
              try go_simp
              go_quiet (fail)
              go_wp2_with fail
              go_roundw
              case rel =>
                refine ⟨k + 1, _, by first | rfl | (rw [show ((k : Int) + 1) = ((k + 1 : Nat) : Int) by omega]), Lib.hid (by omega), Lib.hid (by first | exact HR5.out | exact HR5.out.grown (pw_below_drewN (Below.refl _ _) _) | exact HR5.out.grown (below_drew (Below.refl _ _))), Lib.hid ?_, Lib.hid (by first | exact HBW.out | exact pw_below_drewN HBW.out _ | exact below_drew HBW.out)⟩
                have hz := congrArg List.length (Z_succ (hd := []) HXK.out)
                rw [List.length_append, ← HA.out] at hz
                rw [hz]
                unfold WireL.wr
                rw [HG.out]
                rfl
              case measure => simp only [intOf]; omega
          by_cases g6 : x.act = 6
          · have HG := Lib.hid g6
            have f0 : (x.act == 0) = false := beq_eq_false_iff_ne.2 (by omega)
            have f1 : (x.act == 1) = false := beq_eq_false_iff_ne.2 (by omega)
            have f2 : (x.act == 2) = false := beq_eq_false_iff_ne.2 (by omega)
            have f3 : (x.act == 3) = false := beq_eq_false_iff_ne.2 (by omega)
            have f6 : (x.act == 6) = true := beq_iff_eq.2 g6
            clear g0 g1 g2 g3 g6
            go_wp2_with fail
            go_quiet (fail)
            go_wp2_with fail
            go_quiet (fail)
            go_wp2_with fail
            go_quiet (fail)
            go_wp2_with fail
            go_quiet (fail)
            go_wp2_with fail
            go_region_with (first
              | (go_at_call 33; go_must (refine (bytesR _ p xs a 0 (x.b.length : Int) _ (by first | exact HR4.out | exact HR4.out.grown (below_drew (Below.refl _ _)) | exact HR4.out.grown (pw_below_drewN (Below.refl _ _) _)) HXX.out (by have := HBX.out; omega) HLX.out).mono ?_; rintro r w5 ⟨A7, c7, ys, a1, e1, rfl, ho, h1, h2, h3⟩; obtain ⟨rfl, rfl, rfl⟩ := back_by (by have := HDR.out; simp only [WireL.wr, HG.out] at this; exact this) (by have := HBX.out; omega) HR4.out.le h1; have HO7 := Lib.hid (Kd.R_reads' ho).2; clear ho; have d0 := keepA h3 HPL.out HSZ.out d0; have d1 := keepA h3 HPL.out HSZ.out d1; have d2 := keepA h3 HPL.out HSZ.out d2; have HR5 := Lib.hid h2; have HBW := Lib.hid (Below.grown (by first | exact HB4.out | exact below_drew HB4.out | exact pw_below_drewN HB4.out _) h3 (by exact HB4.out.size) (fun k hk => by injection hk with hk; obtain ⟨_, _, _, _, hh, _⟩ := h2; omega)); clear h1 h2 h3 HR4))
              | (go_at_call 13; go_must (refine (same_yes A7 c7 C d x.b _ (by exact HO7.out.1) (by first | exact HO7.out.2 | exact Kd.C_below HO7.out.2 (below_drew (Below.refl _ _)) | exact Kd.C_below HO7.out.2 (pw_below_drewN (Below.refl _ _) _)) HC8.out (by obtain ⟨C', d', q1, rfl, _⟩ := HCW.out; first | exact Kd.C_below q1 HBW.out | exact Kd.C_below q1 (below_drew HBW.out) | exact Kd.C_below q1 (pw_below_drewN HBW.out _))).mono ?_; rintro r w6 ⟨rfl, hb⟩; have HR6 := Lib.hid (by first | exact HR5.out.grown hb | exact (HR5.out.grown (below_drew (Below.refl _ _))).grown hb | exact (HR5.out.grown (pw_below_drewN (Below.refl _ _) _)).grown hb); have HBV := Lib.hid (below_then (by first | exact HBW.out | exact below_drew HBW.out | exact pw_below_drewN HBW.out _) (by exact HBW.out.size) hb); clear hb HR5 HBW; have HR5 := HR6; have HBW := HBV; clear HR6 HBV)))
            all_goals
              go_wp2_with fail
              go_wp2_with fail
              go_roundw
              case rel =>
                refine ⟨k + 1, _, by first | rfl | (rw [show ((k : Int) + 1) = ((k + 1 : Nat) : Int) by omega]), Lib.hid (by omega), Lib.hid (by first | exact HR5.out | exact HR5.out.grown (pw_below_drewN (Below.refl _ _) _) | exact HR5.out.grown (below_drew (Below.refl _ _))), Lib.hid ?_, Lib.hid (by first | exact HBW.out | exact pw_below_drewN HBW.out _ | exact below_drew HBW.out)⟩
                have hz := congrArg List.length (Z_succ (hd := []) HXK.out)
                rw [List.length_append, ← HA.out] at hz
                rw [hz]
                unfold WireL.wr
                rw [HG.out]
                rfl
              case measure => simp only [intOf]; omega
          · have HG := Lib.hid (And.intro g0 (And.intro g1 (And.intro g2 (And.intro g3 g6))))
            have f0 : (x.act == 0) = false := beq_eq_false_iff_ne.2 g0
            have f1 : (x.act == 1) = false := beq_eq_false_iff_ne.2 g1
            have f2 : (x.act == 2) = false := beq_eq_false_iff_ne.2 g2
            have f3 : (x.act == 3) = false := beq_eq_false_iff_ne.2 g3
            have f6 : (x.act == 6) = false := beq_eq_false_iff_ne.2 g6
            clear g0 g1 g2 g3 g6
            go_wp2_with fail
            go_quiet (fail)
            go_wp2_with fail
            go_quiet (fail)
            go_wp2_with fail
            go_quiet (fail)
            go_wp2_with fail
            go_quiet (fail)
            go_wp2_with fail
            go_quiet (fail)
            go_wp2_with fail
            go_roundw
            case rel =>
              refine ⟨k + 1, a, by first | rfl | (rw [show ((k : Int) + 1) = ((k + 1 : Nat) : Int) by omega]), Lib.hid (by omega), Lib.hid (HR4.out.grown (pw_below_drewN (Below.refl _ _) _)), Lib.hid ?_, Lib.hid (pw_below_drewN HB4.out _)⟩
              have hz := congrArg List.length (Z_succ (hd := []) HXK.out)
              rw [List.length_append, ← HA.out] at hz
              rw [hz]
              have hg := HG.out
              unfold WireL.wr
              rw [if_neg hg.1, if_neg hg.2.1, if_neg hg.2.2.1, if_neg hg.2.2.2.1, if_neg hg.2.2.2.2]
              rfl
            case measure => simp only [intOf]; omega
        · have h1 : decide (k < l.length) = false := decide_eq_false h
          obtain rfl : k = l.length := by have := HZ2.out; omega
          clear h
          have hal : a = xs.length := by rw [HA.out, HXS.out]
          have HAL := Lib.hid hal
          clear hal
          go_wp2_with fail
          refine (done_calls _ p xs a 0 wr HR.out).mono ?_
          rw [if_pos rfl, if_neg (by rw [HAL.out]; omega)]
          rintro r w3 ⟨rfl, hb⟩
          have HB3 := Lib.hid (below_then HB.out HB.out.size hb)
          clear hb
          go_wp2_with fail
          refine (awake_calls _).mono ?_
          rintro r w4 ⟨rfl, hb⟩
          have HB4 := Lib.hid (below_then HB3.out HB3.out.size hb)
          clear hb
          go_wp2_with fail
          go_ret
          exact ⟨rfl, HB4.out⟩
theorem walkBack (B : Option Addr) (cb : Nat) (l : List It) (w : World) (_ : l.length ≤ cb) (hl : kI.C w B l.length l) (hgl : (∀ x ∈ l, goodI x) ∧ l.length * 48 ≤ reachBytes) (hb : lbulk (fun x => 1 + (1 + ((lbulk (fun _ => 1) x.b + 1) + 1)) + 1) l + 1 ≤ 1048576) :
    Calls Try.prog 9 #[.slice B l.length cb] w fun e w' => e = .returned (.bool true) ∧ Below w.heap.size w w' := by
  refine lawBack B cb l w hl (fun x hx => wf_u64 (hgl.1 x hx).2.1) ?_ (fun x hx c hc => wf_u8 ((hgl.1 x hx).2.2.1.1 c hc))
  have h1 := tot_bulk l
  omega
end Go.Proofs.Ytdogkhbfpbdfpaa.WireB
