import Derived.Test.YtcilojakgnjjmaaKTak1
import Derived.Test.YtcilojakgnjjmaaRows
import Derived.WalkKit
import Derived.ProofKit
import Derived.OpenShut
import Derived.ShutString
import Derived.ChangeOld
import Derived.Below
import Derived.SizedLaws
import Derived.JoinedCond
import Derived.Deep.CondSized
/- Merged texts, one behind the other: LmC, MeY, LmT, LmO, RowMessageTakes. -/
/- message.Count; MessageCounts. -/
set_option linter.unusedSimpArgs false
set_option linter.unusedVariables false
namespace Go.Proofs.Ytcilojakgnjjmaa.LmC
open Go Go.RowKit Go.Proofs.YtcilojakgnjjmaaW.PrintWords Go.Proofs.YtcilojakgnjjmaaW.PrintLast Go.Proofs.YtcilojakgnjjmaaW.PrintMore Mem PAll MeP MeM MeN MeA MeT MeS MeX MeC MeV MeK MeW MeQ MeR
/-- What Count gives. -/
def countO (x : V) (k : Int) : Int × Int := if mayN 16 x = true ∧ 0 ≤ k ∧ k < 6 then (wrap64 (cN k 16 x), 0) else (0, 1)
set_option maxHeartbeats 4000000 in
theorem count_bad (x : V) (A : Option Addr) (c : Nat) (k : Int) (w : World) (hl : x.f3.length ≤ c) (hc : kV.C w A x.f3.length x.f3) (hb : ¬ (mayN 16 x = true ∧ 0 ≤ k ∧ k < 6)) :
    Calls Try.prog 13 #[.agg (aggV x A c), .int .i64 k] w fun e w' => e = .returned (.tuple #[.int .i64 (countO x k).1, .int .i64 (countO x k).2]) ∧ Below w.heap.size w w' := by
  have HT : Hid (countO x k = (0, 1)) := Lib.hid (by unfold countO; rw [if_neg hb])
  have HB0 := Lib.hid (below_alloc (Below.refl w.heap.size w) (.cells (aggV x A c) 24))
  have HV0 := Lib.hid (blk_new w (.cells (aggV x A c) 24))
  have c0 := blk_cell HV0.out 0
  have c1 := blk_cell HV0.out 1
  have c2 := blk_cell HV0.out 2
  have c3 := blk_cell HV0.out 3
  have T := Lib.hid (check_calls x A c _ hl (Kd.C_below hc HB0.out))
  have hcs : mayN 16 x = false ∨ (mayN 16 x = true ∧ k < 0) ∨ (mayN 16 x = true ∧ ¬ k < 0 ∧ 6 ≤ k) := by
    cases h : mayN 16 x
    · exact .inl rfl
    · by_cases h1 : k < 0
      · exact .inr (.inl ⟨rfl, h1⟩)
      · by_cases h2 : k < 6
        · exact absurd ⟨h, by omega, h2⟩ hb
        · exact .inr (.inr ⟨rfl, h1, by omega⟩)
  rw [HT.out]
  clear hc hl hb HT
  rcases hcs with hm | ⟨hm, h1⟩ | ⟨hm, h1, h2⟩
  · rw [hm, if_neg (by decide)] at T
    clear hm
    go_enter Try.func13, Try.ntmps13
    go_wp2_with fail
    refine T.out.mono ?_
    rintro e w2 ⟨rfl, hb⟩
    have HB2 := Lib.hid (below_then HB0.out HB0.out.size hb)
    clear hb T c0 c1 c2 c3 HV0 HB0
    go_wp2_with fail
    go_ret2
    exact ⟨rfl, HB2.out⟩
  · rw [hm, if_pos rfl] at T
    have d1 : decide (k < 0) = true := decide_eq_true h1
    clear hm h1
    go_enter Try.func13, Try.ntmps13
    go_wp2_with fail
    refine T.out.mono ?_
    rintro e w2 ⟨rfl, hb⟩
    have HB2 := Lib.hid (below_then HB0.out HB0.out.size hb)
    clear hb T c0 c1 c2 c3 HV0 HB0
    go_wp2_with fail
    go_ret2
    exact ⟨rfl, HB2.out⟩
  · rw [hm, if_pos rfl] at T
    have d1 : decide (k < 0) = false := decide_eq_false h1
    have d2 : decide (6 ≤ k) = true := decide_eq_true h2
    clear hm h1 h2
    go_enter Try.func13, Try.ntmps13
    go_wp2_with fail
    refine T.out.mono ?_
    rintro e w2 ⟨rfl, hb⟩
    have HB2 := Lib.hid (below_then HB0.out HB0.out.size hb)
    clear hb T c0 c1 c2 c3 HV0 HB0
    go_wp2_with fail
    go_ret2
    exact ⟨rfl, HB2.out⟩
set_option maxHeartbeats 4000000 in
theorem count_ok (x : V) (hs : Sz x) (A : Option Addr) (c : Nat) (k : Int) (w : World) (hl : x.f3.length ≤ c) (hc : kV.C w A x.f3.length x.f3) (hb : mayN 16 x = true ∧ 0 ≤ k ∧ k < 6) :
    Calls Try.prog 13 #[.agg (aggV x A c), .int .i64 k] w fun e w' => e = .returned (.tuple #[.int .i64 (countO x k).1, .int .i64 (countO x k).2]) ∧ Below w.heap.size w w' := by
  have HT : Hid (countO x k = (wrap64 (cN k 16 x), 0)) := Lib.hid (by unfold countO; rw [if_pos hb])
  have HB0 := Lib.hid (below_alloc (Below.refl w.heap.size w) (.cells (aggV x A c) 24))
  have HV0 := Lib.hid (blk_new w (.cells (aggV x A c) 24))
  have c0 := blk_cell HV0.out 0
  have c1 := blk_cell HV0.out 1
  have c2 := blk_cell HV0.out 2
  have c3 := blk_cell HV0.out 3
  have HC0 := Lib.hid (Kd.C_below hc HB0.out)
  have T := Lib.hid (check_calls x A c _ hl HC0.out)
  have d1 : decide (k < 0) = false := decide_eq_false (by omega)
  have d2 : decide (6 ≤ k) = false := decide_eq_false (by omega)
  rw [HT.out]
  rw [hb.1, if_pos rfl] at T
  obtain ⟨K, hk⟩ := pro_cnt k 16 x hb.1 hs
  have HK : Hid (message_count.f K x.f0 x.f1 x.f2 x.f3 k = some (wrap64 (cN k 16 x))) := Lib.hid (hk K (Nat.le_refl _))
  have HL := Lib.hid hl
  obtain ⟨r, hr⟩ : ∃ r, r = wrap64 (cN k 16 x) := ⟨_, rfl⟩
  rw [← hr] at HK ⊢
  clear hc hl hb HT hr hs hk
  go_enter Try.func13, Try.ntmps13
  go_wp2_with fail
  refine T.out.mono ?_
  rintro e w2 ⟨rfl, hb⟩
  have HB2 := Lib.hid (below_then HB0.out HB0.out.size hb)
  have HV2 := Lib.hid (blk_below HV0.out hb)
  have HC2 := Lib.hid (Kd.C_below HC0.out hb)
  clear hb T c0 c1 c2 c3 HV0 HB0 HC0
  have c0 := blk_cell HV2.out 0
  have c1 := blk_cell HV2.out 1
  have c2 := blk_cell HV2.out 2
  have c3 := blk_cell HV2.out 3
  have T := Lib.hid (message_count.calls K x.f0 x.f1 x.f2 A c x.f3 k r w2 HC2.out HL.out HK.out)
  go_wp2_with fail
  refine T.out.mono ?_
  rintro e w3 ⟨rfl, hb⟩
  have HB3 := Lib.hid (below_then HB2.out HB2.out.size hb)
  clear hb T
  go_wp2_with fail
  go_ret2
  exact ⟨rfl, HB3.out⟩
theorem count_calls (x : V) (hs : Sz x) (A : Option Addr) (c : Nat) (k : Int) (w : World) (hl : x.f3.length ≤ c) (hc : kV.C w A x.f3.length x.f3) :
    Calls Try.prog 13 #[.agg (aggV x A c), .int .i64 k] w fun e w' => e = .returned (.tuple #[.int .i64 (countO x k).1, .int .i64 (countO x k).2]) ∧ Below w.heap.size w w' := by
  by_cases hb : mayN 16 x = true ∧ 0 ≤ k ∧ k < 6
  · exact count_ok x hs A c k w hl hc hb
  · exact count_bad x A c k w hl hc hb
/-- The kinds below i, counted. -/
def pre (x : V) : Nat → Int
  | 0 => 0
  | i + 1 => pre x i + cN i 16 x
theorem pre_s (x : V) (i : Nat) (j : Int) (h : (i : Int) = j) : pre x (i + 1) = pre x i + cN j 16 x := by rw [pre, h]
theorem pre_all {x : V} (h : mayN 16 x = true) : pre x 6 = sN 16 x := by
  rw [← sum_kinds 16 x h, pre_s x 5 5 rfl, pre_s x 4 4 rfl, pre_s x 3 3 rfl, pre_s x 2 2 rfl, pre_s x 1 1 rfl, pre_s x 0 0 rfl, pre, Int.zero_add]
theorem rcount_calls (x : V) (hs : Sz x) (hm : mayN 16 x = true) (A : Option Addr) (c : Nat) (k : Int) (w : World) (hl : x.f3.length ≤ c) (hc : kV.C w A x.f3.length x.f3) :
    Calls Try.prog 16 #[.agg (aggV x A c), .int .i64 k] w fun e w' => e = .returned (.int .i64 (wrap64 (cN k 16 x))) ∧ Below w.heap.size w w' := by
  obtain ⟨K, hk⟩ := ref_cnt k 16 x hm hs
  exact mooringref24_Count.calls K _ _ _ A c _ k _ w hc hl (hk K (Nat.le_refl _))
theorem rsize_calls (x : V) (hs : Sz x) (hm : mayN 16 x = true) (A : Option Addr) (c : Nat) (w : World) (hl : x.f3.length ≤ c) (hc : kV.C w A x.f3.length x.f3) :
    ∃ d, Calls Try.prog 15 #[.agg (aggV x A c)] w fun e w' => e = .returned (.tuple #[.int .i64 (wrap64 (sN 16 x)), .int .i64 d]) ∧ Below w.heap.size w w' := by
  obtain ⟨d, K, hk⟩ := size_may 16 x hm hs
  exact ⟨d, mooringref24_Size.calls K _ _ _ A c _ _ d w hc hl (hk K (Nat.le_refl _))⟩
theorem meas6 {i : Nat} (h : i < 6) : ((6 : Int) - intOf (.int .i64 ((i : Int) + 1))).toNat < ((6 : Int) - intOf (.int .i64 (i : Int))).toNat := by
  show ((6 : Int) - ((i : Int) + 1)).toNat < ((6 : Int) - (i : Int)).toNat
  omega
set_option maxHeartbeats 16000000 in
set_option maxRecDepth 100000 in
theorem counts_core (x : V) (A : Option Addr) (c : Nat) (k : Int) (w : World) (hl : x.f3.length ≤ c) (hc : kV.C w A x.f3.length x.f3) (M : Bool) (D : Int → Int × Int) (Cn : Int → Int) (S : Int) (g : Nat → Int)
    (hlight : ∀ w, kV.C w A x.f3.length x.f3 → ∃ r, Calls Try.prog 8 #[.agg (aggV x A c)] w fun e w' => e = .returned (.bool r) ∧ Below w.heap.size w w')
    (hcount : ∀ k w, kV.C w A x.f3.length x.f3 → Calls Try.prog 13 #[.agg (aggV x A c), .int .i64 k] w fun e w' => e = .returned (.tuple #[.int .i64 (D k).1, .int .i64 (D k).2]) ∧ Below w.heap.size w w')
    (hD : ∀ k, D k = if M = true ∧ 0 ≤ k ∧ k < 6 then (wrap64 (Cn k), 0) else (0, 1))
    (hmay : ∀ w, kV.C w A x.f3.length x.f3 → Calls Try.prog 14 #[.agg (aggV x A c), .int .i64 16] w fun e w' => e = .returned (.bool M) ∧ Below w.heap.size w w')
    (hrc : M = true → ∀ k w, kV.C w A x.f3.length x.f3 → Calls Try.prog 16 #[.agg (aggV x A c), .int .i64 k] w fun e w' => e = .returned (.int .i64 (wrap64 (Cn k))) ∧ Below w.heap.size w w')
    (hsz : M = true → ∀ w, kV.C w A x.f3.length x.f3 → ∃ d, Calls Try.prog 15 #[.agg (aggV x A c)] w fun e w' => e = .returned (.tuple #[.int .i64 (wrap64 S), .int .i64 d]) ∧ Below w.heap.size w w')
    (hg0 : g 0 = 0) (hgs : ∀ i : Nat, g (i + 1) = g i + Cn i) (hg6 : M = true → g 6 = S) :
    Calls Try.prog 4 #[.agg (aggV x A c), .int .i64 k] w fun e w' => e = .returned (.bool true) ∧ Below w.heap.size w w' := by
  have HB0 := Lib.hid (below_alloc (Below.refl w.heap.size w) (.cells (aggV x A c) 24))
  have HV0 := Lib.hid (blk_new w (.cells (aggV x A c) 24))
  have c0 := blk_cell HV0.out 0
  have c1 := blk_cell HV0.out 1
  have c2 := blk_cell HV0.out 2
  have c3 := blk_cell HV0.out 3
  obtain ⟨lt, hlt⟩ := hlight _ (Kd.C_below hc HB0.out)
  have TL := Lib.hid hlt
  have HD := Lib.hid hD
  have HCT := Lib.hid hcount
  have HMY := Lib.hid hmay
  have HRC := Lib.hid hrc
  have HSZ := Lib.hid hsz
  have HG0 := Lib.hid hg0
  have HGS := Lib.hid hgs
  have HG6 := Lib.hid hg6
  have HC := Lib.hid hc
  have HL := Lib.hid hl
  clear hlt hc hl hlight hcount hD hmay hrc hsz hg0 hgs hg6
  go_enter Try.func4, Try.ntmps4
  go_wp2_with fail
  refine TL.out.mono ?_
  rintro e w3 ⟨rfl, hb⟩
  have HB3 := Lib.hid (below_then HB0.out HB0.out.size hb)
  have HV3 := Lib.hid (blk_below HV0.out hb)
  clear hb TL HB0 HV0 c0 c1 c2 c3
  have c0 := blk_cell HV3.out 0
  have c1 := blk_cell HV3.out 1
  have c2 := blk_cell HV3.out 2
  have c3 := blk_cell HV3.out 3
  cases lt
  · go_wp2_with fail
    refine (awake_calls _).mono ?_
    rintro e wz ⟨rfl, hb⟩
    have HBZ := Lib.hid (below_then HB3.out HB3.out.size hb)
    clear hb
    go_wp2_with fail
    go_ret
    exact ⟨rfl, HBZ.out⟩
  have T := Lib.hid (HCT.out k w3 (Kd.C_below HC.out HB3.out))
  obtain ⟨y, hy⟩ : ∃ y, y = D k := ⟨_, rfl⟩
  rw [← hy] at T
  obtain ⟨n, er⟩ := y
  have HY := Lib.hid hy
  clear hy
  dsimp only at T
  go_wp2_with fail
  refine T.out.mono ?_
  rintro e w4 ⟨rfl, hb⟩
  have HB4 := Lib.hid (below_then HB3.out HB3.out.size hb)
  have HV4 := Lib.hid (blk_below HV3.out hb)
  clear hb T HB3 HV3 c0 c1 c2 c3
  have c0 := blk_cell HV4.out 0
  have c1 := blk_cell HV4.out 1
  have c2 := blk_cell HV4.out 2
  have c3 := blk_cell HV4.out 3
  have T := Lib.hid (HMY.out w4 (Kd.C_below HC.out HB4.out))
  by_cases hg : M = true ∧ 0 ≤ k ∧ k < 6
  · have HM := Lib.hid hg.1
    rw [hg.1] at T
    have d1 : decide (k < 0) = false := decide_eq_false (by omega)
    have d2 : decide (6 ≤ k) = false := decide_eq_false (by omega)
    obtain ⟨hn, he⟩ : n = wrap64 (Cn k) ∧ er = 0 := by
      have := HY.out
      rw [HD.out, if_pos hg] at this
      exact ⟨congrArg Prod.fst this, congrArg Prod.snd this⟩
    subst he
    have HN := Lib.hid hn
    clear hg hn HY
    go_wp2_with fail
    refine T.out.mono ?_
    rintro e w5 ⟨rfl, hb⟩
    have HB5 := Lib.hid (below_then HB4.out HB4.out.size hb)
    have HV5 := Lib.hid (blk_below HV4.out hb)
    clear hb T HB4 HV4 c0 c1 c2 c3
    go_wp2_with fail
    go_loopw [7, 8] (fun s' i' wr => ∃ (i : Nat), s' = .int .i64 (wrap64 (g i)) ∧ i' = .int .i64 i ∧ Hid (i ≤ 6) ∧ Hid (wr.heap[w.heap.size]? = some (.cells (aggV x A c) 24 (0, 0))) ∧ Hid (Below w.heap.size w wr)) (fun _ i' _ => (6 - intOf i').toNat)
    case atStart => exact ⟨0, by rw [HG0.out, show wrap64 0 = 0 by unfold wrap64; omega], rfl, Lib.hid (by decide), HV5, HB5⟩
    case round =>
      obtain ⟨i, rfl, rfl, HI, HV, HB⟩ := hrel
      have c0 := blk_cell HV.out 0
      have c1 := blk_cell HV.out 1
      have c2 := blk_cell HV.out 2
      have c3 := blk_cell HV.out 3
      by_cases h : i < 6
      · have hlt : decide ((i : Int) < 6) = true := decide_eq_true (by omega)
        have T := Lib.hid (HCT.out i wr (Kd.C_below HC.out HB.out))
        have hcn : D (i : Int) = (wrap64 (Cn i), 0) := by rw [HD.out, if_pos ⟨HM.out, by omega, by omega⟩]
        rw [hcn] at T
        dsimp only at T
        obtain ⟨q, hq⟩ : ∃ q, q = wrap64 (Cn i) := ⟨_, rfl⟩
        obtain ⟨s, hs⟩ : ∃ s, s = wrap64 (g i) := ⟨_, rfl⟩
        rw [← hq] at T
        rw [← hs]
        have HQ : Hid (wrap64 (s + q) = wrap64 (g (i + 1))) := Lib.hid (by rw [hs, hq, wrap_add, HGS.out i])
        have HLT := Lib.hid h
        clear h hcn hq hs
        go_wp2_with fail
        refine T.out.mono ?_
        rintro e w6 ⟨rfl, hb⟩
        have HB6 := Lib.hid (below_then HB.out HB.out.size hb)
        have HV6 := Lib.hid (blk_below HV.out hb)
        clear hb T HB HV c0 c1 c2 c3
        go_wp2_with fail
        have hw : wrap64 ((i : Int) + 1) = (i : Int) + 1 := by have := HLT.out; unfold wrap64; omega
        go_roundw
        case rel => exact ⟨i + 1, by rw [← HQ.out], congrArg (Value.int .i64) hw, Lib.hid (by have := HLT.out; omega), HV6, HB6⟩
        case measure =>
          rw [hw]
          exact meas6 HLT.out
      · obtain rfl : i = 6 := by have := HI.out; omega
        have hlt : decide (((6 : Nat) : Int) < 6) = false := by decide
        rw [HG6.out HM.out]
        obtain ⟨d, hd⟩ := HSZ.out HM.out wr (Kd.C_below HC.out HB.out)
        obtain ⟨s, hs⟩ : ∃ s, s = wrap64 S := ⟨_, rfl⟩
        rw [← hs] at hd ⊢
        have T := Lib.hid hd
        clear h hd hs
        go_wp2_with fail
        refine T.out.mono ?_
        rintro e w7 ⟨rfl, hb⟩
        have HB7 := Lib.hid (below_then HB.out HB.out.size hb)
        have HV7 := Lib.hid (blk_below HV.out hb)
        clear hb T HB HV c0 c1 c2 c3
        have c0 := blk_cell HV7.out 0
        have c1 := blk_cell HV7.out 1
        have c2 := blk_cell HV7.out 2
        have c3 := blk_cell HV7.out 3
        have T := Lib.hid (HRC.out HM.out k w7 (Kd.C_below HC.out HB7.out))
        rw [← HN.out] at T
        go_wp2_with fail
        refine T.out.mono ?_
        rintro e w8 ⟨rfl, hb⟩
        have HB8 := Lib.hid (below_then HB7.out HB7.out.size hb)
        clear hb T HB7 HV7 c0 c1 c2 c3
        go_wp2_with fail
        refine (awake_calls _).mono ?_
        rintro e wz ⟨rfl, hb⟩
        have HBZ := Lib.hid (below_then HB8.out HB8.out.size hb)
        clear hb
        go_wp2_with fail
        go_ret
        exact ⟨rfl, HBZ.out⟩
  · obtain ⟨hn, he⟩ : n = 0 ∧ er = 1 := by
      have := HY.out
      rw [HD.out, if_neg hg] at this
      exact ⟨congrArg Prod.fst this, congrArg Prod.snd this⟩
    subst hn
    subst he
    have hcs : M = false ∨ (M = true ∧ k < 0) ∨ (M = true ∧ ¬ k < 0 ∧ 6 ≤ k) := by
      cases h : M
      · exact .inl rfl
      · by_cases h1 : k < 0
        · exact .inr (.inl ⟨rfl, h1⟩)
        · by_cases h2 : k < 6
          · exact absurd ⟨h, by omega, h2⟩ hg
          · exact .inr (.inr ⟨rfl, h1, by omega⟩)
    clear hg HY
    rcases hcs with hm | ⟨hm, h1⟩ | ⟨hm, h1, h2⟩
    · rw [hm] at T
      clear hm
      go_wp2_with fail
      refine T.out.mono ?_
      rintro e w5 ⟨rfl, hb⟩
      have HB5 := Lib.hid (below_then HB4.out HB4.out.size hb)
      clear hb T HB4 HV4 c0 c1 c2 c3
      go_wp2_with fail
      refine (awake_calls _).mono ?_
      rintro e wz ⟨rfl, hb⟩
      have HBZ := Lib.hid (below_then HB5.out HB5.out.size hb)
      clear hb
      go_wp2_with fail
      go_ret
      exact ⟨rfl, HBZ.out⟩
    · rw [hm] at T
      have d1 : decide (k < 0) = true := decide_eq_true h1
      clear hm h1
      go_wp2_with fail
      refine T.out.mono ?_
      rintro e w5 ⟨rfl, hb⟩
      have HB5 := Lib.hid (below_then HB4.out HB4.out.size hb)
      clear hb T HB4 HV4 c0 c1 c2 c3
      go_wp2_with fail
      refine (awake_calls _).mono ?_
      rintro e wz ⟨rfl, hb⟩
      have HBZ := Lib.hid (below_then HB5.out HB5.out.size hb)
      clear hb
      go_wp2_with fail
      go_ret
      exact ⟨rfl, HBZ.out⟩
    · rw [hm] at T
      have d1 : decide (k < 0) = false := decide_eq_false h1
      have d2 : decide (6 ≤ k) = true := decide_eq_true h2
      clear hm h1 h2
      go_wp2_with fail
      refine T.out.mono ?_
      rintro e w5 ⟨rfl, hb⟩
      have HB5 := Lib.hid (below_then HB4.out HB4.out.size hb)
      clear hb T HB4 HV4 c0 c1 c2 c3
      go_wp2_with fail
      refine (awake_calls _).mono ?_
      rintro e wz ⟨rfl, hb⟩
      have HBZ := Lib.hid (below_then HB5.out HB5.out.size hb)
      clear hb
      go_wp2_with fail
      go_ret
      exact ⟨rfl, HBZ.out⟩
theorem counts_calls (x : V) (hs : Sz x) (A : Option Addr) (c : Nat) (k : Int) (w : World) (hl : x.f3.length ≤ c) (hc : kV.C w A x.f3.length x.f3) :
    Calls Try.prog 4 #[.agg (aggV x A c), .int .i64 k] w fun e w' => e = .returned (.bool true) ∧ Below w.heap.size w w' :=
  counts_core x A c k w hl hc (mayN 16 x) (countO x) (fun k => cN k 16 x) (sN 16 x) (pre x) (fun w h => light_calls x hs A c w h hl) (fun k w h => count_calls x hs A c k w hl h) (fun k => by unfold countO; rfl) (fun w h => rmay_calls x hs A c w h hl) (fun hm k w h => rcount_calls x hs hm A c k w hl h) (fun hm w h => rsize_calls x hs hm A c w hl h) (by rw [pre]) (fun i => pre_s x i i rfl) (fun hm => pre_all hm)
end Go.Proofs.Ytcilojakgnjjmaa.LmC
/- The document's Take. -/
set_option linter.unusedSimpArgs false
set_option linter.unusedVariables false
namespace Go.Proofs.Ytcilojakgnjjmaa.MeY
open Go Go.RowKit Go.Proofs.YtcilojakgnjjmaaW.PrintWords Go.Proofs.YtcilojakgnjjmaaW.PrintLast Go.Proofs.YtcilojakgnjjmaaW.PrintMore Mem PAll MeP MeM MeN MeA MeT MeS MeX MeC MeV MeK MeQ MeR
set_option maxHeartbeats 4000000 in
theorem rtake_bad (x : V) (hs : Sz x) (A : Option Addr) (c : Nat) (PA : Option Addr) (pc : Nat) (p : List Int) (k : Int) (w : World) (hl : x.f3.length ≤ c) (hc : kV.C w A x.f3.length x.f3) (hb : ¬ (mayN 16 x = true ∧ 0 ≤ k ∧ k < 6)) :
    Calls Try.prog 11 #[.agg (aggV x A c), .slice PA p.length pc, .int .i64 k] w fun e w' => Gives (takeO x p k) w w' e := by
  have HT : Hid (takeO x p k = (z24, 1)) := Lib.hid (if_neg hb)
  have HB0 : Hid (Below w.heap.size w ((w.alloc (.cells (aggV x A c) 24)).alloc (.cells VZ 24))) := Lib.hid (below_alloc (below_alloc (Below.refl _ _) _) _)
  have HV0 := Lib.hid (blk_alloc (blk_new w (.cells (aggV x A c) 24)) (.cells VZ 24))
  have HZ0 : Hid (((w.alloc (.cells (aggV x A c) 24)).alloc (.cells VZ 24)).heap[w.heap.size + 1]? = some (.cells VZ 24 (0, 0))) := Lib.hid (by have := blk_new (w.alloc (.cells (aggV x A c) 24)) (.cells VZ 24); rwa [show (w.alloc (.cells (aggV x A c) 24)).heap.size = w.heap.size + 1 by simp only [World.alloc, Array.size_push]] at this)
  have c0 := blk_cell HV0.out 0
  have c1 := blk_cell HV0.out 1
  have c2 := blk_cell HV0.out 2
  have c3 := blk_cell HV0.out 3
  have T := Lib.hid (rmay_calls x hs A c _ (Kd.C_below hc HB0.out) hl)
  have hcs : mayN 16 x = false ∨ (mayN 16 x = true ∧ k < 0) ∨ (mayN 16 x = true ∧ ¬ k < 0 ∧ 6 ≤ k) := by
    cases h : mayN 16 x
    · exact .inl rfl
    · by_cases h1 : k < 0
      · exact .inr (.inl ⟨rfl, h1⟩)
      · by_cases h2 : k < 6
        · exact absurd ⟨h, by omega, h2⟩ hb
        · exact .inr (.inr ⟨rfl, h1, by omega⟩)
  clear hc hl hb hs
  rcases hcs with hm | ⟨hm, h1⟩ | ⟨hm, h1, h2⟩
  · rw [hm] at T
    clear hm
    go_enter Try.func11, Try.ntmps11
    go_wp2_with fail
    refine T.out.mono ?_
    rintro e w2 ⟨rfl, hb⟩
    have HZ := Lib.hid (blk_below HZ0.out hb)
    have HB2 := Lib.hid (below_then HB0.out HB0.out.size hb)
    clear hb T c0 c1 c2 c3 HV0 HZ0 HB0
    go_wp2_with ((refine gate_ (.store 24 (.tmp 6) (.tmp 20)) rfl ?_; go_must (refine Stb.store_list rfl rfl 24 (.tmp 6) (.tmp 20) rfl (cur' := #[.int .i64 0, .int .i64 0, .string ⟨#[]⟩, .slice none 0 0]) [.int .i64 0, .int .i64 0, .string ⟨#[]⟩, .slice none 0 0] (by exact HZ.out) (by rfl) (by rfl) (by rfl) (by kernel_rfl) (Nat.le_of_ble_eq_true rfl) (by rfl) (by rfl) ?_; intro wf hz_ hg_ hs_; have HF := Lib.hid hz_; have HG := Lib.hid hg_; have HS := Lib.hid hs_; have HBF := Lib.hid (Stb.below_grown1 HB2.out hg_ (Nat.le_add_right _ 1) HB2.out.size); clear hz_ hg_ hs_)))
    refine bodyPost_ret (results_ct rfl _ _ (w.heap.size + 1) 24 #[.int .i64 0, .int .i64 0, .string ⟨#[]⟩, .slice none 0 0] (0, 0) _ rfl HF.out Try.underlying24 rfl (by kernel_rfl)) rfl ?_
    exact gives_zero HT.out rfl HBF.out
  · rw [hm] at T
    have d1 : decide (k < 0) = true := decide_eq_true h1
    clear h1
    clear hm
    go_enter Try.func11, Try.ntmps11
    go_wp2_with fail
    refine T.out.mono ?_
    rintro e w2 ⟨rfl, hb⟩
    have HZ := Lib.hid (blk_below HZ0.out hb)
    have HB2 := Lib.hid (below_then HB0.out HB0.out.size hb)
    clear hb T c0 c1 c2 c3 HV0 HZ0 HB0
    go_wp2_with ((refine gate_ (.store 24 (.tmp 6) (.tmp 20)) rfl ?_; go_must (refine Stb.store_list rfl rfl 24 (.tmp 6) (.tmp 20) rfl (cur' := #[.int .i64 0, .int .i64 0, .string ⟨#[]⟩, .slice none 0 0]) [.int .i64 0, .int .i64 0, .string ⟨#[]⟩, .slice none 0 0] (by exact HZ.out) (by rfl) (by rfl) (by rfl) (by kernel_rfl) (Nat.le_of_ble_eq_true rfl) (by rfl) (by rfl) ?_; intro wf hz_ hg_ hs_; have HF := Lib.hid hz_; have HG := Lib.hid hg_; have HS := Lib.hid hs_; have HBF := Lib.hid (Stb.below_grown1 HB2.out hg_ (Nat.le_add_right _ 1) HB2.out.size); clear hz_ hg_ hs_)))
    refine bodyPost_ret (results_ct rfl _ _ (w.heap.size + 1) 24 #[.int .i64 0, .int .i64 0, .string ⟨#[]⟩, .slice none 0 0] (0, 0) _ rfl HF.out Try.underlying24 rfl (by kernel_rfl)) rfl ?_
    exact gives_zero HT.out rfl HBF.out
  · rw [hm] at T
    have d1 : decide (k < 0) = false := decide_eq_false h1
    have d2 : decide (6 ≤ k) = true := decide_eq_true h2
    clear h1 h2
    clear hm
    go_enter Try.func11, Try.ntmps11
    go_wp2_with fail
    refine T.out.mono ?_
    rintro e w2 ⟨rfl, hb⟩
    have HZ := Lib.hid (blk_below HZ0.out hb)
    have HB2 := Lib.hid (below_then HB0.out HB0.out.size hb)
    clear hb T c0 c1 c2 c3 HV0 HZ0 HB0
    go_wp2_with ((refine gate_ (.store 24 (.tmp 6) (.tmp 20)) rfl ?_; go_must (refine Stb.store_list rfl rfl 24 (.tmp 6) (.tmp 20) rfl (cur' := #[.int .i64 0, .int .i64 0, .string ⟨#[]⟩, .slice none 0 0]) [.int .i64 0, .int .i64 0, .string ⟨#[]⟩, .slice none 0 0] (by exact HZ.out) (by rfl) (by rfl) (by rfl) (by kernel_rfl) (Nat.le_of_ble_eq_true rfl) (by rfl) (by rfl) ?_; intro wf hz_ hg_ hs_; have HF := Lib.hid hz_; have HG := Lib.hid hg_; have HS := Lib.hid hs_; have HBF := Lib.hid (Stb.below_grown1 HB2.out hg_ (Nat.le_add_right _ 1) HB2.out.size); clear hz_ hg_ hs_)))
    refine bodyPost_ret (results_ct rfl _ _ (w.heap.size + 1) 24 #[.int .i64 0, .int .i64 0, .string ⟨#[]⟩, .slice none 0 0] (0, 0) _ rfl HF.out Try.underlying24 rfl (by kernel_rfl)) rfl ?_
    exact gives_zero HT.out rfl HBF.out
set_option maxHeartbeats 8000000 in
theorem rtake_ok (x : V) (hs : Sz x) (A : Option Addr) (c : Nat) (PA : Option Addr) (pc : Nat) (p : List Int) (k : Int) (w : World) (hl : x.f3.length ≤ c) (hc : kV.C w A x.f3.length x.f3) (hp : IK.C w PA p.length p) (hb : mayN 16 x = true ∧ 0 ≤ k ∧ k < 6) :
    Calls Try.prog 11 #[.agg (aggV x A c), .slice PA p.length pc, .int .i64 k] w fun e w' => Gives (takeO x p k) w w' e := by
  have HT : Hid (takeO x p k = (match walkP x p with | none => (z24, 4) | some y => if y.f0 = k then (y, 0) else (z24, 5))) := Lib.hid (if_pos hb)
  have HB0 : Hid (Below w.heap.size w ((w.alloc (.cells (aggV x A c) 24)).alloc (.cells VZ 24))) := Lib.hid (below_alloc (below_alloc (Below.refl _ _) _) _)
  have HV0 := Lib.hid (blk_alloc (blk_new w (.cells (aggV x A c) 24)) (.cells VZ 24))
  have HZ0 : Hid (((w.alloc (.cells (aggV x A c) 24)).alloc (.cells VZ 24)).heap[w.heap.size + 1]? = some (.cells VZ 24 (0, 0))) := Lib.hid (by have := blk_new (w.alloc (.cells (aggV x A c) 24)) (.cells VZ 24); rwa [show (w.alloc (.cells (aggV x A c) 24)).heap.size = w.heap.size + 1 by simp only [World.alloc, Array.size_push]] at this)
  have c0 := blk_cell HV0.out 0
  have c1 := blk_cell HV0.out 1
  have c2 := blk_cell HV0.out 2
  have c3 := blk_cell HV0.out 3
  have T := Lib.hid (rmay_calls x hs A c _ (Kd.C_below hc HB0.out) hl)
  have d1 : decide (k < 0) = false := decide_eq_false (by omega)
  have d2 : decide (6 ≤ k) = false := decide_eq_false (by omega)
  have HC0 := Lib.hid (Kd.C_below hc HB0.out)
  have HP0 := Lib.hid (Kd.C_below hp HB0.out)
  have HPL : Hid (p.length ≤ 9223372036854775807) := Lib.hid hp.2.1
  have hpl : p.length ≤ 9223372036854775807 := hp.2.1
  have HL := Lib.hid hl
  have HCW := Lib.hid hc
  have HPW := Lib.hid hp
  rw [hb.1] at T
  clear hc hl hb hp hs
  go_enter Try.func11, Try.ntmps11
  go_wp2_with fail
  refine T.out.mono ?_
  rintro e w2 ⟨rfl, hb⟩
  have HV2 := Lib.hid (blk_below HV0.out hb)
  have HZ2 := Lib.hid (blk_below HZ0.out hb)
  have HB2 := Lib.hid (below_then HB0.out HB0.out.size hb)
  clear hb T c0 c1 c2 c3 HV0 HZ0 HB0 HC0 HP0
  go_wp2_with fail
  go_loopw [8] (fun i' wr => ∃ (i : Nat) (y : V) (A1 : Option Addr) (c1 : Nat), i' = .int .i64 i ∧ Hid (i ≤ p.length) ∧ Hid (walkP x p = walkP y (p.drop i)) ∧ Hid (y.f3.length ≤ c1) ∧ Hid (kV.C w A1 y.f3.length y.f3) ∧ Hid (wr.heap[w.heap.size]? = some (.cells (aggV y A1 c1) 24 (0, 0))) ∧ Hid (wr.heap[w.heap.size + 1]? = some (.cells VZ 24 (0, 0))) ∧ Hid (Below w.heap.size w wr)) (fun i' _ => (p.length - intOf i').toNat)
  case atStart => exact ⟨0, x, A, c, rfl, Lib.hid (Nat.zero_le _), Lib.hid (by rw [List.drop_zero]), HL, HCW, HV2, HZ2, HB2⟩
  case round =>
    obtain ⟨i, x1, A1, n1, rfl, HI, HW, HL1, HC1, HVR, HZR, HBR⟩ := hrel
    have c0 := blk_cell HVR.out 0
    have c1 := blk_cell HVR.out 1
    have c2 := blk_cell HVR.out 2
    have c3 := blk_cell HVR.out 3
    by_cases h : i < p.length
    · have hlt : decide (i < p.length) = true := decide_eq_true h
      have hlt2 : decide ((i : Int) < (p.length : Int)) = true := decide_eq_true (by omega)
      have i0 : (0 : Int) ≤ i := by omega
      have i1 : (i : Int) < p.length := by omega
      obtain ⟨ad, q, hq, hA, cq⟩ := at_I (Kd.C_below HPW.out HBR.out) i h
      subst hA
      have HLT := Lib.hid h
      have HQ : Hid (p.drop i = q :: p.drop (i + 1)) := Lib.hid (by
        rw [List.drop_eq_getElem_cons h]
        have := List.getElem?_eq_getElem h
        rw [this] at hq
        rw [Option.some.inj hq])
      clear h hq
      by_cases h5 : x1.f0 = 5
      · have n5 : decide (x1.f0 = 5) = true := decide_eq_true h5
        have n6 : (x1.f0 == 5) = true := beq_iff_eq.2 h5
        have n7 : (x1.f0 != 5) = false := by rw [bne, n6]; rfl
        by_cases hq0 : q < 0
        · have m0 : decide (q < 0) = true := decide_eq_true hq0
          have HNO : Hid (takeO x p k = (z24, 4)) := Lib.hid (by
            rw [HT.out, HW.out, HQ.out, walkP_cons, if_neg (fun h => by have := h.2.1; omega)])
          clear hq0 h5
          go_wp2_with fail
          go_quiet (fail)
          have HZp := Lib.hid (blk_below HZR.out (pw_below_drewN (Below.refl _ _) nq))
          have HBp := Lib.hid (pw_below_drewN HBR.out nq)
          obtain ⟨wp, hwp⟩ : ∃ wp, wp = wr.drewN nq := ⟨_, rfl⟩
          rw [← hwp] at HZp HBp ⊢
          clear c0 c1 c2 c3 cq HVR HZR HBR hwp
          go_wp2_with ((refine gate_ (.store 24 (.tmp 6) (.tmp 47)) rfl ?_; go_must (refine Stb.store_list rfl rfl 24 (.tmp 6) (.tmp 47) rfl (cur' := #[.int .i64 0, .int .i64 0, .string ⟨#[]⟩, .slice none 0 0]) [.int .i64 0, .int .i64 0, .string ⟨#[]⟩, .slice none 0 0] (by exact HZp.out) (by rfl) (by rfl) (by rfl) (by kernel_rfl) (Nat.le_of_ble_eq_true rfl) (by rfl) (by rfl) ?_; intro wf hz_ hg_ hs_; have HF := Lib.hid hz_; have HG := Lib.hid hg_; have HS := Lib.hid hs_; have HBF := Lib.hid (Stb.below_grown1 HBp.out hg_ (Nat.le_add_right _ 1) HBp.out.size); clear hz_ hg_ hs_)))
          refine bodyPost_ret (results_ct rfl _ _ (w.heap.size + 1) 24 #[.int .i64 0, .int .i64 0, .string ⟨#[]⟩, .slice none 0 0] (0, 0) _ rfl HF.out Try.underlying24 rfl (by kernel_rfl)) rfl ?_
          exact gives_zero HNO.out rfl HBF.out
        · have m0 : decide (q < 0) = false := decide_eq_false hq0
          by_cases hq1 : q < (x1.f3.length : Int)
          · have m1 : decide ((x1.f3.length : Int) ≤ q) = false := decide_eq_false (by omega)
            obtain ⟨j, hj⟩ := Int.eq_ofNat_of_zero_le (show 0 ≤ q by omega)
            subst hj
            have hjl : j < x1.f3.length := by omega
            have q0 : (0 : Int) ≤ j := by omega
            have q1 : (j : Int) < x1.f3.length := by omega
            have HNX : Hid (∀ y, x1.f3[j]? = some y → walkP x p = walkP y (p.drop (i + 1))) := Lib.hid (fun y hy => by
              rw [HW.out, HQ.out, walkP_cons, if_pos ⟨h5, q0, q1⟩, Int.toNat_natCast, hy]
              rfl)
            have HJ := Lib.hid hjl
            clear hq0 hq1 hjl h5
            go_wp2_with fail
            go_quiet (fail)
            have HVp := Lib.hid (blk_below HVR.out (pw_below_drewN (Below.refl _ _) nq))
            have HZp := Lib.hid (blk_below HZR.out (pw_below_drewN (Below.refl _ _) nq))
            have HBp := Lib.hid (pw_below_drewN HBR.out nq)
            obtain ⟨wp, hwp⟩ : ∃ wp, wp = wr.drewN nq := ⟨_, rfl⟩
            rw [← hwp] at HVp HZp HBp ⊢
            clear c0 c1 c2 c3 cq HVR HZR HBR hwp
            obtain ⟨ad2, q2, hq2, hA2, cq⟩ := at_I (Kd.C_below HPW.out HBp.out) i HLT.out
            obtain rfl : ad = ad2 := Option.some.inj hA2
            obtain rfl : (j : Int) = q2 := by
              have h1 := HQ.out
              rw [List.drop_eq_getElem_cons HLT.out] at h1
              have h2 := List.getElem?_eq_getElem HLT.out
              rw [h2] at hq2
              rw [← Option.some.inj hq2, (List.cons.inj h1).1]
            obtain ⟨ad1, y, A3, c3n, hy, hA1, a0, a1, a2, a3, a4, _⟩ := at_V (Kd.C_below HC1.out HBp.out) j HJ.out
            have HC3 : Hid (kV.C w A3 y.f3.length y.f3) := Lib.hid (by
              obtain ⟨ad12, y2, A32, c32, hy2, hA12, b0, b1, b2, b3, b4, b5⟩ := at_V HC1.out j HJ.out
              obtain rfl : y = y2 := by rw [hy] at hy2; exact Option.some.inj hy2
              obtain rfl : ad1 = ad12 := Option.some.inj (hA1.symm.trans hA12)
              have hlt := block_lt_of_cell b3
              have h := (HBp.out.cell hlt).trans b3
              rw [a3] at h
              injection h with h
              injection h with h _ _
              rw [h]
              exact b5)
            have HWY := Lib.hid (HNX.out y hy)
            have HY4 : Hid (y.f3.length ≤ c3n) := Lib.hid a4
            have c3 := blk_cell HVp.out 3
            subst hA1
            go_wp2_with fail
            have HVq := Lib.hid (blk_below HVp.out (below_drew (Below.refl _ _)))
            have HZq := Lib.hid (blk_below HZp.out (below_drew (Below.refl _ _)))
            have HBq := Lib.hid (below_drew HBp.out)
            refine start_ (n := 9) (S := fun w' => ∀ a, w'.cell? a = wp.cell? a) (ds := [8]) #[false, false, false, false, false, false, false, false, false] (by kernel_rfl) rfl rfl (fun _ => rfl) (fun hHeld => ?_)
            refine pure_ (i := 0) (N := some 48) (v := ?_) (a' := ?_) #[true, false, false, false, false, false, false, false, false] rfl rfl (by kernel_rfl) (fun _ _ _ h => h) (Or.inl ⟨by rfl, ?_⟩) ?_ ?_
            rotate_left
            · intro w'
              go_simp
              with_reducible rfl
            rotate_left
            · simp only [Act.put, List.setIfInBounds_toArray, List.set_cons_zero, List.set_cons_succ, i64_w, i32_w]
              rfl
            refine take_ (i := 1) (N := some 49) (v := ?_) (a' := ?_) #[true, true, false, false, false, false, false, false, false] rfl rfl (by kernel_rfl) (fun _ _ _ h => h) (Or.inl ⟨by rfl, ?_⟩) hHeld ?_ ?_
            rotate_left
            · rintro w' hS
              have c3' := (hS _).trans c3
              go_simp
              with_reducible rfl
            rotate_left
            · simp only [Act.put, List.setIfInBounds_toArray, List.set_cons_zero, List.set_cons_succ, i64_w, i32_w]
              rfl
            refine pure_ (i := 2) (N := some 50) (v := ?_) (a' := ?_) #[true, true, true, false, false, false, false, false, false] rfl rfl (by kernel_rfl) (fun _ _ _ h => h) (Or.inl ⟨by rfl, ?_⟩) ?_ ?_
            rotate_left
            · intro w'
              go_simp
              with_reducible rfl
            rotate_left
            · simp only [Act.put, List.setIfInBounds_toArray, List.set_cons_zero, List.set_cons_succ, i64_w, i32_w]
              rfl
            refine pure_ (i := 3) (N := some 51) (v := ?_) (a' := ?_) #[true, true, true, true, false, false, false, false, false] rfl rfl (by kernel_rfl) (fun _ _ _ h => h) (Or.inl ⟨by rfl, ?_⟩) ?_ ?_
            rotate_left
            · intro w'
              go_simp
              with_reducible rfl
            rotate_left
            · simp only [Act.put, List.setIfInBounds_toArray, List.set_cons_zero, List.set_cons_succ, i64_w, i32_w]
              rfl
            refine pure_ (i := 4) (N := some 52) (v := ?_) (a' := ?_) #[true, true, true, true, true, false, false, false, false] rfl rfl (by kernel_rfl) (fun _ _ _ h => h) (Or.inl ⟨by rfl, ?_⟩) ?_ ?_
            rotate_left
            · intro w'
              go_simp
              with_reducible rfl
            rotate_left
            · simp only [Act.put, List.setIfInBounds_toArray, List.set_cons_zero, List.set_cons_succ, i64_w, i32_w]
              rfl
            refine take_ (i := 5) (N := some 53) (v := ?_) (a' := ?_) #[true, true, true, true, true, true, false, false, false] rfl rfl (by kernel_rfl) (fun _ _ _ h => h) (Or.inl ⟨by rfl, ?_⟩) hHeld ?_ ?_
            rotate_left
            · rintro w' hS
              have cq' := (hS _).trans cq
              go_simp
              with_reducible rfl
            rotate_left
            · simp only [Act.put, List.setIfInBounds_toArray, List.set_cons_zero, List.set_cons_succ, i64_w, i32_w]
              rfl
            refine pure_ (i := 6) (N := some 54) (v := ?_) (a' := ?_) #[true, true, true, true, true, true, true, false, false] rfl rfl (by kernel_rfl) (fun _ _ _ h => h) (Or.inl ⟨by rfl, ?_⟩) ?_ ?_
            rotate_left
            · intro w'
              go_simp
              with_reducible rfl
            rotate_left
            · simp only [Act.put, List.setIfInBounds_toArray, List.set_cons_zero, List.set_cons_succ, i64_w, i32_w]
              rfl
            refine take_ (i := 7) (N := some 55) (v := ?_) (a' := ?_) #[true, true, true, true, true, true, true, true, false] rfl rfl (by kernel_rfl) (fun _ _ _ h => h) (Or.inl ⟨by rfl, ?_⟩) hHeld ?_ ?_
            rotate_left
            · rintro w' hS
              have a0' := (hS _).trans a0
              have a1' := (hS _).trans a1
              have a2' := (hS _).trans a2
              have a3' := (hS _).trans a3
              go_simp
              with_reducible rfl
            rotate_left
            · simp only [Act.put, List.setIfInBounds_toArray, List.set_cons_zero, List.set_cons_succ, i64_w, i32_w]
              rfl
            refine last_ (i := 8) (N := none) #[true, true, true, true, true, true, true, true, true] rfl rfl (by kernel_rfl) (by decide) (fun K hK => ?_)
            refine Stb.store_step (by rfl) rfl 24 (.tmp 3) (.tmp 55) (by rfl) (cur' := #[.int .i64 y.f0, .int .i64 y.f1, .string y.f2, .slice A3 y.f3.length c3n]) [.int .i64 y.f0, .int .i64 y.f1, .string y.f2, .slice A3 y.f3.length c3n] HVq.out (by rfl) (by rfl) (by rfl) (by kernel_rfl) (Nat.le_of_ble_eq_true rfl) (by rfl) (by rfl) ?_
            intro wf hz hg hs
            have HF := Lib.hid hz
            have HZ3 := Lib.hid (blk_grown HZq.out hg (by simp))
            have HB3 := Lib.hid (Stb.below_grown1 HBq.out hg (Nat.le_refl _) HBq.out.size)
            clear hz hg hs
            refine hK.out _ _ ?_
            clear hK K
            refine norm_ (a' := ?_) ?_ ?_
            rotate_left
            · show Act.put _ (none) _ = _
              simp only [Act.put, List.setIfInBounds_toArray, List.set_cons_zero, List.set_cons_succ, i64_w, i32_w]
              rfl
            refine done_ (by kernel_rfl) ?_
            go_wp2_with fail
            go_roundw
            case rel =>
              refine ⟨i + 1, y, A3, c3n, by go_num, Lib.hid (by have := HLT.out; omega), HWY, HY4, HC3, HF, HZ3, HB3⟩
            case measure => have := HLT.out; simp only [intOf]; omega
          · have m1 : decide ((x1.f3.length : Int) ≤ q) = true := decide_eq_true (by omega)
            have HNO : Hid (takeO x p k = (z24, 4)) := Lib.hid (by
              rw [HT.out, HW.out, HQ.out, walkP_cons, if_neg (fun h => by have := h.2.2; omega)])
            clear hq0 h5 hq1
            go_wp2_with fail
            go_quiet (fail)
            have HZp := Lib.hid (blk_below HZR.out (pw_below_drewN (Below.refl _ _) nq))
            have HBp := Lib.hid (pw_below_drewN HBR.out nq)
            obtain ⟨wp, hwp⟩ : ∃ wp, wp = wr.drewN nq := ⟨_, rfl⟩
            rw [← hwp] at HZp HBp ⊢
            clear c0 c1 c2 c3 cq HVR HZR HBR hwp
            go_wp2_with ((refine gate_ (.store 24 (.tmp 6) (.tmp 47)) rfl ?_; go_must (refine Stb.store_list rfl rfl 24 (.tmp 6) (.tmp 47) rfl (cur' := #[.int .i64 0, .int .i64 0, .string ⟨#[]⟩, .slice none 0 0]) [.int .i64 0, .int .i64 0, .string ⟨#[]⟩, .slice none 0 0] (by exact HZp.out) (by rfl) (by rfl) (by rfl) (by kernel_rfl) (Nat.le_of_ble_eq_true rfl) (by rfl) (by rfl) ?_; intro wf hz_ hg_ hs_; have HF := Lib.hid hz_; have HG := Lib.hid hg_; have HS := Lib.hid hs_; have HBF := Lib.hid (Stb.below_grown1 HBp.out hg_ (Nat.le_add_right _ 1) HBp.out.size); clear hz_ hg_ hs_)))
            refine bodyPost_ret (results_ct rfl _ _ (w.heap.size + 1) 24 #[.int .i64 0, .int .i64 0, .string ⟨#[]⟩, .slice none 0 0] (0, 0) _ rfl HF.out Try.underlying24 rfl (by kernel_rfl)) rfl ?_
            exact gives_zero HNO.out rfl HBF.out
      · have n5 : decide (x1.f0 = 5) = false := decide_eq_false h5
        have n6 : (x1.f0 == 5) = false := beq_false_of_ne h5
        have n7 : (x1.f0 != 5) = true := by rw [bne, n6]; rfl
        have HNO : Hid (takeO x p k = (z24, 4)) := Lib.hid (by
          rw [HT.out, HW.out, HQ.out, walkP_cons, if_neg (fun h => h5 h.1)])
        clear h5
        go_wp2_with fail
        go_quiet (fail)
        have HZp := Lib.hid (blk_below HZR.out (pw_below_drewN (Below.refl _ _) nq))
        have HBp := Lib.hid (pw_below_drewN HBR.out nq)
        obtain ⟨wp, hwp⟩ : ∃ wp, wp = wr.drewN nq := ⟨_, rfl⟩
        rw [← hwp] at HZp HBp ⊢
        clear c0 c1 c2 c3 cq HVR HZR HBR hwp
        go_wp2_with ((refine gate_ (.store 24 (.tmp 6) (.tmp 47)) rfl ?_; go_must (refine Stb.store_list rfl rfl 24 (.tmp 6) (.tmp 47) rfl (cur' := #[.int .i64 0, .int .i64 0, .string ⟨#[]⟩, .slice none 0 0]) [.int .i64 0, .int .i64 0, .string ⟨#[]⟩, .slice none 0 0] (by exact HZp.out) (by rfl) (by rfl) (by rfl) (by kernel_rfl) (Nat.le_of_ble_eq_true rfl) (by rfl) (by rfl) ?_; intro wf hz_ hg_ hs_; have HF := Lib.hid hz_; have HG := Lib.hid hg_; have HS := Lib.hid hs_; have HBF := Lib.hid (Stb.below_grown1 HBp.out hg_ (Nat.le_add_right _ 1) HBp.out.size); clear hz_ hg_ hs_)))
        refine bodyPost_ret (results_ct rfl _ _ (w.heap.size + 1) 24 #[.int .i64 0, .int .i64 0, .string ⟨#[]⟩, .slice none 0 0] (0, 0) _ rfl HF.out Try.underlying24 rfl (by kernel_rfl)) rfl ?_
        exact gives_zero HNO.out rfl HBF.out
    · obtain rfl : i = p.length := by have := HI.out; omega
      have hlt : decide (p.length < p.length) = false := decide_eq_false (Nat.lt_irrefl _)
      have hlt2 : decide ((p.length : Int) < (p.length : Int)) = false := decide_eq_false (by omega)
      have HWY : Hid (takeO x p k = if x1.f0 = k then (x1, 0) else (z24, 5)) := Lib.hid (by rw [HT.out, HW.out, List.drop_length]; rfl)
      clear h
      by_cases hk : x1.f0 = k
      · have HYK : Hid (takeO x p k = (x1, 0)) := Lib.hid (HWY.out.trans (if_pos hk))
        subst hk
        go_wp2_with ((refine gate_ (.store 24 (.tmp 6) (.tmp 61)) rfl ?_; go_must (refine Stb.store_list rfl rfl 24 (.tmp 6) (.tmp 61) rfl (cur' := #[.int .i64 x1.f0, .int .i64 x1.f1, .string x1.f2, .slice A1 x1.f3.length n1]) [.int .i64 x1.f0, .int .i64 x1.f1, .string x1.f2, .slice A1 x1.f3.length n1] (by exact HZR.out) (by rfl) (by rfl) (by rfl) (by kernel_rfl) (Nat.le_of_ble_eq_true rfl) (by rfl) (by rfl) ?_; intro wf hz_ hg_ hs_; have HF := Lib.hid hz_; have HG := Lib.hid hg_; have HS := Lib.hid hs_; have HBF := Lib.hid (Stb.below_grown1 HBR.out hg_ (Nat.le_add_right _ 1) HBR.out.size); clear hz_ hg_ hs_)))
        refine bodyPost_ret (results_ct rfl _ _ (w.heap.size + 1) 24 #[.int .i64 x1.f0, .int .i64 x1.f1, .string x1.f2, .slice A1 x1.f3.length n1] (0, 0) _ rfl HF.out Try.underlying24 rfl (by kernel_rfl)) rfl ?_
        exact (show Gives (takeO x p x1.f0) w _ _ from by rw [HYK.out]; exact ⟨HBF.out, A1, n1, rfl, HL1.out, Kd.C_below HC1.out HBF.out⟩)
      · have HYK : Hid (takeO x p k = (z24, 5)) := Lib.hid (HWY.out.trans (if_neg hk))
        have n1 : decide (x1.f0 = k) = false := decide_eq_false hk
        have n2 : (x1.f0 == k) = false := beq_false_of_ne hk
        have n3 : (x1.f0 != k) = true := by rw [bne, n2]; rfl
        clear hk
        go_wp2_with ((refine gate_ (.store 24 (.tmp 6) (.tmp 60)) rfl ?_; go_must (refine Stb.store_list rfl rfl 24 (.tmp 6) (.tmp 60) rfl (cur' := #[.int .i64 0, .int .i64 0, .string ⟨#[]⟩, .slice none 0 0]) [.int .i64 0, .int .i64 0, .string ⟨#[]⟩, .slice none 0 0] (by exact HZR.out) (by rfl) (by rfl) (by rfl) (by kernel_rfl) (Nat.le_of_ble_eq_true rfl) (by rfl) (by rfl) ?_; intro wf hz_ hg_ hs_; have HF := Lib.hid hz_; have HG := Lib.hid hg_; have HS := Lib.hid hs_; have HBF := Lib.hid (Stb.below_grown1 HBR.out hg_ (Nat.le_add_right _ 1) HBR.out.size); clear hz_ hg_ hs_)))
        refine bodyPost_ret (results_ct rfl _ _ (w.heap.size + 1) 24 #[.int .i64 0, .int .i64 0, .string ⟨#[]⟩, .slice none 0 0] (0, 0) _ rfl HF.out Try.underlying24 rfl (by kernel_rfl)) rfl ?_
        exact gives_zero HYK.out rfl HBF.out
theorem rtake_calls (x : V) (hs : Sz x) (A : Option Addr) (c : Nat) (PA : Option Addr) (pc : Nat) (p : List Int) (k : Int) (w : World) (hl : x.f3.length ≤ c) (hc : kV.C w A x.f3.length x.f3) (hp : IK.C w PA p.length p) :
    Calls Try.prog 11 #[.agg (aggV x A c), .slice PA p.length pc, .int .i64 k] w fun e w' => Gives (takeO x p k) w w' e := by
  by_cases hb : mayN 16 x = true ∧ 0 ≤ k ∧ k < 6
  · exact rtake_ok x hs A c PA pc p k w hl hc hp hb
  · exact rtake_bad x hs A c PA pc p k w hl hc hb
end Go.Proofs.Ytcilojakgnjjmaa.MeY
/- MessageTakes. -/
set_option linter.unusedSimpArgs false
set_option linter.unusedVariables false
namespace Go.Proofs.Ytcilojakgnjjmaa.LmT
open Go Go.RowKit Go.Proofs.YtcilojakgnjjmaaW.PrintWords Go.Proofs.YtcilojakgnjjmaaW.PrintLast Go.Proofs.YtcilojakgnjjmaaW.PrintMore Mem PAll MeP MeM MeN MeA MeT MeS MeX MeC MeV MeK MeW MeQ MeR MeY
theorem infoI : (Try.prog.info? 3).map (fun i => (i.zero, i.size, i.bytes)) = some (some (.int .i64 0), IK.sz, 8) := by kernel_rfl
set_option maxHeartbeats 16000000 in
set_option maxRecDepth 100000 in
theorem takes_calls (x : V) (hs : Sz x) (A : Option Addr) (c : Nat) (PA : Option Addr) (pc : Nat) (p : List Int) (k : Int) (w : World) (hl : x.f3.length ≤ c) (hc : kV.C w A x.f3.length x.f3) (hp : IK.C w PA p.length p) (hpl : p.length * 8 ≤ 140737488355328) :
    Calls Try.prog 3 #[.agg (aggV x A c), .slice PA p.length pc, .int .i64 k] w fun e w' => e = .returned (.bool true) ∧ Below w.heap.size w w' := by
  have HB0 := Lib.hid (below_alloc (Below.refl w.heap.size w) (.cells (aggV x A c) 24))
  have HV0 := Lib.hid (blk_new w (.cells (aggV x A c) 24))
  have c0 := blk_cell HV0.out 0
  have c1 := blk_cell HV0.out 1
  have c2 := blk_cell HV0.out 2
  have c3 := blk_cell HV0.out 3
  obtain ⟨lt, hlt⟩ := light_calls x hs A c _ (Kd.C_below hc HB0.out) hl
  have TL := Lib.hid hlt
  have HS := Lib.hid hs
  have HC := Lib.hid hc
  have HP := Lib.hid hp
  have HL := Lib.hid hl
  have HPL := Lib.hid hpl
  clear hlt hs hc hp hl hpl
  go_enter Try.func3, Try.ntmps3
  go_wp2_with fail
  refine TL.out.mono ?_
  rintro e w3 ⟨rfl, hb⟩
  have HB3 := Lib.hid (below_then HB0.out HB0.out.size hb)
  have HV3 := Lib.hid (blk_below HV0.out hb)
  clear hb TL HB0 HV0 c0 c1 c2 c3
  have c0 := blk_cell HV3.out 0
  have c1 := blk_cell HV3.out 1
  have c2 := blk_cell HV3.out 2
  have c3 := blk_cell HV3.out 3
  cases lt
  · go_wp2_with fail
    refine (awake_calls _).mono ?_
    rintro e wz ⟨rfl, hb⟩
    have HBZ := Lib.hid (below_then HB3.out HB3.out.size hb)
    clear hb
    go_wp2_with fail
    go_ret
    exact ⟨rfl, HBZ.out⟩
  · go_wp2_with fail
    obtain ⟨yy, hyy⟩ : ∃ yy, yy = takeO x p k := ⟨_, rfl⟩
    have HY := Lib.hid hyy
    clear hyy
    obtain ⟨y, er⟩ := yy
    refine start_ (n := 12) (S := fun w' => Below w3.heap.size w3 w') (ds := [11]) #[false, false, false, false, false, false, false, false, false, false, false, false] (by kernel_rfl) rfl rfl (below_drew (Below.refl _ _)) (fun hHeld => ?_)
    have HB4 := Lib.hid (below_drew (Below.refl w3.heap.size w3))
    generalize w3.drew = wd at HB4 hHeld ⊢
    refine take_ (i := 0) (N := some 16) (v := ?_) (a' := ?_) #[true, false, false, false, false, false, false, false, false, false, false, false] rfl rfl (by kernel_rfl) (fun _ _ _ h => h) (Or.inl ⟨by rfl, ?_⟩) hHeld ?_ ?_
    rotate_left
    · rintro w' hS
      have x0 := pw_cell_below hS c0
      have x1 := pw_cell_below hS c1
      have x2 := pw_cell_below hS c2
      have x3 := pw_cell_below hS c3
      go_simp
      with_reducible rfl
    rotate_left
    · simp only [Act.put, List.setIfInBounds_toArray, List.set_cons_zero, List.set_cons_succ, i64_w, i32_w]
      rfl
    refine pure_ (i := 2) (N := some 18) (v := ?_) (a' := ?_) #[true, false, true, false, false, false, false, false, false, false, false, false] rfl rfl (by kernel_rfl) (fun _ _ _ h => h) (Or.inl ⟨by rfl, ?_⟩) ?_ ?_
    rotate_left
    · intro w'
      go_simp
      with_reducible rfl
    rotate_left
    · simp only [Act.put, List.setIfInBounds_toArray, List.set_cons_zero, List.set_cons_succ, i64_w, i32_w]
      rfl
    refine pure_ (i := 4) (N := some 20) (v := ?_) (a' := ?_) #[true, false, true, false, true, false, false, false, false, false, false, false] rfl rfl (by kernel_rfl) (fun _ _ _ h => h) (Or.inl ⟨by rfl, ?_⟩) ?_ ?_
    rotate_left
    · intro w'
      go_simp
      with_reducible rfl
    rotate_left
    · simp only [Act.put, List.setIfInBounds_toArray, List.set_cons_zero, List.set_cons_succ, i64_w, i32_w]
      rfl
    refine join_ (σ := (Nat × Value) × (Value × Value)) 0 #[true, true, true, true, true, true, true, true, true, true, true, true] (fun s => [(7, .pointer (some ⟨s.1.1, 0, none⟩)), (8, .int .i64 er), (15, .tuple #[.agg #[.int .i64 y.f0, .int .i64 y.f1, .string y.f2, s.1.2], .int .i64 er]), (17, s.2.1), (19, s.2.2), (21, .tuple #[.agg #[.int .i64 y.f0, .int .i64 y.f1, .string y.f2, s.1.2], .int .i64 er]), (22, .agg #[.int .i64 y.f0, .int .i64 y.f1, .string y.f2, s.1.2]), (23, .int .i64 er)]) (fun s w' => Hid (w'.heap[s.1.1]? = some (.cells #[.int .i64 y.f0, .int .i64 y.f1, .string y.f2, s.1.2] 24 (0, 0))) ∧ Hid (kV.R 24 w' w3.heap.size (fun _ => True) s.1.2 y.f3) ∧ Hid (Below w3.heap.size w3 w')) ?_ (fun hfin => ?_)
    · rintro ⟨⟨g7, v5⟩, ⟨v17, v19⟩⟩ w5 ⟨H7, HR5, HB5⟩
      dsimp only at H7 HR5
      refine norm_ (a' := ?_) ?_ ?_
      rotate_left
      · show putAll _ _ = _
        simp only [putAll, Act.put, List.setIfInBounds_toArray, List.set_cons_zero, List.set_cons_succ]
        rfl
      refine done_ (by kernel_rfl) ?_
      obtain ⟨A5, n5, rfl, hl5, hc5⟩ := Kd.R_reads HR5.out
      have HL5 := Lib.hid hl5
      have HC5 := Lib.hid hc5
      have HBB := Lib.hid (below_then HB3.out HB3.out.size HB5.out)
      have HV5 := Lib.hid (blk_below HV3.out HB5.out)
      clear c0 c1 c2 c3 HV3 HB3 HB5 HR5 hl5 hc5
      have c0 := blk_cell HV5.out 0
      have c1 := blk_cell HV5.out 1
      have c2 := blk_cell HV5.out 2
      have c3 := blk_cell HV5.out 3
      have TR := Lib.hid (rtake_calls x HS.out A c PA pc p k w5 HL.out (Kd.C_below HC.out HBB.out) (Kd.C_below HP.out HBB.out))
      rw [← HY.out] at TR
      go_wp2_with fail
      refine TR.out.mono ?_
      rintro e w6 ⟨hb, A6, n6, he, hl6, hc6⟩
      replace he : e = .returned (.tuple #[.agg #[.int .i64 y.f0, .int .i64 y.f1, .string y.f2, .slice A6 y.f3.length n6], .int .i64 er]) := he
      subst he
      have HB7 := Lib.hid (below_alloc (below_then HBB.out HBB.out.size hb) (.cells #[.int .i64 y.f0, .int .i64 y.f1, .string y.f2, .slice A6 y.f3.length n6] 24))
      have H77 := Lib.hid (blk_alloc (blk_below H7.out hb) (.cells #[.int .i64 y.f0, .int .i64 y.f1, .string y.f2, .slice A6 y.f3.length n6] 24))
      have H97 := Lib.hid (blk_new w6 (.cells #[.int .i64 y.f0, .int .i64 y.f1, .string y.f2, .slice A6 y.f3.length n6] 24))
      have HC57 := Lib.hid (Kd.C_alloc (Kd.C_below HC5.out hb) (.cells #[.int .i64 y.f0, .int .i64 y.f1, .string y.f2, .slice A6 y.f3.length n6] 24))
      have HC67 := Lib.hid (Kd.C_alloc hc6 (.cells #[.int .i64 y.f0, .int .i64 y.f1, .string y.f2, .slice A6 y.f3.length n6] 24))
      have HL6 := Lib.hid hl6
      clear hb TR hc6 hl6 c0 c1 c2 c3 HV5 H7 HC5 HBB
      have c0 := blk_cell H77.out 0
      have c1 := blk_cell H77.out 1
      have c2 := blk_cell H77.out 2
      have c3 := blk_cell H77.out 3
      have d0 := blk_cell H97.out 0
      have d1 := blk_cell H97.out 1
      have d2 := blk_cell H97.out 2
      have d3 := blk_cell H97.out 3
      have HSY : Hid (Sz y) := Lib.hid (by
        have h := take_sz x HS.out p k
        rw [← HY.out] at h
        exact h)
      obtain ⟨r, hr, hsame⟩ := same_calls y y HSY.out A5 A6 n5 n6 _ HC57.out HL5.out HC67.out HL6.out
      obtain rfl : r = true := hr.2 rfl
      have TS := Lib.hid hsame
      clear hsame hr
      go_wp2_with fail
      refine TS.out.mono ?_
      rintro e w8 ⟨rfl, hb⟩
      have HB8 := Lib.hid (below_then HB7.out HB7.out.size hb)
      clear hb TS c0 c1 c2 c3 d0 d1 d2 d3
      go_wp2_with fail
      refine (awake_calls _).mono ?_
      rintro e wz ⟨rfl, hb⟩
      have HBZ := Lib.hid (below_then HB8.out HB8.out.size hb)
      clear hb
      go_wp2_with fail
      go_ret
      exact ⟨rfl, HBZ.out⟩
    refine two_ (i := 1) (j := 9) (Ni := some 17) (Nj := some 7) #[true, true, true, false, true, false, false, false, false, false, false, false] #[true, false, true, false, true, false, false, false, false, true, false, false] rfl rfl rfl rfl (by kernel_rfl) (by decide) (by decide) (fun K hK => ?_) (fun K hK => ?_)
    · refine value_ (w1 := ?_) (v := ?_) (by rfl) rfl ?_ ?_
      rotate_left 2
      · go_simp
        constructor
        · rfl
        · rfl
      refine hK.out _ _ (below_alloc HB4.out _) (fun hHeld => ?_)
      clear hK K
      refine norm_ (a' := ?_) ?_ ?_
      rotate_left
      · show Act.put _ (some 17) _ = _
        simp only [Act.put, List.setIfInBounds_toArray, List.set_cons_zero, List.set_cons_succ, i64_w, i32_w]
        rfl
      have HB11 := Lib.hid hHeld
      have R11 : Hid (IK.R 3 (wd.alloc (.cells #[] 3)) w3.heap.size (fun _ => True) (.slice (some ⟨wd.heap.size, 0, none⟩) 0 0) []) := Lib.hid ⟨fun _ _ => trivial, OwnRow.lit wd w3.heap.size (ps := []) (inner := []) (Reps.none _ _) HB4.out.size (Nat.zero_le _)⟩
      have LQ : Hid (wd.heap.size < (wd.alloc (.cells #[] 3)).heap.size) := Lib.hid (by simp only [World.alloc, Array.size_push]; omega)
      obtain ⟨gq, hg11⟩ : ∃ g, g = wd.heap.size := ⟨_, rfl⟩
      rw [← hg11] at R11 LQ  ⊢
      obtain ⟨w111, hW11⟩ : ∃ W, W = wd.alloc (.cells #[] 3) := ⟨_, rfl⟩
      rw [← hW11] at HB11 R11 LQ  hHeld ⊢
      clear hW11 hg11
      refine two_ (i := 3) (j := 9) (Ni := some 19) (Nj := some 7) #[true, true, true, true, true, false, false, false, false, false, false, false] #[true, true, true, false, true, false, false, false, false, true, false, false] rfl rfl rfl rfl (by kernel_rfl) (by decide) (by decide) (fun K hK => ?_) (fun K hK => ?_)
      · refine Kd.R_append_rows_step IK (w0 := w3) w3.heap.size (by rfl) (.tmp 17) (.tmp 18) 25 3 (.int .i64 0) 8 rfl Try.underlying25 infoI rfl (by decide) (by decide) (.slice (some ⟨gq, 0, none⟩) 0 0) [] p PA p.length pc (fun _ => True) (fun _ => False) rfl rfl R11.out (Kd.C_below HP.out (below_then HB3.out HB3.out.size HB11.out)) (fun y cs hk => hk) (fun _ hk => hk.elim) (fun _ _ => trivial) HB11.out HB11.out.size (by have := HPL.out; simp; omega) ?_
        intro v19 w313 ho hb hg hat
        rw [List.nil_append] at ho
        have R13 := Lib.hid ho
        have HB13 := Lib.hid hb
        clear ho hb hg hat
        refine hK.out _ _ HB13.out (fun hHeld => ?_)
        clear hK K
        refine norm_ (a' := ?_) ?_ ?_
        rotate_left
        · show Act.put _ (some 19) _ = _
          simp only [Act.put, List.setIfInBounds_toArray, List.set_cons_zero, List.set_cons_succ, i64_w, i32_w]
          rfl
        refine two_ (i := 5) (j := 9) (Ni := some 21) (Nj := some 7) #[true, true, true, true, true, true, false, false, false, false, false, false] #[true, true, true, true, true, false, false, false, false, true, false, false] rfl rfl rfl rfl (by kernel_rfl) (by decide) (by decide) (fun K hK => ?_) (fun K hK => ?_)
        · obtain ⟨A19, n19, hv19, hl19, hc19⟩ := Kd.R_reads R13.out
          subst hv19
          have T := takeR_calls x A c A19 n19 p k w313 HL.out (Kd.C_below HC.out (below_then HB3.out HB3.out.size HB13.out)) (HS.out.fit 16) hc19
          rw [← HY.out] at T
          refine goes_ Try.func10 (by kernel_rfl) rfl #[.agg (aggV x A c), .slice A19 p.length n19, .int .i64 k] (by rfl) rfl rfl (by (try simp only [List.map_toArray, List.map_cons, List.map_nil]); first | done | rfl | (go_simp; done) | (go_simp; rfl)) ?_
          refine T.mono ?_
          rintro r w515 ⟨hb, v5, he, hr⟩
          replace he : r = .returned (.tuple #[.agg #[.int .i64 y.f0, .int .i64 y.f1, .string y.f2, v5], .int .i64 er]) := he
          subst he
          obtain ⟨A5, c5, hv5⟩ := Kd.R_slice hr
          subst hv5
          refine ⟨_, rfl, ?_⟩
          have HB15 := Lib.hid (below_then HB13.out HB13.out.size hb)
          have R15 := Lib.hid (Kd.R_lower hr HB13.out.size)
          clear T hb hr hc19 hl19
          refine hK.out _ _ HB15.out (fun hHeld => ?_)
          clear hK K
          refine norm_ (a' := ?_) ?_ ?_
          rotate_left
          · show Act.put _ (some 21) _ = _
            simp only [Act.put, List.setIfInBounds_toArray, List.set_cons_zero, List.set_cons_succ, i64_w, i32_w]
            rfl
          refine pure_ (i := 6) (N := some 15) (v := ?_) (a' := ?_) #[true, true, true, true, true, true, true, false, false, false, false, false] rfl rfl (by kernel_rfl) (fun _ _ _ h => h) (Or.inl ⟨by rfl, ?_⟩) ?_ ?_
          rotate_left
          · intro w'
            go_simp
            with_reducible rfl
          rotate_left
          · simp only [Act.put, List.setIfInBounds_toArray, List.set_cons_zero, List.set_cons_succ, i64_w, i32_w]
            rfl
          refine pure_ (i := 7) (N := some 22) (v := ?_) (a' := ?_) #[true, true, true, true, true, true, true, true, false, false, false, false] rfl rfl (by kernel_rfl) (fun _ _ _ h => h) (Or.inl ⟨by rfl, ?_⟩) ?_ ?_
          rotate_left
          · intro w'
            go_simp
            with_reducible rfl
          rotate_left
          · simp only [Act.put, List.setIfInBounds_toArray, List.set_cons_zero, List.set_cons_succ, i64_w, i32_w]
            rfl
          refine pure_ (i := 8) (N := some 23) (v := ?_) (a' := ?_) #[true, true, true, true, true, true, true, true, true, false, false, false] rfl rfl (by kernel_rfl) (fun _ _ _ h => h) (Or.inl ⟨by rfl, ?_⟩) ?_ ?_
          rotate_left
          · intro w'
            go_simp
            with_reducible rfl
          rotate_left
          · simp only [Act.put, List.setIfInBounds_toArray, List.set_cons_zero, List.set_cons_succ, i64_w, i32_w]
            rfl
          refine one_ (i := 9) (N := some 7) #[true, true, true, true, true, true, true, true, true, true, false, false] rfl rfl (by kernel_rfl) (by decide) (fun K hK => ?_)
          refine value_ (w1 := ?_) (v := ?_) (by rfl) rfl ?_ ?_
          rotate_left 2
          · go_simp
            constructor
            · rfl
            · rfl
          refine hK.out _ _ (below_alloc HB15.out _) (fun hHeld => ?_)
          clear hK K
          refine norm_ (a' := ?_) ?_ ?_
          rotate_left
          · show Act.put _ (some 7) _ = _
            simp only [Act.put, List.setIfInBounds_toArray, List.set_cons_zero, List.set_cons_succ, i64_w, i32_w]
            rfl
          have HB17 := Lib.hid hHeld
          have F17 := Lib.hid (blk_new w515 (.cells #[.int .i64 0, .int .i64 0, .string ⟨#[]⟩, .slice none 0 0] 24))
          have G17 : Hid (w3.heap.size ≤ w515.heap.size) := Lib.hid HB15.out.size
          obtain ⟨g17, hg17⟩ : ∃ g, g = w515.heap.size := ⟨_, rfl⟩
          rw [← hg17] at F17 G17 ⊢
          have R517 := Lib.hid (Kd.R_below R15.out (below_alloc (Below.refl _ _) (.cells #[.int .i64 0, .int .i64 0, .string ⟨#[]⟩, .slice none 0 0] 24)))
          have L517 : Hid (∀ k, k < g17 → k ≠ g17) := Lib.hid (fun k h => Nat.ne_of_lt h)
          have Q517 := Lib.hid (Kd.R_mono (Kd.R_bound R15.out) (fun k hk => (hk.2.2.1 : k < w515.heap.size)))
          have S517 := Lib.hid (Kd.R_below Q517.out (below_alloc (Below.refl _ _) (.cells #[.int .i64 0, .int .i64 0, .string ⟨#[]⟩, .slice none 0 0] 24)))
          rw [← hg17] at S517
          obtain ⟨w917, hW17⟩ : ∃ W, W = w515.alloc (.cells #[.int .i64 0, .int .i64 0, .string ⟨#[]⟩, .slice none 0 0] 24) := ⟨_, rfl⟩
          rw [← hW17] at HB17 F17 R517 S517 hHeld ⊢
          clear hW17 hg17
          refine one_ (i := 10) (N := none) #[true, true, true, true, true, true, true, true, true, true, true, false] rfl rfl (by kernel_rfl) (by decide) (fun K hK => ?_)
          refine Stb.store_step (by rfl) rfl 24 (.tmp 7) (.tmp 22) (by rfl) (cur' := #[.int .i64 y.f0, .int .i64 y.f1, .string y.f2, .slice A5 y.f3.length c5]) [.int .i64 y.f0, .int .i64 y.f1, .string y.f2, .slice A5 y.f3.length c5] F17.out (by rfl) (by rfl) (by rfl) (by kernel_rfl) (Nat.le_of_ble_eq_true rfl) (by rfl) (by rfl) ?_
          intro w018 hz hg hs
          have F18 := Lib.hid hz
          have HB18 := Lib.hid (Stb.below_grown1 HB17.out hg G17.out HB17.out.size)
          have R18 := Lib.hid ((Kd.R_mono (ok' := fun _ => True) (Kd.R_grown S517.out hg (fun k hk e => by have := Option.some.inj e; omega)) (fun _ _ => trivial)))
          clear hz hg hs
          refine hK.out _ _ HB18.out (fun hHeld => ?_)
          clear hK K
          refine norm_ (a' := ?_) ?_ ?_
          rotate_left
          · show Act.put _ (none) _ = _
            simp only [Act.put, List.setIfInBounds_toArray, List.set_cons_zero, List.set_cons_succ, i64_w, i32_w]
            rfl
          refine pure_ (i := 11) (N := some 8) (v := ?_) (a' := ?_) #[true, true, true, true, true, true, true, true, true, true, true, true] rfl rfl (by kernel_rfl) (fun _ _ _ h => h) (Or.inl ⟨by rfl, ?_⟩) ?_ ?_
          rotate_left
          · intro w'
            go_simp
            with_reducible rfl
          rotate_left
          · simp only [Act.put, List.setIfInBounds_toArray, List.set_cons_zero, List.set_cons_succ, i64_w, i32_w]
            rfl
          have h9 := hfin ((g17, (.slice A5 y.f3.length c5)), ((.slice (some ⟨gq, 0, none⟩) 0 0), (.slice A19 p.length n19))) _ ⟨F18, R18, HB18⟩
          refine norm_ ?_ h9
          show _ = putAll _ _
          simp only [putAll, Act.put, List.setIfInBounds_toArray, List.set_cons_zero, List.set_cons_succ]
        · refine value_ (w1 := ?_) (v := ?_) (by rfl) rfl ?_ ?_
          rotate_left 2
          · go_simp
            constructor
            · rfl
            · rfl
          refine hK.out _ _ (below_alloc HB13.out _) (fun hHeld => ?_)
          clear hK K
          refine norm_ (a' := ?_) ?_ ?_
          rotate_left
          · show Act.put _ (some 7) _ = _
            simp only [Act.put, List.setIfInBounds_toArray, List.set_cons_zero, List.set_cons_succ, i64_w, i32_w]
            rfl
          have HB16 := Lib.hid hHeld
          have F16 := Lib.hid (blk_new w313 (.cells #[.int .i64 0, .int .i64 0, .string ⟨#[]⟩, .slice none 0 0] 24))
          have G16 : Hid (w3.heap.size ≤ w313.heap.size) := Lib.hid HB13.out.size
          obtain ⟨g16, hg16⟩ : ∃ g, g = w313.heap.size := ⟨_, rfl⟩
          rw [← hg16] at F16 G16 ⊢
          have R16 := Lib.hid (Kd.R_below R13.out (below_alloc (Below.refl _ _) (.cells #[.int .i64 0, .int .i64 0, .string ⟨#[]⟩, .slice none 0 0] 24)))
          obtain ⟨w916, hW16⟩ : ∃ W, W = w313.alloc (.cells #[.int .i64 0, .int .i64 0, .string ⟨#[]⟩, .slice none 0 0] 24) := ⟨_, rfl⟩
          rw [← hW16] at HB16 F16 R16 hHeld ⊢
          clear hW16 hg16
          refine one_ (i := 5) (N := some 21) #[true, true, true, true, true, true, false, false, false, true, false, false] rfl rfl (by kernel_rfl) (by decide) (fun K hK => ?_)
          obtain ⟨A19, n19, hv19, hl19, hc19⟩ := Kd.R_reads R16.out
          subst hv19
          have T := takeR_calls x A c A19 n19 p k w916 HL.out (Kd.C_below HC.out (below_then HB3.out HB3.out.size HB16.out)) (HS.out.fit 16) hc19
          rw [← HY.out] at T
          refine goes_ Try.func10 (by kernel_rfl) rfl #[.agg (aggV x A c), .slice A19 p.length n19, .int .i64 k] (by rfl) rfl rfl (by (try simp only [List.map_toArray, List.map_cons, List.map_nil]); first | done | rfl | (go_simp; done) | (go_simp; rfl)) ?_
          refine T.mono ?_
          rintro r w519 ⟨hb, v5, he, hr⟩
          replace he : r = .returned (.tuple #[.agg #[.int .i64 y.f0, .int .i64 y.f1, .string y.f2, v5], .int .i64 er]) := he
          subst he
          obtain ⟨A5, c5, hv5⟩ := Kd.R_slice hr
          subst hv5
          refine ⟨_, rfl, ?_⟩
          have HB19 := Lib.hid (below_then HB16.out HB16.out.size hb)
          have R19 := Lib.hid (Kd.R_lower hr HB16.out.size)
          have F19 := Lib.hid (blk_below F16.out hb)
          have M19 : Hid (g16 < w916.heap.size) := Lib.hid (blk_lt F16.out)
          have S519 := Lib.hid (Kd.R_mono (Kd.R_bound hr) (fun k hk => (hk.2.1 : w916.heap.size ≤ k)))
          clear T hb hr hc19 hl19
          refine hK.out _ _ HB19.out (fun hHeld => ?_)
          clear hK K
          refine norm_ (a' := ?_) ?_ ?_
          rotate_left
          · show Act.put _ (some 21) _ = _
            simp only [Act.put, List.setIfInBounds_toArray, List.set_cons_zero, List.set_cons_succ, i64_w, i32_w]
            rfl
          refine pure_ (i := 6) (N := some 15) (v := ?_) (a' := ?_) #[true, true, true, true, true, true, true, false, false, true, false, false] rfl rfl (by kernel_rfl) (fun _ _ _ h => h) (Or.inl ⟨by rfl, ?_⟩) ?_ ?_
          rotate_left
          · intro w'
            go_simp
            with_reducible rfl
          rotate_left
          · simp only [Act.put, List.setIfInBounds_toArray, List.set_cons_zero, List.set_cons_succ, i64_w, i32_w]
            rfl
          refine pure_ (i := 7) (N := some 22) (v := ?_) (a' := ?_) #[true, true, true, true, true, true, true, true, false, true, false, false] rfl rfl (by kernel_rfl) (fun _ _ _ h => h) (Or.inl ⟨by rfl, ?_⟩) ?_ ?_
          rotate_left
          · intro w'
            go_simp
            with_reducible rfl
          rotate_left
          · simp only [Act.put, List.setIfInBounds_toArray, List.set_cons_zero, List.set_cons_succ, i64_w, i32_w]
            rfl
          refine pure_ (i := 8) (N := some 23) (v := ?_) (a' := ?_) #[true, true, true, true, true, true, true, true, true, true, false, false] rfl rfl (by kernel_rfl) (fun _ _ _ h => h) (Or.inl ⟨by rfl, ?_⟩) ?_ ?_
          rotate_left
          · intro w'
            go_simp
            with_reducible rfl
          rotate_left
          · simp only [Act.put, List.setIfInBounds_toArray, List.set_cons_zero, List.set_cons_succ, i64_w, i32_w]
            rfl
          refine one_ (i := 10) (N := none) #[true, true, true, true, true, true, true, true, true, true, true, false] rfl rfl (by kernel_rfl) (by decide) (fun K hK => ?_)
          refine Stb.store_step (by rfl) rfl 24 (.tmp 7) (.tmp 22) (by rfl) (cur' := #[.int .i64 y.f0, .int .i64 y.f1, .string y.f2, .slice A5 y.f3.length c5]) [.int .i64 y.f0, .int .i64 y.f1, .string y.f2, .slice A5 y.f3.length c5] F19.out (by rfl) (by rfl) (by rfl) (by kernel_rfl) (Nat.le_of_ble_eq_true rfl) (by rfl) (by rfl) ?_
          intro w020 hz hg hs
          have F20 := Lib.hid hz
          have HB20 := Lib.hid (Stb.below_grown1 HB19.out hg G16.out HB19.out.size)
          have R20 := Lib.hid ((Kd.R_lower (Kd.R_mono (ok' := fun _ => True) (Kd.R_grown S519.out hg (fun k hk e => by have := Option.some.inj e; have := M19.out; omega)) (fun _ _ => trivial)) HB16.out.size))
          clear hz hg hs
          refine hK.out _ _ HB20.out (fun hHeld => ?_)
          clear hK K
          refine norm_ (a' := ?_) ?_ ?_
          rotate_left
          · show Act.put _ (none) _ = _
            simp only [Act.put, List.setIfInBounds_toArray, List.set_cons_zero, List.set_cons_succ, i64_w, i32_w]
            rfl
          refine pure_ (i := 11) (N := some 8) (v := ?_) (a' := ?_) #[true, true, true, true, true, true, true, true, true, true, true, true] rfl rfl (by kernel_rfl) (fun _ _ _ h => h) (Or.inl ⟨by rfl, ?_⟩) ?_ ?_
          rotate_left
          · intro w'
            go_simp
            with_reducible rfl
          rotate_left
          · simp only [Act.put, List.setIfInBounds_toArray, List.set_cons_zero, List.set_cons_succ, i64_w, i32_w]
            rfl
          have h9 := hfin ((g16, (.slice A5 y.f3.length c5)), ((.slice (some ⟨gq, 0, none⟩) 0 0), (.slice A19 p.length n19))) _ ⟨F20, R20, HB20⟩
          refine norm_ ?_ h9
          show _ = putAll _ _
          simp only [putAll, Act.put, List.setIfInBounds_toArray, List.set_cons_zero, List.set_cons_succ]
      · refine value_ (w1 := ?_) (v := ?_) (by rfl) rfl ?_ ?_
        rotate_left 2
        · go_simp
          constructor
          · rfl
          · rfl
        refine hK.out _ _ (below_alloc HB11.out _) (fun hHeld => ?_)
        clear hK K
        refine norm_ (a' := ?_) ?_ ?_
        rotate_left
        · show Act.put _ (some 7) _ = _
          simp only [Act.put, List.setIfInBounds_toArray, List.set_cons_zero, List.set_cons_succ, i64_w, i32_w]
          rfl
        have HB14 := Lib.hid hHeld
        have F14 := Lib.hid (blk_new w111 (.cells #[.int .i64 0, .int .i64 0, .string ⟨#[]⟩, .slice none 0 0] 24))
        have G14 : Hid (w3.heap.size ≤ w111.heap.size) := Lib.hid HB11.out.size
        obtain ⟨g14, hg14⟩ : ∃ g, g = w111.heap.size := ⟨_, rfl⟩
        rw [← hg14] at F14 G14 ⊢
        have R14 := Lib.hid (Kd.R_below R11.out (below_alloc (Below.refl _ _) (.cells #[.int .i64 0, .int .i64 0, .string ⟨#[]⟩, .slice none 0 0] 24)))
        have N14 : Hid (gq < g14) := Lib.hid (by rw [hg14]; exact LQ.out)
        obtain ⟨w914, hW14⟩ : ∃ W, W = w111.alloc (.cells #[.int .i64 0, .int .i64 0, .string ⟨#[]⟩, .slice none 0 0] 24) := ⟨_, rfl⟩
        rw [← hW14] at HB14 F14 R14 hHeld ⊢
        clear hW14 hg14
        refine one_ (i := 3) (N := some 19) #[true, true, true, true, true, false, false, false, false, true, false, false] rfl rfl (by kernel_rfl) (by decide) (fun K hK => ?_)
        refine Kd.R_append_rows_step IK (w0 := w3) w3.heap.size (by rfl) (.tmp 17) (.tmp 18) 25 3 (.int .i64 0) 8 rfl Try.underlying25 infoI rfl (by decide) (by decide) (.slice (some ⟨gq, 0, none⟩) 0 0) [] p PA p.length pc (fun _ => True) (fun _ => False) rfl rfl R14.out (Kd.C_below HP.out (below_then HB3.out HB3.out.size HB14.out)) (fun y cs hk => hk) (fun _ hk => hk.elim) (fun _ _ => trivial) HB14.out HB14.out.size (by have := HPL.out; simp; omega) ?_
        intro v19 w321 ho hb hg hat
        rw [List.nil_append] at ho
        have R21 := Lib.hid ho
        have HB21 := Lib.hid hb
        have F21 := Lib.hid (blk_grown F14.out hg (fun e => by have h1 : g14 = gq := Option.some.inj (e.trans (by simp [Value.ownBlock])); have := N14.out; omega))
        clear ho hb hg hat
        refine hK.out _ _ HB21.out (fun hHeld => ?_)
        clear hK K
        refine norm_ (a' := ?_) ?_ ?_
        rotate_left
        · show Act.put _ (some 19) _ = _
          simp only [Act.put, List.setIfInBounds_toArray, List.set_cons_zero, List.set_cons_succ, i64_w, i32_w]
          rfl
        refine one_ (i := 5) (N := some 21) #[true, true, true, true, true, true, false, false, false, true, false, false] rfl rfl (by kernel_rfl) (by decide) (fun K hK => ?_)
        obtain ⟨A19, n19, hv19, hl19, hc19⟩ := Kd.R_reads R21.out
        subst hv19
        have T := takeR_calls x A c A19 n19 p k w321 HL.out (Kd.C_below HC.out (below_then HB3.out HB3.out.size HB21.out)) (HS.out.fit 16) hc19
        rw [← HY.out] at T
        refine goes_ Try.func10 (by kernel_rfl) rfl #[.agg (aggV x A c), .slice A19 p.length n19, .int .i64 k] (by rfl) rfl rfl (by (try simp only [List.map_toArray, List.map_cons, List.map_nil]); first | done | rfl | (go_simp; done) | (go_simp; rfl)) ?_
        refine T.mono ?_
        rintro r w522 ⟨hb, v5, he, hr⟩
        replace he : r = .returned (.tuple #[.agg #[.int .i64 y.f0, .int .i64 y.f1, .string y.f2, v5], .int .i64 er]) := he
        subst he
        obtain ⟨A5, c5, hv5⟩ := Kd.R_slice hr
        subst hv5
        refine ⟨_, rfl, ?_⟩
        have HB22 := Lib.hid (below_then HB21.out HB21.out.size hb)
        have R22 := Lib.hid (Kd.R_lower hr HB21.out.size)
        have F22 := Lib.hid (blk_below F21.out hb)
        have M22 : Hid (g14 < w321.heap.size) := Lib.hid (blk_lt F21.out)
        have S522 := Lib.hid (Kd.R_mono (Kd.R_bound hr) (fun k hk => (hk.2.1 : w321.heap.size ≤ k)))
        clear T hb hr hc19 hl19
        refine hK.out _ _ HB22.out (fun hHeld => ?_)
        clear hK K
        refine norm_ (a' := ?_) ?_ ?_
        rotate_left
        · show Act.put _ (some 21) _ = _
          simp only [Act.put, List.setIfInBounds_toArray, List.set_cons_zero, List.set_cons_succ, i64_w, i32_w]
          rfl
        refine pure_ (i := 6) (N := some 15) (v := ?_) (a' := ?_) #[true, true, true, true, true, true, true, false, false, true, false, false] rfl rfl (by kernel_rfl) (fun _ _ _ h => h) (Or.inl ⟨by rfl, ?_⟩) ?_ ?_
        rotate_left
        · intro w'
          go_simp
          with_reducible rfl
        rotate_left
        · simp only [Act.put, List.setIfInBounds_toArray, List.set_cons_zero, List.set_cons_succ, i64_w, i32_w]
          rfl
        refine pure_ (i := 7) (N := some 22) (v := ?_) (a' := ?_) #[true, true, true, true, true, true, true, true, false, true, false, false] rfl rfl (by kernel_rfl) (fun _ _ _ h => h) (Or.inl ⟨by rfl, ?_⟩) ?_ ?_
        rotate_left
        · intro w'
          go_simp
          with_reducible rfl
        rotate_left
        · simp only [Act.put, List.setIfInBounds_toArray, List.set_cons_zero, List.set_cons_succ, i64_w, i32_w]
          rfl
        refine pure_ (i := 8) (N := some 23) (v := ?_) (a' := ?_) #[true, true, true, true, true, true, true, true, true, true, false, false] rfl rfl (by kernel_rfl) (fun _ _ _ h => h) (Or.inl ⟨by rfl, ?_⟩) ?_ ?_
        rotate_left
        · intro w'
          go_simp
          with_reducible rfl
        rotate_left
        · simp only [Act.put, List.setIfInBounds_toArray, List.set_cons_zero, List.set_cons_succ, i64_w, i32_w]
          rfl
        refine one_ (i := 10) (N := none) #[true, true, true, true, true, true, true, true, true, true, true, false] rfl rfl (by kernel_rfl) (by decide) (fun K hK => ?_)
        refine Stb.store_step (by rfl) rfl 24 (.tmp 7) (.tmp 22) (by rfl) (cur' := #[.int .i64 y.f0, .int .i64 y.f1, .string y.f2, .slice A5 y.f3.length c5]) [.int .i64 y.f0, .int .i64 y.f1, .string y.f2, .slice A5 y.f3.length c5] F22.out (by rfl) (by rfl) (by rfl) (by kernel_rfl) (Nat.le_of_ble_eq_true rfl) (by rfl) (by rfl) ?_
        intro w023 hz hg hs
        have F23 := Lib.hid hz
        have HB23 := Lib.hid (Stb.below_grown1 HB22.out hg G14.out HB22.out.size)
        have R23 := Lib.hid ((Kd.R_lower (Kd.R_mono (ok' := fun _ => True) (Kd.R_grown S522.out hg (fun k hk e => by have := Option.some.inj e; have := M22.out; omega)) (fun _ _ => trivial)) HB21.out.size))
        clear hz hg hs
        refine hK.out _ _ HB23.out (fun hHeld => ?_)
        clear hK K
        refine norm_ (a' := ?_) ?_ ?_
        rotate_left
        · show Act.put _ (none) _ = _
          simp only [Act.put, List.setIfInBounds_toArray, List.set_cons_zero, List.set_cons_succ, i64_w, i32_w]
          rfl
        refine pure_ (i := 11) (N := some 8) (v := ?_) (a' := ?_) #[true, true, true, true, true, true, true, true, true, true, true, true] rfl rfl (by kernel_rfl) (fun _ _ _ h => h) (Or.inl ⟨by rfl, ?_⟩) ?_ ?_
        rotate_left
        · intro w'
          go_simp
          with_reducible rfl
        rotate_left
        · simp only [Act.put, List.setIfInBounds_toArray, List.set_cons_zero, List.set_cons_succ, i64_w, i32_w]
          rfl
        have h9 := hfin ((g14, (.slice A5 y.f3.length c5)), ((.slice (some ⟨gq, 0, none⟩) 0 0), (.slice A19 p.length n19))) _ ⟨F23, R23, HB23⟩
        refine norm_ ?_ h9
        show _ = putAll _ _
        simp only [putAll, Act.put, List.setIfInBounds_toArray, List.set_cons_zero, List.set_cons_succ]
    · refine value_ (w1 := ?_) (v := ?_) (by rfl) rfl ?_ ?_
      rotate_left 2
      · go_simp
        constructor
        · rfl
        · rfl
      refine hK.out _ _ (below_alloc HB4.out _) (fun hHeld => ?_)
      clear hK K
      refine norm_ (a' := ?_) ?_ ?_
      rotate_left
      · show Act.put _ (some 7) _ = _
        simp only [Act.put, List.setIfInBounds_toArray, List.set_cons_zero, List.set_cons_succ, i64_w, i32_w]
        rfl
      have HB12 := Lib.hid hHeld
      have F12 := Lib.hid (blk_new wd (.cells #[.int .i64 0, .int .i64 0, .string ⟨#[]⟩, .slice none 0 0] 24))
      have G12 : Hid (w3.heap.size ≤ wd.heap.size) := Lib.hid HB4.out.size
      obtain ⟨g12, hg12⟩ : ∃ g, g = wd.heap.size := ⟨_, rfl⟩
      rw [← hg12] at F12 G12 ⊢
      obtain ⟨w912, hW12⟩ : ∃ W, W = wd.alloc (.cells #[.int .i64 0, .int .i64 0, .string ⟨#[]⟩, .slice none 0 0] 24) := ⟨_, rfl⟩
      rw [← hW12] at HB12 F12  hHeld ⊢
      clear hW12 hg12
      refine one_ (i := 1) (N := some 17) #[true, true, true, false, true, false, false, false, false, true, false, false] rfl rfl (by kernel_rfl) (by decide) (fun K hK => ?_)
      refine value_ (w1 := ?_) (v := ?_) (by rfl) rfl ?_ ?_
      rotate_left 2
      · go_simp
        constructor
        · rfl
        · rfl
      refine hK.out _ _ (below_alloc HB12.out _) (fun hHeld => ?_)
      clear hK K
      refine norm_ (a' := ?_) ?_ ?_
      rotate_left
      · show Act.put _ (some 17) _ = _
        simp only [Act.put, List.setIfInBounds_toArray, List.set_cons_zero, List.set_cons_succ, i64_w, i32_w]
        rfl
      have HB24 := Lib.hid hHeld
      have R24 : Hid (IK.R 3 (w912.alloc (.cells #[] 3)) w3.heap.size (fun _ => True) (.slice (some ⟨w912.heap.size, 0, none⟩) 0 0) []) := Lib.hid ⟨fun _ _ => trivial, OwnRow.lit w912 w3.heap.size (ps := []) (inner := []) (Reps.none _ _) HB12.out.size (Nat.zero_le _)⟩
      have LQ : Hid (w912.heap.size < (w912.alloc (.cells #[] 3)).heap.size) := Lib.hid (by simp only [World.alloc, Array.size_push]; omega)
      have F24 := Lib.hid (blk_alloc F12.out (.cells #[] 3))
      have N24 : Hid (g12 < w912.heap.size) := Lib.hid (blk_lt F12.out)
      obtain ⟨gq, hg24⟩ : ∃ g, g = w912.heap.size := ⟨_, rfl⟩
      rw [← hg24] at R24 LQ N24 ⊢
      obtain ⟨w124, hW24⟩ : ∃ W, W = w912.alloc (.cells #[] 3) := ⟨_, rfl⟩
      rw [← hW24] at HB24 R24 LQ F24 hHeld ⊢
      clear hW24 hg24
      refine one_ (i := 3) (N := some 19) #[true, true, true, true, true, false, false, false, false, true, false, false] rfl rfl (by kernel_rfl) (by decide) (fun K hK => ?_)
      refine Kd.R_append_rows_step IK (w0 := w3) w3.heap.size (by rfl) (.tmp 17) (.tmp 18) 25 3 (.int .i64 0) 8 rfl Try.underlying25 infoI rfl (by decide) (by decide) (.slice (some ⟨gq, 0, none⟩) 0 0) [] p PA p.length pc (fun _ => True) (fun _ => False) rfl rfl R24.out (Kd.C_below HP.out (below_then HB3.out HB3.out.size HB24.out)) (fun y cs hk => hk) (fun _ hk => hk.elim) (fun _ _ => trivial) HB24.out HB24.out.size (by have := HPL.out; simp; omega) ?_
      intro v19 w325 ho hb hg hat
      rw [List.nil_append] at ho
      have R25 := Lib.hid ho
      have HB25 := Lib.hid hb
      have F25 := Lib.hid (blk_grown F24.out hg (fun e => by have h1 : g12 = gq := Option.some.inj (e.trans (by simp [Value.ownBlock])); have := N24.out; omega))
      clear ho hb hg hat
      refine hK.out _ _ HB25.out (fun hHeld => ?_)
      clear hK K
      refine norm_ (a' := ?_) ?_ ?_
      rotate_left
      · show Act.put _ (some 19) _ = _
        simp only [Act.put, List.setIfInBounds_toArray, List.set_cons_zero, List.set_cons_succ, i64_w, i32_w]
        rfl
      refine one_ (i := 5) (N := some 21) #[true, true, true, true, true, true, false, false, false, true, false, false] rfl rfl (by kernel_rfl) (by decide) (fun K hK => ?_)
      obtain ⟨A19, n19, hv19, hl19, hc19⟩ := Kd.R_reads R25.out
      subst hv19
      have T := takeR_calls x A c A19 n19 p k w325 HL.out (Kd.C_below HC.out (below_then HB3.out HB3.out.size HB25.out)) (HS.out.fit 16) hc19
      rw [← HY.out] at T
      refine goes_ Try.func10 (by kernel_rfl) rfl #[.agg (aggV x A c), .slice A19 p.length n19, .int .i64 k] (by rfl) rfl rfl (by (try simp only [List.map_toArray, List.map_cons, List.map_nil]); first | done | rfl | (go_simp; done) | (go_simp; rfl)) ?_
      refine T.mono ?_
      rintro r w526 ⟨hb, v5, he, hr⟩
      replace he : r = .returned (.tuple #[.agg #[.int .i64 y.f0, .int .i64 y.f1, .string y.f2, v5], .int .i64 er]) := he
      subst he
      obtain ⟨A5, c5, hv5⟩ := Kd.R_slice hr
      subst hv5
      refine ⟨_, rfl, ?_⟩
      have HB26 := Lib.hid (below_then HB25.out HB25.out.size hb)
      have R26 := Lib.hid (Kd.R_lower hr HB25.out.size)
      have F26 := Lib.hid (blk_below F25.out hb)
      have M26 : Hid (g12 < w325.heap.size) := Lib.hid (blk_lt F25.out)
      have S526 := Lib.hid (Kd.R_mono (Kd.R_bound hr) (fun k hk => (hk.2.1 : w325.heap.size ≤ k)))
      clear T hb hr hc19 hl19
      refine hK.out _ _ HB26.out (fun hHeld => ?_)
      clear hK K
      refine norm_ (a' := ?_) ?_ ?_
      rotate_left
      · show Act.put _ (some 21) _ = _
        simp only [Act.put, List.setIfInBounds_toArray, List.set_cons_zero, List.set_cons_succ, i64_w, i32_w]
        rfl
      refine pure_ (i := 6) (N := some 15) (v := ?_) (a' := ?_) #[true, true, true, true, true, true, true, false, false, true, false, false] rfl rfl (by kernel_rfl) (fun _ _ _ h => h) (Or.inl ⟨by rfl, ?_⟩) ?_ ?_
      rotate_left
      · intro w'
        go_simp
        with_reducible rfl
      rotate_left
      · simp only [Act.put, List.setIfInBounds_toArray, List.set_cons_zero, List.set_cons_succ, i64_w, i32_w]
        rfl
      refine pure_ (i := 7) (N := some 22) (v := ?_) (a' := ?_) #[true, true, true, true, true, true, true, true, false, true, false, false] rfl rfl (by kernel_rfl) (fun _ _ _ h => h) (Or.inl ⟨by rfl, ?_⟩) ?_ ?_
      rotate_left
      · intro w'
        go_simp
        with_reducible rfl
      rotate_left
      · simp only [Act.put, List.setIfInBounds_toArray, List.set_cons_zero, List.set_cons_succ, i64_w, i32_w]
        rfl
      refine pure_ (i := 8) (N := some 23) (v := ?_) (a' := ?_) #[true, true, true, true, true, true, true, true, true, true, false, false] rfl rfl (by kernel_rfl) (fun _ _ _ h => h) (Or.inl ⟨by rfl, ?_⟩) ?_ ?_
      rotate_left
      · intro w'
        go_simp
        with_reducible rfl
      rotate_left
      · simp only [Act.put, List.setIfInBounds_toArray, List.set_cons_zero, List.set_cons_succ, i64_w, i32_w]
        rfl
      refine one_ (i := 10) (N := none) #[true, true, true, true, true, true, true, true, true, true, true, false] rfl rfl (by kernel_rfl) (by decide) (fun K hK => ?_)
      refine Stb.store_step (by rfl) rfl 24 (.tmp 7) (.tmp 22) (by rfl) (cur' := #[.int .i64 y.f0, .int .i64 y.f1, .string y.f2, .slice A5 y.f3.length c5]) [.int .i64 y.f0, .int .i64 y.f1, .string y.f2, .slice A5 y.f3.length c5] F26.out (by rfl) (by rfl) (by rfl) (by kernel_rfl) (Nat.le_of_ble_eq_true rfl) (by rfl) (by rfl) ?_
      intro w027 hz hg hs
      have F27 := Lib.hid hz
      have HB27 := Lib.hid (Stb.below_grown1 HB26.out hg G12.out HB26.out.size)
      have R27 := Lib.hid ((Kd.R_lower (Kd.R_mono (ok' := fun _ => True) (Kd.R_grown S526.out hg (fun k hk e => by have := Option.some.inj e; have := M26.out; omega)) (fun _ _ => trivial)) HB25.out.size))
      clear hz hg hs
      refine hK.out _ _ HB27.out (fun hHeld => ?_)
      clear hK K
      refine norm_ (a' := ?_) ?_ ?_
      rotate_left
      · show Act.put _ (none) _ = _
        simp only [Act.put, List.setIfInBounds_toArray, List.set_cons_zero, List.set_cons_succ, i64_w, i32_w]
        rfl
      refine pure_ (i := 11) (N := some 8) (v := ?_) (a' := ?_) #[true, true, true, true, true, true, true, true, true, true, true, true] rfl rfl (by kernel_rfl) (fun _ _ _ h => h) (Or.inl ⟨by rfl, ?_⟩) ?_ ?_
      rotate_left
      · intro w'
        go_simp
        with_reducible rfl
      rotate_left
      · simp only [Act.put, List.setIfInBounds_toArray, List.set_cons_zero, List.set_cons_succ, i64_w, i32_w]
        rfl
      have h9 := hfin ((g12, (.slice A5 y.f3.length c5)), ((.slice (some ⟨gq, 0, none⟩) 0 0), (.slice A19 p.length n19))) _ ⟨F27, R27, HB27⟩
      refine norm_ ?_ h9
      show _ = putAll _ _
      simp only [putAll, Act.put, List.setIfInBounds_toArray, List.set_cons_zero, List.set_cons_succ]
end Go.Proofs.Ytcilojakgnjjmaa.LmT
/- The walks of MessageTakes and MessageCounts, as a row asks for them. -/
set_option linter.unusedSimpArgs false
set_option linter.unusedVariables false
namespace Go.Proofs.Ytcilojakgnjjmaa.LmO
open Go Go.RowKit Go.Proofs.YtcilojakgnjjmaaW.PrintWords Go.Proofs.YtcilojakgnjjmaaW.PrintLast Go.Proofs.YtcilojakgnjjmaaW.PrintMore PAll MeP MeT MeN MeX MeQ MeO
theorem agg_of {w : World} {x : V} {cs : Array Value} (h : kV.K w x cs.toList) : ∃ A c, cs = aggV x A c ∧ x.f3.length ≤ c ∧ kV.C w A x.f3.length x.f3 := by
  obtain ⟨A, c, e, hl, hc⟩ := k24_open h
  exact ⟨A, c, Array.toList_inj.1 e, hl, hc⟩
theorem walkCounts (cs : Array Value) (x : V) (k : Int) (w : World) (hk : kV.K w x cs.toList) (hs : Sz x) (_ : (Lit.int .i64 k).wf = true) :
    Calls Try.prog 4 #[.agg cs, .int .i64 k] w fun e w' => e = .returned (.bool true) ∧ Below w.heap.size w w' := by
  obtain ⟨A, c, rfl, hl, hc⟩ := agg_of hk
  exact LmC.counts_calls x hs A c k w hl hc
theorem walkTakes (cs : Array Value) (x : V) (PA : Option Addr) (pc : Nat) (p : List Int) (k : Int) (w : World) (hk : kV.K w x cs.toList) (hs : Sz x) (_ : p.length ≤ pc) (hp : IK.C w PA p.length p) (g : (∀ y ∈ p, (Lit.int .i64 y).wf = true) ∧ p.length * 8 ≤ reachBytes) (_ : (Lit.int .i64 k).wf = true) :
    Calls Try.prog 3 #[.agg cs, .slice PA p.length pc, .int .i64 k] w fun e w' => e = .returned (.bool true) ∧ Below w.heap.size w w' := by
  obtain ⟨A, c, rfl, hl, hc⟩ := agg_of hk
  have e : reachBytes = 140737488351232 := rfl
  exact LmT.takes_calls x hs A c PA pc p k w hl hc hp (by have := g.2; omega)
end Go.Proofs.Ytcilojakgnjjmaa.LmO
/- MessageTakes: whatever the input, true. -/
namespace Go.Proofs.Ytcilojakgnjjmaa.messageTakes
open Go.ChangeShapes Go.WideShapes Go.ChangeAt Go.RowKit Go.Proofs.Ytcilojakgnjjmaa.Opns
open Go.ChangeMaps (open_string shut_string)
set_option linter.unusedVariables false
theorem own : ownKnob Try.prog.godebug = none := by kernel_rfl
theorem laidOut : laidOutB Try.prog = true := by kernel_rfl
set_option maxRecDepth 100000 in
theorem lifted (os : Os) (started : os.Started) (H : Type) (enc : TypeId × Value → H) :
    ReturnsInHanded {} Try.checked os 3 .any (Rows.messageTakesSpec.pre6 enc Try.prog Try.f3 Rows.messageTakesRow.domain false) (Rows.messageTakesSpec.post enc Try.prog Try.f3 false true false false) := by
  refine returnsInHanded_of_change_sized (C := Try.checked) own started (by kernel_rfl) Try.func3
    (ChangeSpec.witness6 (enc := enc) (C := Try.checked) false ⟨#[], #[.agg #[.int .i64 0, .int .i64 0, .string ByteArray.empty, .slice none 0 0], .slice none 0 0, .int .i64 0], []⟩ 8 (by kernel_rfl) (by kernel_rfl) (by kernel_rfl) (by kernel_rfl)) ?_
  intro W base args ds gs before hval0 hW hcnd hsz0 _
  have hsz : (DataW.weightsEach Try.prog (Try.f3.params.toList ++ Rows.messageTakesSpec.plain.varTypes Try.prog) (ds ++ gs)).all (· ≤ reachBytes) = true := hsz0
  have hval : ∀ (j : Nat) t v, Try.f3.params[j]? = some t → args[j]? = some v → Value.okWide Try.prog W .any base t v := hval0
  have hW' := hW
  obtain ⟨p, q, hA0, hV, rfl, hfz, hnd⟩ := hW
  have hA : DataW.TrodAll enc Try.prog W 0 (fun _ => true) true Try.f3.params.toList args.toList ds p := hA0
  rw [Try.params3] at hA hval hsz
  obtain ⟨v0, vs0, d0, ds0, p0, q0, hargs, rfl, rfl, h0, r0⟩ := trodAll_cons hA
  obtain ⟨v1, vs1, d1, ds1, p1, q1, rfl, rfl, rfl, h1, r1⟩ := trodAll_cons r0
  obtain ⟨v2, vs2, d2, ds2, p2, q2, rfl, rfl, rfl, h2, r2⟩ := trodAll_cons r1
  obtain ⟨rfl, rfl, rfl⟩ := trodAll_nil r2
  obtain rfl : args = #[v0, v1, v2] := by cases args; simp_all
  obtain ⟨rfl, rfl⟩ := trodVars_none hV
  have m0 := weigh (j := 0) (t := 24) hsz rfl rfl
  have k0 := h0
  have lt0 : ∀ x ∈ p0, x.block < W.heap.size := by obtain ⟨m, hm⟩ := k0; exact DataW.trod_lt m _ _ _ hm
  obtain ⟨cs0, rfl⟩ := okw_struct Try.underlying24 (hval 0 24 v0 rfl rfl)
  obtain ⟨x0, c0, g0, b0⟩ := arg_agg MeO.opens_V h0 m0
  have m1 := weigh (j := 1) (t := 25) hsz rfl rfl
  have k1 := h1
  have lt1 : ∀ x ∈ p1, x.block < W.heap.size := by obtain ⟨m, hm⟩ := k1; exact DataW.trod_lt m _ _ _ hm
  obtain ⟨A1, len1, cap1, rfl⟩ := okWide_slice Try.underlying25 (hval 1 25 v1 rfl rfl)
  obtain ⟨x1, rfl, l1, c1, g1, b1⟩ := arg_slice MeO.opens_ints h1 m1
  obtain ⟨a2, rfl, rfl, rfl, w2⟩ := open_int Try.underlying3 (hval 2 3 v2 rfl rfl) h2
  clear hA0 hval0 hsz0 hsz
  refine (LmO.walkTakes cs0 x0 A1 cap1 x1 a2 W c0 g0 l1 c1 g1 w2).mono fun e W' ⟨he, bel⟩ => ?_
  subst he
  exact ⟨_, rfl, _, _, _, [], _, [], hW', trodAll_mk1 (shut_bool Try.underlying4 _), (trodAll_cons_mk (Below.trod laidOut (by kernel_rfl) (of_decide_eq_true (by kernel_rfl)) k0 bel lt0) (trodAll_cons_mk (Below.trod laidOut (by kernel_rfl) (of_decide_eq_true (by kernel_rfl)) k1 bel lt1) (trodAll_cons_mk (shut_int Try.underlying3 w2) trodAll_mk0))), rfl, bel.frame _, fun h => by cases h⟩
theorem over : Rows.messageTakesRow.holds Try.pinned (OpenSpec.ofChange Rows.messageTakesSpec) :=
  OpenClaim.holds_of_wide 3 Try.f3 rfl rfl rfl rfl rfl rfl rfl ⟨rfl, rfl, rfl, rfl, rfl⟩ rfl rfl rfl rfl rfl (by kernel_rfl) Try.func3 (by kernel_rfl)
    (of_decide_eq_true (by kernel_rfl)) (by unfold Func.isWrapper; first | (rw [if_pos (by decide +kernel)]; kernel_rfl) | (rw [if_neg (by decide +kernel)]; exact ⟨rfl, rfl⟩))
    (fun os started H enc _ => lifted os started H enc)
theorem proved : Rows.MessageTakesSaid := over
#print axioms proved
end Go.Proofs.Ytcilojakgnjjmaa.messageTakes
