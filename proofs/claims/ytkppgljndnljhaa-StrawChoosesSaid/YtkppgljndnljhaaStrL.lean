import Derived.Test.YtkppgljndnljhaaProg
import Derived.Test.YtkppgljndnljhaaStrW
import Derived.WalkKit
import Derived.WalkSpells
import Derived.Lib.Hide
/- The laws of straws, walked. -/
namespace Go.Proofs.Ytkppgljndnljhaa.StrL
open Go.RowKit Go.Proofs.YtkppgljndnljhaaW.PrintWords KW MixP MixW StrP StrW

theorem lawDraws (a b x r : Int) (w : World) :
    Calls Try.prog 3 #[.agg #[.int .i64 a, .int .i64 b], .int .u32 x, .int .u32 r] w fun e w' => e = .returned (.bool true) ∧ Below w.heap.size w w' := by
  go_enter Try.func3, Try.ntmps3
  go_wp2_with fail
  refine (draw_calls _ _ _ _ _).mono ?_
  rintro e w1 ⟨rfl, hb⟩
  have c0 := box_cell hb 0 rfl
  have c1 := box_cell hb 1 rfl
  have HB := Lib.hid (below_then (below_alloc (Below.refl _ _) _) (below_alloc (Below.refl _ _) _).size hb)
  clear hb
  go_wp2_with fail
  refine (rdraw_calls _ _ _ _ _).mono ?_
  rintro e w2 ⟨rfl, hb⟩
  have HB2 := Lib.hid (below_then HB.out HB.out.size hb)
  clear hb HB c0 c1
  generalize drV x r ⟨a, b⟩ = d at *
  generalize drB ⟨a, b⟩ = p at *
  cases p
  all_goals
    go_wp2_with fail
    refine (awake_calls _).mono ?_
    rintro e w3 ⟨rfl, hb⟩
    have HB := Lib.hid (below_then HB2.out HB2.out.size hb)
    clear hb HB2
    go_wp2_with fail
    go_ret
    exact ⟨rfl, HB.out⟩
set_option maxHeartbeats 400000 in
theorem lawChooses (A : Option Addr) (c : Nat) (l : List Wd) (x r : Int) (w : World) (hc : kW.C w A l.length l) :
    Calls Try.prog 4 #[.slice A l.length c, .int .u32 x, .int .u32 r] w fun e w' => e = .returned (.bool true) ∧ Below w.heap.size w w' := by
  have HC := Lib.hid hc
  have hm : l.length ≤ 9223372036854775807 := hc.2.1
  clear hc
  go_enter Try.func4, Try.ntmps4
  go_wp2
  go_loop [7, 8] (fun a i => ∃ (ai : Int) (k : Nat), a = .int .i64 ai ∧ i = .int .i64 k ∧ k ≤ l.length ∧ Hid (Tt l k ai)) (fun _ i => l.length - (intOf i).toNat)
  case atStart => exact ⟨_, 0, rfl, rfl, Nat.zero_le _, Lib.hid (tt_start l)⟩
  case round =>
    obtain ⟨a, k, rfl, rfl, hk, HS⟩ := hrel
    by_cases h : k < l.length
    · obtain ⟨ad, u, hu, rfl, c0, c1⟩ := at_W HC.out k h
      have HN := Lib.hid (tt_step HS.out hu)
      have hk1 : decide (k < l.length) = true := decide_eq_true h
      have i0 : (0 : Int) ≤ k := by omega
      clear hu
      by_cases b1 : 1 ≤ u.wt
      · by_cases b2 : u.wt ≤ 1073741824
        · rw [if_pos ((drB_iff u).2 ⟨b1, b2⟩)] at HN
          have d2 : decide (u.wt ≤ 1073741824) = true := decide_eq_true b2
          clear b2
          go_wp2
          go_round
          case rel => exact ⟨_, k + 1, rfl, by go_num, by omega, HN⟩
          case measure => simp [intOf]; omega
        · rw [if_neg (fun hc => b2 ((drB_iff u).1 hc).2)] at HN
          have d2 : decide (u.wt ≤ 1073741824) = false := decide_eq_false b2
          clear b2
          go_wp2
          go_round
          case rel => exact ⟨_, k + 1, rfl, by go_num, by omega, HN⟩
          case measure => simp [intOf]; omega
      · rw [if_neg (fun hc => b1 ((drB_iff u).1 hc).1)] at HN
        go_wp2
        go_round
        case rel => exact ⟨_, k + 1, rfl, by go_num, by omega, HN⟩
        case measure => simp [intOf]; omega
    · have HE := Lib.hid (tt_end HS.out (by omega))
      have hk1 : decide (k < l.length) = false := decide_eq_false h
      clear h
      go_wp2_with fail
      refine (choose_calls _ _ _ _ _ _ HC.out).mono ?_
      rintro e w1 ⟨rfl, hb⟩
      have HC1 := Lib.hid (Kd.C_below HC.out hb)
      have HB1 := Lib.hid hb
      clear hb HC
      go_wp2_with fail
      refine (rchoose_calls _ _ _ _ _ _ HC1.out).mono ?_
      rintro e w2 ⟨rfl, hb⟩
      have HC := Lib.hid (Kd.C_below HC1.out hb)
      have HB := Lib.hid (below_then HB1.out HB1.out.size hb)
      clear hb HC1 HB1
      go_wp2_with fail
      refine (total_calls _ _ _ _ HC.out).mono ?_
      rintro e w3 ⟨rfl, hb⟩
      have HB1 := Lib.hid (below_then HB.out HB.out.size hb)
      clear hb HC HB
      rw [HE.out]
      go_wp2_with fail
      refine (awake_calls _).mono ?_
      rintro e w4 ⟨rfl, hb⟩
      have HB := Lib.hid (below_then HB1.out HB1.out.size hb)
      clear hb HB1
      go_wp2_with fail
      go_ret
      exact ⟨rfl, HB.out⟩
end Go.Proofs.Ytkppgljndnljhaa.StrL
namespace Go.Proofs.Ytkppgljndnljhaa.StrL
open Go.RowKit Go.Proofs.YtkppgljndnljhaaW.PrintWords KW
theorem walkDraws (cs : Array Value) (u : Wd) (x r : Int) (w : World) (hk : kW.K w u cs.toList) (_ : (Lit.int .i64 u.id).wf = true ∧ (Lit.int .i64 u.wt).wf = true) (_ : (Lit.int .u32 x).wf = true) (_ : (Lit.int .u32 r).wf = true) :
    Calls Try.prog 3 #[.agg cs, .int .u32 x, .int .u32 r] w fun e w' => e = .returned (.bool true) ∧ Below w.heap.size w w' := by
  have e : cs = #[.int .i64 u.id, .int .i64 u.wt] := by
    have := kW_open hk
    rw [← Array.toList_inj, this]
  subst e
  exact lawDraws _ _ _ _ _
theorem walkChooses (A : Option Addr) (c : Nat) (l : List Wd) (x r : Int) (w : World) (_ : l.length ≤ c) (hc : kW.C w A l.length l) (_ : (∀ x ∈ l, (Lit.int .i64 x.id).wf = true ∧ (Lit.int .i64 x.wt).wf = true) ∧ l.length * 16 ≤ reachBytes) (_ : (Lit.int .u32 x).wf = true) (_ : (Lit.int .u32 r).wf = true) :
    Calls Try.prog 4 #[.slice A l.length c, .int .u32 x, .int .u32 r] w fun e w' => e = .returned (.bool true) ∧ Below w.heap.size w w' := lawChooses A c l x r w hc
end Go.Proofs.Ytkppgljndnljhaa.StrL
