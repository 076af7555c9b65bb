import Derived.Test.YtnpphmgibgfjoaaProg
import Derived.Test.YtnpphmgibgfjoaaPAllx0
import Derived.Test.YtnpphmgibgfjoaaMem
import Derived.WalkKit
import Derived.WalkSpells
import Derived.WalkLawsBesides
import Derived.Lib.Hide
import Derived.Deep.DeepMust
import Derived.Deep.RegionHeld3
import Derived.Lib.QuietBelow
import Derived.BigQuiet
import Derived.IntWalk
import Derived.Maps.OwnOps
import Derived.Maps.OwnSet
import Derived.Maps.Views
/- Which maps may be: atlas.Check. -/
namespace Go.Proofs.Ytnpphmgibgfjoaa.AtA
open Go.RowKit Go.Proofs.YtnpphmgibgfjoaaW.PrintWords Go.Proofs.YtnpphmgibgfjoaaW.PrintMore Mem PAll
open Go.Maps (Keyed int_keyed keyOf_int_mk)
abbrev Od := S40
abbrev kO := k40
/-- From 0 to b? -/
def winB (a b : Int) : Bool := decide (0 ≤ a ∧ a ≤ b)
theorem win_calls (a b : Int) (w : World) : Calls Try.prog 70 #[.int .i64 a, .int .i64 b] w fun e w' => e = .returned (.bool (winB a b)) ∧ w = w' := by
  by_cases h0 : 0 ≤ a
  · have e1 : winB a b = decide (a ≤ b) := by unfold winB; rw [decide_eq_decide]; exact ⟨fun h => h.2, fun h => ⟨h0, h⟩⟩
    rw [e1]
    have h1 : decide (0 ≤ a) = true := decide_eq_true h0
    clear e1 h0
    go_enter Try.func70, Try.ntmps70
    go_wp2
    go_ret
    exact ⟨rfl, rfl⟩
  · have e1 : winB a b = false := decide_eq_false (fun h => h0 h.1)
    rw [e1]
    have h1 : decide (0 ≤ a) = false := decide_eq_false h0
    clear e1 h0
    go_enter Try.func70, Try.ntmps70
    go_wp2
    go_ret
    exact ⟨rfl, rfl⟩
/-- May an OSD be? -/
def osdB (o : Od) : Bool := winB o.f0 999 && (winB o.f6 999 && (winB o.f7 999 && (winB o.f3 16777216 && (winB o.f4 2147483647 && (winB o.f5 2147483647 && (!o.f1 || (decide (1 ≤ o.f4) && decide (1 ≤ o.f5))))))))
/-- May a pool be? -/
def poolB (k m p d : Int) : Bool := decide (1 ≤ k) && (decide (1 ≤ m) && (decide (k ≤ 32) && (decide (m ≤ 32 - k) && (decide (1 ≤ p) && (decide (p ≤ 32) && winB d 2)))))
set_option maxHeartbeats 4000000 in
theorem osd_calls (o : Od) (w : World) : Calls Try.prog 72 #[.agg #[.int .i64 o.f0, .bool o.f1, .bool o.f2, .int .i64 o.f3, .int .i64 o.f4, .int .i64 o.f5, .int .i64 o.f6, .int .i64 o.f7]] w fun e w' => e = .returned (.bool (osdB o)) ∧ Below w.heap.size w w' := by
  have HB := Lib.hid (below_alloc (Below.refl w.heap.size w) (.cells #[.int .i64 o.f0, .bool o.f1, .bool o.f2, .int .i64 o.f3, .int .i64 o.f4, .int .i64 o.f5, .int .i64 o.f6, .int .i64 o.f7] 40))
  cases b1 : winB o.f0 999
  · have e : osdB o = false := by simp [osdB, b1]
    rw [e]
    clear e
    go_enter Try.func72, Try.ntmps72
    go_wp2_with (go_at_call 70; refine (win_calls _ _ _).mono ?_; rintro e w1 ⟨rfl, rfl⟩)
    go_ret
    exact ⟨rfl, by first | exact HB.out | exact below_alloc (Below.refl _ _) _⟩
  cases b2 : winB o.f6 999
  · have e : osdB o = false := by simp [osdB, b1, b2]
    rw [e]
    clear e
    go_enter Try.func72, Try.ntmps72
    go_wp2_with (go_at_call 70; refine (win_calls _ _ _).mono ?_; rintro e w1 ⟨rfl, rfl⟩)
    go_ret
    exact ⟨rfl, by first | exact HB.out | exact below_alloc (Below.refl _ _) _⟩
  cases b3 : winB o.f7 999
  · have e : osdB o = false := by simp [osdB, b1, b2, b3]
    rw [e]
    clear e
    go_enter Try.func72, Try.ntmps72
    go_wp2_with (go_at_call 70; refine (win_calls _ _ _).mono ?_; rintro e w1 ⟨rfl, rfl⟩)
    go_ret
    exact ⟨rfl, by first | exact HB.out | exact below_alloc (Below.refl _ _) _⟩
  cases b4 : winB o.f3 16777216
  · have e : osdB o = false := by simp [osdB, b1, b2, b3, b4]
    rw [e]
    clear e
    go_enter Try.func72, Try.ntmps72
    go_wp2_with (go_at_call 70; refine (win_calls _ _ _).mono ?_; rintro e w1 ⟨rfl, rfl⟩)
    go_ret
    exact ⟨rfl, by first | exact HB.out | exact below_alloc (Below.refl _ _) _⟩
  cases b5 : winB o.f4 2147483647
  · have e : osdB o = false := by simp [osdB, b1, b2, b3, b4, b5]
    rw [e]
    clear e
    go_enter Try.func72, Try.ntmps72
    go_wp2_with (go_at_call 70; refine (win_calls _ _ _).mono ?_; rintro e w1 ⟨rfl, rfl⟩)
    go_ret
    exact ⟨rfl, by first | exact HB.out | exact below_alloc (Below.refl _ _) _⟩
  cases b6 : winB o.f5 2147483647
  · have e : osdB o = false := by simp [osdB, b1, b2, b3, b4, b5, b6]
    rw [e]
    clear e
    go_enter Try.func72, Try.ntmps72
    go_wp2_with (go_at_call 70; refine (win_calls _ _ _).mono ?_; rintro e w1 ⟨rfl, rfl⟩)
    go_ret
    exact ⟨rfl, by first | exact HB.out | exact below_alloc (Below.refl _ _) _⟩
  cases b7 : o.f1
  · have e : osdB o = true := by simp [osdB, b1, b2, b3, b4, b5, b6, b7]
    rw [e]
    clear e
    go_enter Try.func72, Try.ntmps72
    go_wp2_with (go_at_call 70; refine (win_calls _ _ _).mono ?_; rintro e w1 ⟨rfl, rfl⟩)
    go_ret
    exact ⟨rfl, by first | exact HB.out | exact below_alloc (Below.refl _ _) _⟩
  cases b8 : decide (1 ≤ o.f4)
  · have e : osdB o = false := by simp only [osdB, b1, b2, b3, b4, b5, b6, b7, b8]; rfl
    rw [e]
    clear e
    go_enter Try.func72, Try.ntmps72
    go_wp2_with (go_at_call 70; refine (win_calls _ _ _).mono ?_; rintro e w1 ⟨rfl, rfl⟩)
    go_ret
    exact ⟨rfl, by first | exact HB.out | exact below_alloc (Below.refl _ _) _⟩
  cases b9 : decide (1 ≤ o.f5)
  · have e : osdB o = false := by simp only [osdB, b1, b2, b3, b4, b5, b6, b7, b8, b9]; rfl
    rw [e]
    clear e
    go_enter Try.func72, Try.ntmps72
    go_wp2_with (go_at_call 70; refine (win_calls _ _ _).mono ?_; rintro e w1 ⟨rfl, rfl⟩)
    go_ret
    exact ⟨rfl, by first | exact HB.out | exact below_alloc (Below.refl _ _) _⟩
  · have e : osdB o = true := by simp only [osdB, b1, b2, b3, b4, b5, b6, b7, b8, b9]; rfl
    rw [e]
    clear e
    go_enter Try.func72, Try.ntmps72
    go_wp2_with (go_at_call 70; refine (win_calls _ _ _).mono ?_; rintro e w1 ⟨rfl, rfl⟩)
    go_ret
    exact ⟨rfl, by first | exact HB.out | exact below_alloc (Below.refl _ _) _⟩
set_option maxHeartbeats 4000000 in
theorem pool_calls (k m p d : Int) (w : World) : Calls Try.prog 71 #[.agg #[.int .i64 k, .int .i64 m, .int .i64 p, .int .i64 d]] w fun e w' => e = .returned (.bool (poolB k m p d)) ∧ Below w.heap.size w w' := by
  have HB := Lib.hid (below_alloc (Below.refl w.heap.size w) (.cells #[.int .i64 k, .int .i64 m, .int .i64 p, .int .i64 d] 23))
  cases b1 : decide (1 ≤ k)
  · have e : poolB k m p d = false := by simp only [poolB, b1]; rfl
    rw [e]
    clear e
    go_enter Try.func71, Try.ntmps71
    go_wp2_with (go_at_call 70; refine (win_calls _ _ _).mono ?_; rintro e w1 ⟨rfl, rfl⟩)
    go_ret
    exact ⟨rfl, by first | exact HB.out | exact below_alloc (Below.refl _ _) _⟩
  cases b2 : decide (1 ≤ m)
  · have e : poolB k m p d = false := by simp only [poolB, b1, b2]; rfl
    rw [e]
    clear e
    go_enter Try.func71, Try.ntmps71
    go_wp2_with (go_at_call 70; refine (win_calls _ _ _).mono ?_; rintro e w1 ⟨rfl, rfl⟩)
    go_ret
    exact ⟨rfl, by first | exact HB.out | exact below_alloc (Below.refl _ _) _⟩
  cases b3 : decide (k ≤ 32)
  · have e : poolB k m p d = false := by simp only [poolB, b1, b2, b3]; rfl
    rw [e]
    clear e
    go_enter Try.func71, Try.ntmps71
    go_wp2_with (go_at_call 70; refine (win_calls _ _ _).mono ?_; rintro e w1 ⟨rfl, rfl⟩)
    go_ret
    exact ⟨rfl, by first | exact HB.out | exact below_alloc (Below.refl _ _) _⟩
  cases b4 : decide (m ≤ 32 - k)
  · have e : poolB k m p d = false := by simp only [poolB, b1, b2, b3, b4]; rfl
    have k1 : 1 ≤ k := of_decide_eq_true b1
    have k2 : k ≤ 32 := of_decide_eq_true b3
    rw [e]
    clear e
    go_enter Try.func71, Try.ntmps71
    go_wp2_with (go_at_call 70; refine (win_calls _ _ _).mono ?_; rintro e w1 ⟨rfl, rfl⟩)
    go_ret
    exact ⟨rfl, by first | exact HB.out | exact below_alloc (Below.refl _ _) _⟩
  cases b5 : decide (1 ≤ p)
  · have e : poolB k m p d = false := by simp only [poolB, b1, b2, b3, b4, b5]; rfl
    have k1 : 1 ≤ k := of_decide_eq_true b1
    have k2 : k ≤ 32 := of_decide_eq_true b3
    rw [e]
    clear e
    go_enter Try.func71, Try.ntmps71
    go_wp2_with (go_at_call 70; refine (win_calls _ _ _).mono ?_; rintro e w1 ⟨rfl, rfl⟩)
    go_ret
    exact ⟨rfl, by first | exact HB.out | exact below_alloc (Below.refl _ _) _⟩
  cases b6 : decide (p ≤ 32)
  · have e : poolB k m p d = false := by simp only [poolB, b1, b2, b3, b4, b5, b6]; rfl
    have k1 : 1 ≤ k := of_decide_eq_true b1
    have k2 : k ≤ 32 := of_decide_eq_true b3
    rw [e]
    clear e
    go_enter Try.func71, Try.ntmps71
    go_wp2_with (go_at_call 70; refine (win_calls _ _ _).mono ?_; rintro e w1 ⟨rfl, rfl⟩)
    go_ret
    exact ⟨rfl, by first | exact HB.out | exact below_alloc (Below.refl _ _) _⟩
  cases b7 : winB d 2
  · have e : poolB k m p d = false := by simp only [poolB, b1, b2, b3, b4, b5, b6, b7]; rfl
    have k1 : 1 ≤ k := of_decide_eq_true b1
    have k2 : k ≤ 32 := of_decide_eq_true b3
    rw [e]
    clear e
    go_enter Try.func71, Try.ntmps71
    go_wp2_with (go_at_call 70; refine (win_calls _ _ _).mono ?_; rintro e w1 ⟨rfl, rfl⟩)
    go_ret
    exact ⟨rfl, by first | exact HB.out | exact below_alloc (Below.refl _ _) _⟩
  · have e : poolB k m p d = true := by simp only [poolB, b1, b2, b3, b4, b5, b6, b7]; rfl
    have k1 : 1 ≤ k := of_decide_eq_true b1
    have k2 : k ≤ 32 := of_decide_eq_true b3
    rw [e]
    clear e
    go_enter Try.func71, Try.ntmps71
    go_wp2_with (go_at_call 70; refine (win_calls _ _ _).mono ?_; rintro e w1 ⟨rfl, rfl⟩)
    go_ret
    exact ⟨rfl, by first | exact HB.out | exact below_alloc (Below.refl _ _) _⟩
abbrev DW := DataW Unit
abbrev OM (w : World) (b n : Nat) (D : DW) : Prop := w.ownsMap Try.prog 3 (plainElem Try.prog 3) b n D
theorem keyI : Keyed Try.prog 3 := int_keyed Try.underlying3
theorem zeroI (w : World) : (zeroValue 3).run Try.prog w = .ok (.int .i64 0) w := by kernel_rfl
theorem look_rack {w : World} {b n : Nat} {D : DW} (h : OM w b n D) (v : Int) (hv : (Lit.int .i64 v).wf = true) : ∃ c, (Instr.lookup 103 (.map (some b)) (.int .i64 v) true).run Try.prog w = .ok (.tuple #[.int .i64 c, .bool (Maps.has D (.int .i64 v))]) w ∧ D.atKey (.int .i64 v) (.lit (.int .i64 0)) = .lit (.int .i64 c) := by
  obtain ⟨y, ps, hrun, hy⟩ := h.look_ok keyI Try.underlying103 (zeroI w) (plainElem_int Try.underlying3 (by decide)) (keyOf_int_mk Try.underlying3 hv)
  obtain ⟨c, rfl, hc, _⟩ := plainElem_int_inv Try.underlying3 hy
  exact ⟨c, hrun, congrArg Prod.fst hc⟩
/-- May the first k be? -/
def Good (l : List Od) (k : Nat) : Prop := ∀ i o, i < k → l[i]? = some o → osdB o = true ∧ ∀ j p, j < i → l[j]? = some p → p.f0 < o.f0 ∧ (p.f6 = o.f6 → p.f7 = o.f7)
/-- What the map of racks holds. -/
def Racks (l : List Od) (k : Nat) (D : DW) : Prop := (∀ i o, i < k → l[i]? = some o → Maps.has D (.int .i64 o.f6) = true ∧ D.atKey (.int .i64 o.f6) (.lit (.int .i64 0)) = .lit (.int .i64 o.f7)) ∧ (∀ h : Int, Maps.has D (.int .i64 h) = true → ∃ i o, i < k ∧ l[i]? = some o ∧ o.f6 = h)
theorem racks_put {l : List Od} {k : Nat} {D : DW} {o : Od} (h : Racks l k D) (hm : Go.Maps.IsMap D) (ho : l[k]? = some o) (hg : Good l (k + 1)) : Racks l (k + 1) (D.put (.int .i64 o.f6) (.lit (.int .i64 o.f7))) := by
  refine ⟨fun i p hi hp => ?_, fun v hv => ?_⟩
  · by_cases e : p.f6 = o.f6
    · have hr : p.f7 = o.f7 := by
        rcases Nat.lt_or_ge i k with hik | hik
        · exact ((hg k o (by omega) ho).2 i p hik hp).2 e
        · obtain rfl : i = k := by omega
          rw [ho] at hp
          rw [Option.some.inj hp]
      rw [e, hr]
      exact ⟨Go.Maps.has_put_same hm (by trivial) _, Go.Maps.atKey_put_same hm (by trivial) _ _⟩
    · have hik : i < k := by
        rcases Nat.lt_or_ge i k with hik | hik
        · exact hik
        · obtain rfl : i = k := by omega
          rw [ho] at hp
          exact absurd (by rw [Option.some.inj hp]) e
      have hne : (Lit.int .i64 p.f6) ≠ (Lit.int .i64 o.f6) := by intro hh; injection hh with _ hh; exact e hh
      rw [Go.Maps.has_put_other hne, Go.Maps.atKey_put_other hne]
      exact h.1 i p hik hp
  · by_cases e : v = o.f6
    · exact ⟨k, o, by omega, ho, e.symm⟩
    · rw [Go.Maps.has_put_other (by intro hh; injection hh with _ hh; exact e hh)] at hv
      obtain ⟨i, p, h1, h2, h3⟩ := h.2 v hv
      exact ⟨i, p, by omega, h2, h3⟩
theorem good_step {l : List Od} {k : Nat} {D : DW} {o : Od} (hg : Good l k) (hr : Racks l k D) (ho : l[k]? = some o) (h1 : osdB o = true) (h2 : ∀ p, 0 < k → l[k - 1]? = some p → p.f0 < o.f0) (h3 : Maps.has D (.int .i64 o.f6) = true → D.atKey (.int .i64 o.f6) (.lit (.int .i64 0)) = .lit (.int .i64 o.f7)) : Good l (k + 1) := by
  intro i p hi hp
  rcases Nat.lt_or_ge i k with hik | hik
  · exact hg i p hik hp
  · obtain rfl : i = k := by omega
    rw [ho] at hp
    obtain rfl := Option.some.inj hp
    refine ⟨h1, fun j q hj hq => ⟨?_, fun e => ?_⟩⟩
    · have hk : 0 < i := by omega
      have hlt : i - 1 < l.length := by have := (List.getElem?_eq_some_iff.1 ho).1; omega
      have hb := h2 l[i - 1] hk (List.getElem?_eq_getElem hlt)
      rcases Nat.lt_or_ge j (i - 1) with hj2 | hj2
      · have := ((hg (i - 1) l[i - 1] (by omega) (List.getElem?_eq_getElem hlt)).2 j q hj2 hq).1
        omega
      · obtain rfl : j = i - 1 := by omega
        rw [List.getElem?_eq_getElem hlt] at hq
        rw [← Option.some.inj hq]; exact hb
    · have := hr.1 j q hj hq
      rw [e] at this
      have h4 := h3 this.1
      rw [this.2] at h4
      injection h4 with h4
      injection h4
theorem not_good {l : List Od} {k n : Nat} {o : Od} (hk : k < n) (ho : l[k]? = some o) (h : osdB o = false ∨ ∃ j p, j < k ∧ l[j]? = some p ∧ (o.f0 ≤ p.f0 ∨ (p.f6 = o.f6 ∧ p.f7 ≠ o.f7))) : ¬ Good l n := by
  intro hg
  have := hg k o hk ho
  rcases h with h | ⟨j, p, h1, h2, h3⟩
  · rw [h] at this; exact absurd this.1 (by decide)
  · have h4 := this.2 j p h1 h2
    rcases h3 with h3 | ⟨h3, h5⟩
    · omega
    · exact h5 (h4.2 h3)
open Classical in
/-- May the map's OSDs be? -/
noncomputable def goodB (l : List Od) : Bool := decide (Good l l.length)
open Classical in
theorem goodB_no {l : List Od} (h : ¬ Good l l.length) : goodB l = false := decide_eq_false h
open Classical in
theorem goodB_yes {l : List Od} (h : Good l l.length) : goodB l = true := decide_eq_true h
open Classical in
theorem goodB_iff {l : List Od} : goodB l = true ↔ Good l l.length := decide_eq_true_iff
/-- What Check tells of the OSDs. -/
noncomputable def chkI (l : List Od) : Int := if goodB l = true then 0 else 1
theorem chkI_no {l : List Od} (h : ¬ Good l l.length) : chkI l = 1 := by unfold chkI; rw [goodB_no h]; rfl
theorem chkI_yes {l : List Od} (h : Good l l.length) : chkI l = 0 := by unfold chkI; rw [goodB_yes h]; rfl
noncomputable def mayB (ep k m p d : Int) (l : List Od) : Bool := winB ep 1048576 && (poolB k m p d && (decide (l.length ≤ 64) && goodB l))
theorem om_below {w w1 : World} {b n : Nat} {D : DW} (h : OM w b n D) (hb : Below w.heap.size w w1) : OM w1 b n D := h.kept (grown_of_below hb none) (by simp)
theorem made (w : World) (o : Obj) : OM ((w.alloc o).alloc (.map #[] 0)) (w.heap.size + 1) 0 (.map []) := by
  have e : (w.alloc o).heap.size = w.heap.size + 1 := by simp
  exact e ▸ World.ownsMap_made (w.alloc o) Try.prog _ _
section
variable (ep k m p d : Int) (A : Option Addr) (c : Nat) (l : List Od) (w : World)
def boxM : Array Value := #[.int .i64 ep, .int .i64 k, .int .i64 m, .int .i64 p, .int .i64 d, .slice A l.length c]
theorem check_ep (h : winB ep 1048576 = false) :
    Calls Try.prog 40 #[.agg (boxM ep k m p d A c l)] w fun e w' => e = .returned (.int .i64 1) ∧ Below w.heap.size w w' := by
  unfold boxM
  have HB := Lib.hid (below_alloc (Below.refl w.heap.size w) (.cells #[.int .i64 ep, .int .i64 k, .int .i64 m, .int .i64 p, .int .i64 d, .slice A l.length c] 26))
  go_enter Try.func40, Try.ntmps40
  go_wp2_with fail
  refine (win_calls _ _ _).mono ?_
  rintro e w1 ⟨rfl, rfl⟩
  rw [h]
  go_wp2_with fail
  go_ret
  exact ⟨rfl, HB.out⟩
theorem check_pool (h0 : winB ep 1048576 = true) (h : poolB k m p d = false) :
    Calls Try.prog 40 #[.agg (boxM ep k m p d A c l)] w fun e w' => e = .returned (.int .i64 1) ∧ Below w.heap.size w w' := by
  unfold boxM
  have HB := Lib.hid (below_alloc (Below.refl w.heap.size w) (.cells #[.int .i64 ep, .int .i64 k, .int .i64 m, .int .i64 p, .int .i64 d, .slice A l.length c] 26))
  go_enter Try.func40, Try.ntmps40
  go_wp2_with fail
  refine (win_calls _ _ _).mono ?_
  rintro e w1 ⟨rfl, rfl⟩
  rw [h0]
  go_wp2_with fail
  refine (pool_calls _ _ _ _ _).mono ?_
  rintro e w1 ⟨rfl, hb⟩
  rw [h]
  have HB2 := Lib.hid (below_then HB.out HB.out.size hb)
  clear hb
  go_wp2_with fail
  go_ret
  exact ⟨rfl, HB2.out⟩
theorem check_many (h0 : winB ep 1048576 = true) (h1 : poolB k m p d = true) (h2 : 64 < l.length) (hs : l.length ≤ 9223372036854775807) :
    Calls Try.prog 40 #[.agg (boxM ep k m p d A c l)] w fun e w' => e = .returned (.int .i64 1) ∧ Below w.heap.size w w' := by
  unfold boxM
  have HB := Lib.hid (below_alloc (Below.refl w.heap.size w) (.cells #[.int .i64 ep, .int .i64 k, .int .i64 m, .int .i64 p, .int .i64 d, .slice A l.length c] 26))
  have c5 : (w.alloc (.cells #[.int .i64 ep, .int .i64 k, .int .i64 m, .int .i64 p, .int .i64 d, .slice A l.length c] 26)).cell? ⟨w.heap.size, 5, none⟩ = some (.slice A l.length c) := blk_cell (blk_new w _) 5
  have hd : decide (64 < l.length) = true := decide_eq_true h2
  have hd2 : decide ((64 : Int) < (l.length : Int)) = true := decide_eq_true (by omega)
  clear h2
  go_enter Try.func40, Try.ntmps40
  go_wp2_with fail
  refine (win_calls _ _ _).mono ?_
  rintro e w1 ⟨rfl, rfl⟩
  rw [h0]
  go_wp2_with fail
  refine (pool_calls _ _ _ _ _).mono ?_
  rintro e w1 ⟨rfl, hb⟩
  rw [h1]
  have HB2 := Lib.hid (below_then HB.out HB.out.size hb)
  have c5' : w1.cell? ⟨w.heap.size, 5, none⟩ = some (.slice A l.length c) := (hb.cell (p := ⟨w.heap.size, 5, none⟩) (by simp)).trans c5
  clear hb
  go_wp2_with fail
  go_ret
  exact ⟨rfl, HB2.out⟩
theorem bad_rack {l : List Od} {n : Nat} {D : DW} {o : Od} {rk : Int} (hr : Racks l n D) (hk : Maps.has D (.int .i64 o.f6) = true) (hat : D.atKey (.int .i64 o.f6) (.lit (.int .i64 0)) = .lit (.int .i64 rk)) (hne : rk ≠ o.f7) : ∃ j p, j < n ∧ l[j]? = some p ∧ (o.f0 ≤ p.f0 ∨ (p.f6 = o.f6 ∧ p.f7 ≠ o.f7)) := by
  obtain ⟨j, q, hj, hq, e⟩ := hr.2 o.f6 hk
  refine ⟨j, q, hj, hq, .inr ⟨e, fun e3 => ?_⟩⟩
  have h := (hr.1 j q hj hq).2
  rw [e, hat] at h
  injection h with h
  injection h with _ h
  exact hne (h.trans e3)
/-- An element's cells. -/
theorem at_O {w : World} {A : Option Addr} {n : Nat} {xs : List Od} (h : kO.C w A n xs) (i : Nat) (h1 : i < n) : ∃ ad o, xs[i]? = some o ∧ A = some ad ∧ w.cell? (ad.add (i * 8)) = some (.int .i64 o.f0) ∧ w.cell? ⟨(ad.add (i * 8)).block, (ad.add (i * 8)).off + 1, none⟩ = some (.bool o.f1) ∧ w.cell? ⟨(ad.add (i * 8)).block, (ad.add (i * 8)).off + 2, none⟩ = some (.bool o.f2) ∧ w.cell? ⟨(ad.add (i * 8)).block, (ad.add (i * 8)).off + 3, none⟩ = some (.int .i64 o.f3) ∧ w.cell? ⟨(ad.add (i * 8)).block, (ad.add (i * 8)).off + 4, none⟩ = some (.int .i64 o.f4) ∧ w.cell? ⟨(ad.add (i * 8)).block, (ad.add (i * 8)).off + 5, none⟩ = some (.int .i64 o.f5) ∧ w.cell? ⟨(ad.add (i * 8)).block, (ad.add (i * 8)).off + 6, none⟩ = some (.int .i64 o.f6) ∧ w.cell? ⟨(ad.add (i * 8)).block, (ad.add (i * 8)).off + 7, none⟩ = some (.int .i64 o.f7) := by
  obtain ⟨ad, hA, a0, a1, a2, a3, a4, a5, a6, a7⟩ := at_T40 h (i : Int) (by omega) (by omega)
  have hl : i < xs.length := by have := h.1; omega
  have e : rd_T40 xs (i : Int) = xs[i] := by simp [rd_T40, List.getD_eq_getElem?_getD, List.getElem?_eq_getElem hl]
  rw [e] at a0 a1 a2 a3 a4 a5 a6 a7
  exact ⟨ad, xs[i], List.getElem?_eq_getElem hl, hA, a0, a1, a2, a3, a4, a5, a6, a7⟩
abbrev aggO (o : Od) : Array Value := #[.int .i64 o.f0, .bool o.f1, .bool o.f2, .int .i64 o.f3, .int .i64 o.f4, .int .i64 o.f5, .int .i64 o.f6, .int .i64 o.f7]
theorem blkO {w : World} {g : Nat} {o : Od} (h : w.heap[g]? = some (.cells (aggO o) 40 (0, 0))) : w.cell? ⟨g, 0, none⟩ = some (.int .i64 o.f0) ∧ w.cell? ⟨g, 1, none⟩ = some (.bool o.f1) ∧ w.cell? ⟨g, 2, none⟩ = some (.bool o.f2) ∧ w.cell? ⟨g, 3, none⟩ = some (.int .i64 o.f3) ∧ w.cell? ⟨g, 4, none⟩ = some (.int .i64 o.f4) ∧ w.cell? ⟨g, 5, none⟩ = some (.int .i64 o.f5) ∧ w.cell? ⟨g, 6, none⟩ = some (.int .i64 o.f6) ∧ w.cell? ⟨g, 7, none⟩ = some (.int .i64 o.f7) :=
  ⟨blk_cell h 0, blk_cell h 1, blk_cell h 2, blk_cell h 3, blk_cell h 4, blk_cell h 5, blk_cell h 6, blk_cell h 7⟩
abbrev aggM (ep k m p d : Int) (A : Option Addr) (n c : Nat) : Array Value := #[.int .i64 ep, .int .i64 k, .int .i64 m, .int .i64 p, .int .i64 d, .slice A n c]
set_option maxHeartbeats 4000000 in
set_option maxRecDepth 100000 in
theorem check_loop (h0 : winB ep 1048576 = true) (h1 : poolB k m p d = true) (h2 : l.length ≤ 64) (hx : kO.C w A l.length l) (hwf : ∀ o ∈ l, (Lit.int .i64 o.f6).wf = true) (hwf7 : ∀ o ∈ l, (Lit.int .i64 o.f7).wf = true) :
    Calls Try.prog 40 #[.agg (aggM ep k m p d A l.length c)] w fun e w' => e = .returned (.int .i64 (chkI l)) ∧ Below w.heap.size w w' := by
  have HB := Lib.hid (below_alloc (Below.refl w.heap.size w) (.cells (aggM ep k m p d A l.length c) 26))
  have hblk : (w.alloc (.cells (aggM ep k m p d A l.length c) 26)).heap[w.heap.size]? = some (.cells (aggM ep k m p d A l.length c) 26 (0, 0)) := blk_new w _
  have c5 : (w.alloc (.cells (aggM ep k m p d A l.length c) 26)).cell? ⟨w.heap.size, 5, none⟩ = some (.slice A l.length c) := blk_cell hblk 5
  have hd : decide (64 < l.length) = false := decide_eq_false (by omega)
  have hd2 : decide ((64 : Int) < (l.length : Int)) = false := decide_eq_false (by omega)
  have HC := Lib.hid hx
  have HF := Lib.hid hwf
  have HF7 := Lib.hid hwf7
  have HBK := Lib.hid hblk
  have hmm := @run_makeMap Try.prog
  clear hx hwf hwf7 hblk
  go_enter Try.func40, Try.ntmps40
  go_wp2_with fail
  refine (win_calls _ _ _).mono ?_
  rintro e w1 ⟨rfl, rfl⟩
  rw [h0]
  go_wp2_with fail
  refine (pool_calls _ _ _ _ _).mono ?_
  rintro e w1 ⟨rfl, hb⟩
  rw [h1]
  have HB2 := Lib.hid (below_then HB.out HB.out.size hb)
  have HBK2 := Lib.hid (blk_below HBK.out hb)
  clear hb c5 HB HBK
  have c5 : w1.cell? ⟨w.heap.size, 5, none⟩ = some (.slice A l.length c) := blk_cell HBK2.out 5
  have HM0 : Hid (OM (w1.alloc (.map #[] 0)) w1.heap.size 0 (.map [])) := Lib.hid (World.ownsMap_made w1 Try.prog _ _)
  have HBK3 := Lib.hid (blk_below HBK2.out (below_alloc (Below.refl _ _) (.map #[] 0)))
  have HB3 := Lib.hid (below_alloc HB2.out (.map #[] 0))
  have HLT : Hid (w.heap.size < w1.heap.size) := Lib.hid (blk_lt HBK2.out)
  have HLE : Hid (w.heap.size ≤ w1.heap.size) := Lib.hid HB2.out.size
  have c5m : (w1.alloc (.map #[] 0)).cell? ⟨w.heap.size, 5, none⟩ = some (.slice A l.length c) := blk_cell HBK3.out 5
  obtain ⟨wb, hwb⟩ : ∃ wb, wb = w1.heap.size := ⟨_, rfl⟩
  go_wp2_with fail
  rw [← hwb]
  rw [← hwb] at HM0 HLT HLE
  clear hwb
  go_loopw [28] (fun i' wr => ∃ (n : Nat) (D : DW), i' = .int .i64 n ∧ Hid (n ≤ l.length) ∧ Hid (Good l n) ∧ Hid (Racks l n D) ∧ Hid (OM wr wb n D) ∧ Hid (wr.heap[w.heap.size]? = some (.cells (aggM ep k m p d A l.length c) 26 (0, 0))) ∧ Hid (Below w.heap.size w wr)) (fun i' _ => (l.length - intOf i').toNat)
  case atStart => exact ⟨0, .map [], rfl, Lib.hid (by omega), Lib.hid (fun i o hi => absurd hi (by omega)), Lib.hid ⟨fun i o hi => absurd hi (by omega), fun h hh => by cases hh⟩, HM0, HBK3, HB3⟩
  case round =>
    obtain ⟨n, D, rfl, HN, HG, HR, HM, HBX, HB⟩ := hrel
    clear c5 c5m HM0 HB3 HBK3 HB2 HBK2
    have hn := HN.out
    by_cases h : n < l.length
    · have hlt : decide (n < l.length) = true := decide_eq_true h
      have i0 : (0 : Int) ≤ n := by omega
      obtain ⟨ad, o, ho, hA, a0, a1, a2, a3, a4, a5, a6, a7⟩ := at_O (Kd.C_below HC.out HB.out) n h
      subst hA
      have HON := Lib.hid ho
      have hw6 := HF.out o (List.mem_of_getElem? ho)
      have HW6 := Lib.hid hw6
      have HBA := Lib.hid (below_alloc (Below.refl wr.heap.size wr) (.cells (aggO o) 40))
      obtain ⟨rk, hlook, hat⟩ := look_rack (om_below HM.out HBA.out) o.f6 hw6
      have HAT := Lib.hid hat
      obtain ⟨kn, hkn⟩ : ∃ kn, kn = Maps.has D (.int .i64 o.f6) := ⟨_, rfl⟩
      rw [← hkn] at hlook
      have HKN := Lib.hid hkn
      have HB4 := Lib.hid (below_alloc HB.out (.cells (aggO o) 40))
      have HM4 := Lib.hid (om_below HM.out HBA.out)
      have HBX4 := Lib.hid (blk_alloc HBX.out (.cells (aggO o) 40))
      have HOB4 : Hid ((wr.alloc (.cells (aggO o) 40)).heap[wr.heap.size]? = some (.cells (aggO o) 40 (0, 0))) := Lib.hid (blk_new wr _)
      have HSZ : Hid (wb < wr.heap.size) := Lib.hid HM.out.lt
      clear ho hw6 hat hkn HM HB HBX
      go_wp2_with fail
      obtain ⟨w4, hw4⟩ : ∃ w4, w4 = wr.alloc (.cells (aggO o) 40) := ⟨_, rfl⟩
      obtain ⟨go, hgo⟩ : ∃ go, go = wr.heap.size := ⟨_, rfl⟩
      rw [← hw4] at HB4 HM4 HBX4 HOB4 ⊢
      rw [← hgo] at HOB4 HSZ ⊢
      clear hw4 hgo hlook a0 a1 a2 a3 a4 a5 a6 a7 HBA
      obtain ⟨y0, y1, y2, y3, y4, y5, y6, y7⟩ := blkO HOB4.out
      have x5 : w4.cell? ⟨w.heap.size, 5, none⟩ = some (.slice (some ad) l.length c) := blk_cell HBX4.out 5
      have z0 := cell_regrown y0
      have z1 := cell_regrown y1
      have z2 := cell_regrown y2
      have z3 := cell_regrown y3
      have z4 := cell_regrown y4
      have z5 := cell_regrown y5
      have z6 := cell_regrown y6
      have z7 := cell_regrown y7
      have zx := cell_regrown x5
      clear y0 y1 y2 y3 y4 y5 y6 y7 x5
      obtain ⟨ob, hob⟩ : ∃ ob, ob = osdB o := ⟨_, rfl⟩
      have HOB := Lib.hid hob
      have T : Hid (∀ dd os, Calls Try.prog 72 #[.agg (aggO o)] (Sort.grow (redrawn w4 dd) os) fun e w' => e = .returned (.bool ob) ∧ Below (Sort.grow (redrawn w4 dd) os).heap.size (Sort.grow (redrawn w4 dd) os) w') := Lib.hid (fun dd os => by rw [hob]; exact osd_calls o _)
      clear hob
      cases ob with
      | false =>
        go_wp2_with fail
        refine wp_region_quiet_below (by kernel_rfl) (by kernel_rfl) ?_
        repeat (go_big_quiet_step ((go_at_call 72; exact Calls.regrown_of (T.out _ _))))
        refine wpQuiet_nil ?_
        intro _ hw'
        obtain ⟨⟨dq, osq⟩, hw''⟩ := hw'
        subst hw''
        have HB5 := Lib.hid (below_then HB4.out HB4.out.size (below_regrown w4 dq osq))
        go_wp2_with fail
        go_ret
        refine ⟨?_, HB5.out⟩
        have hng : chkI l = 1 := chkI_no (not_good h HON.out (.inl HOB.out.symm))
        rw [hng]; rfl
      | true =>
        have key : ∃ low : Bool, (low = true → ∃ j q, j < n ∧ l[j]? = some q ∧ o.f0 ≤ q.f0) ∧ (low = false → ∀ q, 0 < n → l[n - 1]? = some q → q.f0 < o.f0) ∧
            ((n = 0 ∧ low = false) ∨ (0 < n ∧ ∃ q, l[n - 1]? = some q ∧ low = decide (o.f0 ≤ q.f0))) := by
          rcases Nat.eq_zero_or_pos n with h0 | h0
          · exact ⟨false, (fun h => absurd h (by decide)), (fun _ q hp => by omega), .inl ⟨h0, rfl⟩⟩
          · have hlt2 : n - 1 < l.length := by omega
            refine ⟨decide (o.f0 ≤ (l[n - 1]).f0), fun h => ⟨n - 1, l[n - 1], by omega, List.getElem?_eq_getElem hlt2, of_decide_eq_true h⟩, fun h q _ hq => ?_, .inr ⟨h0, l[n - 1], List.getElem?_eq_getElem hlt2, rfl⟩⟩
            rw [List.getElem?_eq_getElem hlt2] at hq
            have := of_decide_eq_false h
            rw [← Option.some.inj hq]; omega
        obtain ⟨low, hl1, hl2, hl3⟩ := key
        have HL1 := Lib.hid hl1
        have HL2 := Lib.hid hl2
        clear hl1 hl2
        obtain ⟨bad, hbad⟩ : ∃ bad, bad = (kn && !(rk == o.f7)) := ⟨_, rfl⟩
        have HBAD : Hid (bad = (kn && !(rk == o.f7))) := Lib.hid hbad
        have HEND : Hid (goodB l = true ∨ goodB l = false) := Lib.hid (by cases goodB l; exact .inr rfl; exact .inl rfl)
        rcases hl3 with ⟨hz, rfl⟩ | ⟨hz, q, hq, hlo⟩
        · have hz0 : decide (0 < n) = false := decide_eq_false (by omega)
          have hz1 : decide ((0 : Int) < (n : Int)) = false := decide_eq_false (by omega)
          cases kn
          · go_wp2_with fail
            refine wp_region_quiet_below (by kernel_rfl) (by kernel_rfl) ?_
            repeat (go_big_quiet_step ((go_at_call 72; exact Calls.regrown_of (T.out _ _))))
            refine wpQuiet_nil ?_
            intro _ hw'
            obtain ⟨⟨dq, osq⟩, hw''⟩ := hw'
            subst hw''
            have HB5 := Lib.hid (below_then HB4.out HB4.out.size (below_regrown w4 dq osq))
            have HM5 := Lib.hid (om_below HM4.out (below_regrown w4 dq osq))
            have HBX5 := Lib.hid (blk_below HBX4.out (below_regrown w4 dq osq))
            have HOB5 := Lib.hid (blk_below HOB4.out (below_regrown w4 dq osq))
            obtain ⟨w5, hw5⟩ : ∃ w5, w5 = Sort.grow (redrawn w4 dq) osq := ⟨_, rfl⟩
            rw [← hw5] at HB5 HM5 HBX5 HOB5 ⊢
            clear hw5 z0 z1 z2 z3 z4 z5 z6 z7 zx T HB4 HM4 HBX4 HOB4
            have HGD : Hid (Good l (n + 1)) := Lib.hid (good_step HG.out HR.out HON.out HOB.out.symm (HL2.out (by simp)) (fun hk => by rw [← HKN.out] at hk; cases hk))
            have HIM := Lib.hid HM5.out.isMap
            obtain ⟨y0, y1, y2, y3, y4, y5, y6, y7⟩ := blkO HOB5.out
            go_wp2_with (first | (at_mapUpdate; go_must (refine wpList_mapUpdate_own _ rfl _ _ _ 103 rfl 3 3 keyI Try.underlying103 _ wb n D rfl (by exact HM5.out) ?hn _ _ (.int .i64 o.f6) rfl rfl (keyOf_int_mk Try.underlying3 HW6.out) (.lit (.int .i64 o.f7)) [] (plainElem_int Try.underlying3 (HF7.out o (List.mem_of_getElem? HON.out))) ?_; (case hn => simp only [maxLen]; omega)); intro w2 ho hg; have HM6 := Lib.hid ho; have HB6 := Lib.hid (HB5.out.grown hg HB5.out.size (fun k hk => by injection hk with hk; have := HLE.out; omega)); have HBX6 := Lib.hid (blk_grown HBX5.out hg (by intro e; injection e with e; have := HLT.out; omega)); clear ho hg HM5 HB5 HBX5 HOB5 y0 y1 y2 y3 y4 y5 y6 y7))
            go_roundw
            case rel => exact ⟨n + 1, _, by go_num, Lib.hid (by omega), HGD, Lib.hid (racks_put HR.out HIM.out HON.out HGD.out), HM6, HBX6, HB6⟩
            case measure => simp only [intOf]; omega
          · cases hrk : (rk == o.f7)
            · have hrk2 : (rk != o.f7) = true := by rw [bne, hrk]; rfl
              have HRK := Lib.hid hrk
              clear hrk
              go_wp2_with fail
              refine wp_region_quiet_below (by kernel_rfl) (by kernel_rfl) ?_
              repeat (go_big_quiet_step ((go_at_call 72; exact Calls.regrown_of (T.out _ _))))
              refine wpQuiet_nil ?_
              intro _ hw'
              obtain ⟨⟨dq, osq⟩, hw''⟩ := hw'
              subst hw''
              have HB5 := Lib.hid (below_then HB4.out HB4.out.size (below_regrown w4 dq osq))
              go_wp2_with fail
              go_ret
              refine ⟨?_, HB5.out⟩
              have hng : chkI l = 1 := chkI_no (not_good h HON.out (.inr (bad_rack HR.out HKN.out.symm HAT.out (beq_eq_false_iff_ne.1 HRK.out))))
              rw [hng]; rfl
            · have hrk2 : (rk != o.f7) = false := by rw [bne, hrk]; rfl
              have HRK := Lib.hid hrk
              clear hrk
              go_wp2_with fail
              refine wp_region_quiet_below (by kernel_rfl) (by kernel_rfl) ?_
              repeat (go_big_quiet_step ((go_at_call 72; exact Calls.regrown_of (T.out _ _))))
              refine wpQuiet_nil ?_
              intro _ hw'
              obtain ⟨⟨dq, osq⟩, hw''⟩ := hw'
              subst hw''
              have HB5 := Lib.hid (below_then HB4.out HB4.out.size (below_regrown w4 dq osq))
              have HM5 := Lib.hid (om_below HM4.out (below_regrown w4 dq osq))
              have HBX5 := Lib.hid (blk_below HBX4.out (below_regrown w4 dq osq))
              have HOB5 := Lib.hid (blk_below HOB4.out (below_regrown w4 dq osq))
              obtain ⟨w5, hw5⟩ : ∃ w5, w5 = Sort.grow (redrawn w4 dq) osq := ⟨_, rfl⟩
              rw [← hw5] at HB5 HM5 HBX5 HOB5 ⊢
              clear hw5 z0 z1 z2 z3 z4 z5 z6 z7 zx T HB4 HM4 HBX4 HOB4
              have HGD : Hid (Good l (n + 1)) := Lib.hid (good_step HG.out HR.out HON.out HOB.out.symm (HL2.out (by simp)) (fun hk => by rw [HAT.out, beq_iff_eq.1 HRK.out]))
              have HIM := Lib.hid HM5.out.isMap
              obtain ⟨y0, y1, y2, y3, y4, y5, y6, y7⟩ := blkO HOB5.out
              go_wp2_with (first | (at_mapUpdate; go_must (refine wpList_mapUpdate_own _ rfl _ _ _ 103 rfl 3 3 keyI Try.underlying103 _ wb n D rfl (by exact HM5.out) ?hn _ _ (.int .i64 o.f6) rfl rfl (keyOf_int_mk Try.underlying3 HW6.out) (.lit (.int .i64 o.f7)) [] (plainElem_int Try.underlying3 (HF7.out o (List.mem_of_getElem? HON.out))) ?_; (case hn => simp only [maxLen]; omega)); intro w2 ho hg; have HM6 := Lib.hid ho; have HB6 := Lib.hid (HB5.out.grown hg HB5.out.size (fun k hk => by injection hk with hk; have := HLE.out; omega)); have HBX6 := Lib.hid (blk_grown HBX5.out hg (by intro e; injection e with e; have := HLT.out; omega)); clear ho hg HM5 HB5 HBX5 HOB5 y0 y1 y2 y3 y4 y5 y6 y7))
              go_roundw
              case rel => exact ⟨n + 1, _, by go_num, Lib.hid (by omega), HGD, Lib.hid (racks_put HR.out HIM.out HON.out HGD.out), HM6, HBX6, HB6⟩
              case measure => simp only [intOf]; omega
        · have hz0 : decide (0 < n) = true := decide_eq_true hz
          have hz1 : decide ((0 : Int) < (n : Int)) = true := decide_eq_true (by omega)
          obtain ⟨ad2, q2, hq2, hA2, b0, b1, b2, b3, b4, b5, b6, b7⟩ := at_O (Kd.C_below HC.out HB4.out) (n - 1) (by omega)
          rw [hq] at hq2
          obtain rfl := Option.some.inj hq2
          injection hA2 with hA2
          subst hA2
          have u0 := cell_regrown b0
          have j0 : (0 : Int) ≤ (n : Int) - 1 := by omega
          have j1 : (n : Int) - 1 < l.length := by omega
          have jw : IntKind.i64.wrap ((n : Int) - 1) = (n : Int) - 1 := IntWalk.i64_in _ (by omega)
          have jn : ((n : Int) - 1).toNat = n - 1 := by omega
          clear hq hq2 b0 b1 b2 b3 b4 b5 b6 b7
          cases low
          · have hlo2 : decide (o.f0 ≤ q.f0) = false := hlo.symm
            clear hlo
            cases kn
            · go_wp2_with fail
              refine wp_region_quiet_below (by kernel_rfl) (by kernel_rfl) ?_
              repeat (go_big_quiet_step ((go_at_call 72; exact Calls.regrown_of (T.out _ _))))
              refine wpQuiet_nil ?_
              intro _ hw'
              obtain ⟨⟨dq, osq⟩, hw''⟩ := hw'
              subst hw''
              have HB5 := Lib.hid (below_then HB4.out HB4.out.size (below_regrown w4 dq osq))
              have HM5 := Lib.hid (om_below HM4.out (below_regrown w4 dq osq))
              have HBX5 := Lib.hid (blk_below HBX4.out (below_regrown w4 dq osq))
              have HOB5 := Lib.hid (blk_below HOB4.out (below_regrown w4 dq osq))
              obtain ⟨w5, hw5⟩ : ∃ w5, w5 = Sort.grow (redrawn w4 dq) osq := ⟨_, rfl⟩
              rw [← hw5] at HB5 HM5 HBX5 HOB5 ⊢
              clear hw5 z0 z1 z2 z3 z4 z5 z6 z7 zx T HB4 HM4 HBX4 HOB4
              have HGD : Hid (Good l (n + 1)) := Lib.hid (good_step HG.out HR.out HON.out HOB.out.symm (HL2.out (by simp)) (fun hk => by rw [← HKN.out] at hk; cases hk))
              have HIM := Lib.hid HM5.out.isMap
              obtain ⟨y0, y1, y2, y3, y4, y5, y6, y7⟩ := blkO HOB5.out
              go_wp2_with (first | (at_mapUpdate; go_must (refine wpList_mapUpdate_own _ rfl _ _ _ 103 rfl 3 3 keyI Try.underlying103 _ wb n D rfl (by exact HM5.out) ?hn _ _ (.int .i64 o.f6) rfl rfl (keyOf_int_mk Try.underlying3 HW6.out) (.lit (.int .i64 o.f7)) [] (plainElem_int Try.underlying3 (HF7.out o (List.mem_of_getElem? HON.out))) ?_; (case hn => simp only [maxLen]; omega)); intro w2 ho hg; have HM6 := Lib.hid ho; have HB6 := Lib.hid (HB5.out.grown hg HB5.out.size (fun k hk => by injection hk with hk; have := HLE.out; omega)); have HBX6 := Lib.hid (blk_grown HBX5.out hg (by intro e; injection e with e; have := HLT.out; omega)); clear ho hg HM5 HB5 HBX5 HOB5 y0 y1 y2 y3 y4 y5 y6 y7))
              go_roundw
              case rel => exact ⟨n + 1, _, by go_num, Lib.hid (by omega), HGD, Lib.hid (racks_put HR.out HIM.out HON.out HGD.out), HM6, HBX6, HB6⟩
              case measure => simp only [intOf]; omega
            · cases hrk : (rk == o.f7)
              · have hrk2 : (rk != o.f7) = true := by rw [bne, hrk]; rfl
                have HRK := Lib.hid hrk
                clear hrk
                go_wp2_with fail
                refine wp_region_quiet_below (by kernel_rfl) (by kernel_rfl) ?_
                repeat (go_big_quiet_step ((go_at_call 72; exact Calls.regrown_of (T.out _ _))))
                refine wpQuiet_nil ?_
                intro _ hw'
                obtain ⟨⟨dq, osq⟩, hw''⟩ := hw'
                subst hw''
                have HB5 := Lib.hid (below_then HB4.out HB4.out.size (below_regrown w4 dq osq))
                go_wp2_with fail
                go_ret
                refine ⟨?_, HB5.out⟩
                have hng : chkI l = 1 := chkI_no (not_good h HON.out (.inr (bad_rack HR.out HKN.out.symm HAT.out (beq_eq_false_iff_ne.1 HRK.out))))
                rw [hng]; rfl
              · have hrk2 : (rk != o.f7) = false := by rw [bne, hrk]; rfl
                have HRK := Lib.hid hrk
                clear hrk
                go_wp2_with fail
                refine wp_region_quiet_below (by kernel_rfl) (by kernel_rfl) ?_
                repeat (go_big_quiet_step ((go_at_call 72; exact Calls.regrown_of (T.out _ _))))
                refine wpQuiet_nil ?_
                intro _ hw'
                obtain ⟨⟨dq, osq⟩, hw''⟩ := hw'
                subst hw''
                have HB5 := Lib.hid (below_then HB4.out HB4.out.size (below_regrown w4 dq osq))
                have HM5 := Lib.hid (om_below HM4.out (below_regrown w4 dq osq))
                have HBX5 := Lib.hid (blk_below HBX4.out (below_regrown w4 dq osq))
                have HOB5 := Lib.hid (blk_below HOB4.out (below_regrown w4 dq osq))
                obtain ⟨w5, hw5⟩ : ∃ w5, w5 = Sort.grow (redrawn w4 dq) osq := ⟨_, rfl⟩
                rw [← hw5] at HB5 HM5 HBX5 HOB5 ⊢
                clear hw5 z0 z1 z2 z3 z4 z5 z6 z7 zx T HB4 HM4 HBX4 HOB4
                have HGD : Hid (Good l (n + 1)) := Lib.hid (good_step HG.out HR.out HON.out HOB.out.symm (HL2.out (by simp)) (fun hk => by rw [HAT.out, beq_iff_eq.1 HRK.out]))
                have HIM := Lib.hid HM5.out.isMap
                obtain ⟨y0, y1, y2, y3, y4, y5, y6, y7⟩ := blkO HOB5.out
                go_wp2_with (first | (at_mapUpdate; go_must (refine wpList_mapUpdate_own _ rfl _ _ _ 103 rfl 3 3 keyI Try.underlying103 _ wb n D rfl (by exact HM5.out) ?hn _ _ (.int .i64 o.f6) rfl rfl (keyOf_int_mk Try.underlying3 HW6.out) (.lit (.int .i64 o.f7)) [] (plainElem_int Try.underlying3 (HF7.out o (List.mem_of_getElem? HON.out))) ?_; (case hn => simp only [maxLen]; omega)); intro w2 ho hg; have HM6 := Lib.hid ho; have HB6 := Lib.hid (HB5.out.grown hg HB5.out.size (fun k hk => by injection hk with hk; have := HLE.out; omega)); have HBX6 := Lib.hid (blk_grown HBX5.out hg (by intro e; injection e with e; have := HLT.out; omega)); clear ho hg HM5 HB5 HBX5 HOB5 y0 y1 y2 y3 y4 y5 y6 y7))
                go_roundw
                case rel => exact ⟨n + 1, _, by go_num, Lib.hid (by omega), HGD, Lib.hid (racks_put HR.out HIM.out HON.out HGD.out), HM6, HBX6, HB6⟩
                case measure => simp only [intOf]; omega
          · have hlo2 : decide (o.f0 ≤ q.f0) = true := hlo.symm
            clear hlo
            go_wp2_with fail
            refine wp_region_quiet_below (by kernel_rfl) (by kernel_rfl) ?_
            repeat (go_big_quiet_step ((go_at_call 72; exact Calls.regrown_of (T.out _ _))))
            refine wpQuiet_nil ?_
            intro _ hw'
            obtain ⟨⟨dq, osq⟩, hw''⟩ := hw'
            subst hw''
            have HB5 := Lib.hid (below_then HB4.out HB4.out.size (below_regrown w4 dq osq))
            go_wp2_with fail
            go_ret
            refine ⟨?_, HB5.out⟩
            have hng : chkI l = 1 := chkI_no (not_good h HON.out (.inr (by obtain ⟨j, z, h1, h2, h3⟩ := HL1.out (by simp); exact ⟨j, z, h1, h2, .inl h3⟩)))
            rw [hng]; rfl
    · obtain rfl : n = l.length := by omega
      have hlt : decide (l.length < l.length) = false := decide_eq_false (by omega)
      go_wp2_with fail
      go_ret
      refine ⟨?_, HB.out⟩
      have hg : chkI l = 0 := chkI_yes HG.out
      rw [hg]; rfl
end
end Go.Proofs.Ytnpphmgibgfjoaa.AtA
