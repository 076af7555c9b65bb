import Derived.Test.YtnpphmgibgfjoaaKPg1
import Derived.Laws.EntriesVeiled
import Derived.Test.YtnpphmgibgfjoaaShelf
import Derived.Laws.CopyRow
import Derived.Laws.CopyOwn
import Derived.Laws.OwnMore
import Derived.Deep.RegionWith
import Derived.Maps.Views
import Derived.Shelf.Abstract
import Derived.Lib.BufferWrite
import Derived.Test.YtnpphmgibgfjoaaPAllx2
import Derived.Test.YtnpphmgibgfjoaaPAllx3
import Derived.Test.YtnpphmgibgfjoaaPAllx4
import Derived.Test.YtnpphmgibgfjoaaPAllx10
namespace Go.Proofs.Ytnpphmgibgfjoaa.Dsc
open Go Go.RowKit Go.Proofs.YtnpphmgibgfjoaaW.PrintWords Go.Proofs.YtnpphmgibgfjoaaW.PrintMore Mem PAll KW MixP MixW StrP StrW AtA Srt Grp Sl
open CrP hiding Od
theorem cell_alloc {W : World} {a : Addr} {v : Value} (h : W.cell? a = some v) (o : Obj) : (W.alloc o).cell? a = some v := Lib.cell?_alloc_some o h
set_option maxHeartbeats 1600000 in
theorem tells1 (W : World) (p q r : Nat) (A : Option Addr) (c n : Nat) (g : List Wd) (v : Wd) (o : Od) (hp : W.cell? ⟨p, 0, none⟩ = some (.func (.func 69) #[] #[])) (hq : W.cell? ⟨q, 0, none⟩ = some (.slice A g.length c)) (hr : W.cell? ⟨r, 0, none⟩ = some (.int .i64 n)) (hg : kW.C W A g.length g) (hv : g[n]? = some v) :
    Calls Try.prog 77 #[.agg (aggO o), .pointer (some ⟨p, 0, none⟩), .pointer (some ⟨q, 0, none⟩), .pointer (some ⟨r, 0, none⟩)] W fun e w' => e = .returned (.bool (!decide (keyN 1 o = v.id))) ∧ Below W.heap.size W w' := by
  have hn := (List.getElem?_eq_some_iff.1 hv).1
  have hm : g.length ≤ 9223372036854775807 := hg.2.1
  have HB1 := Lib.hid (below_alloc (Below.refl W.heap.size W) (.cells (aggO o) 40))
  have HO1 : Hid ((W.alloc (.cells (aggO o) 40)).heap[W.heap.size]? = some (.cells (aggO o) 40 (0, 0))) := Lib.hid (blk_new _ _)
  obtain ⟨ad, u, hu, rfl, a0, a1⟩ := at_W (Kd.C_alloc hg (.cells (aggO o) 40)) n hn
  obtain rfl : v = u := Option.some.inj (hv.symm.trans hu)
  have hp1 := cell_alloc hp (.cells (aggO o) 40)
  have hq1 := cell_alloc hq (.cells (aggO o) 40)
  have hr1 := cell_alloc hr (.cells (aggO o) 40)
  have hlt : decide (n < g.length) = true := decide_eq_true hn
  have i0 : (0 : Int) ≤ n := by omega
  have i1 : (n : Int) < g.length := by omega
  clear hu hv hg hp hq hr
  obtain ⟨y0, y1, y2, y3, y4, y5, y6, y7⟩ := blkO HO1.out
  obtain ⟨w1, hw1⟩ : ∃ w1, w1 = W.alloc (.cells (aggO o) 40) := ⟨_, rfl⟩
  go_enter Try.func77, Try.ntmps77
  go_wp2_with fail
  rw [← hw1] at y0 y1 y2 y3 y4 y5 y6 y7 hp1 hq1 hr1 a0 a1 HB1 ⊢
  have z0 := cell_regrown y0
  have z1 := cell_regrown y1
  have z2 := cell_regrown y2
  have z3 := cell_regrown y3
  have z4 := cell_regrown y4
  have z5 := cell_regrown y5
  have z6 := cell_regrown y6
  have z7 := cell_regrown y7
  have zp := cell_regrown hp1
  have zq := cell_regrown hq1
  have zr := cell_regrown hr1
  have za := cell_regrown a0
  have T : Hid (∀ dd os, Calls Try.prog 69 #[.agg (aggO o)] (Sort.grow (redrawn w1 dd) os) fun e w' => e = .returned (.int .i64 (keyN 1 o)) ∧ Below (Sort.grow (redrawn w1 dd) os).heap.size (Sort.grow (redrawn w1 dd) os) w') := Lib.hid (fun dd os => rack_calls o _)
  clear y0 y1 y2 y3 y4 y5 y6 y7 hp1 hq1 hr1 a0 a1 hw1 HO1
  obtain ⟨ko, hko⟩ : ∃ ko, ko = keyN 1 o := ⟨_, rfl⟩
  rw [← hko] at T
  have HK := Lib.hid hko
  clear hko
  refine wp_region_quiet_below (by kernel_rfl) (by kernel_rfl) ?_
  repeat (go_big_quiet_step ((go_at_call 69; exact Calls.regrown_of (T.out _ _))))
  refine wpQuiet_nil ?_
  intro _ hw'
  obtain ⟨⟨dq, osq⟩, hw''⟩ := hw'
  subst hw''
  have HB2 := Lib.hid (below_then HB1.out HB1.out.size (below_regrown w1 dq osq))
  go_wp2_with fail
  go_ret
  refine ⟨?_, HB2.out⟩
  rw [← HK.out]
  exact congrArg (fun b => Ending.returned (.bool b)) (by rw [bne]; cases h : (ko == v.id) <;> simp at h <;> simp [h])
set_option maxHeartbeats 1600000 in
theorem tells2 (W : World) (p q r : Nat) (A : Option Addr) (c n : Nat) (g : List Wd) (v : Wd) (o : Od) (hp : W.cell? ⟨p, 0, none⟩ = some (.func (.func 68) #[] #[])) (hq : W.cell? ⟨q, 0, none⟩ = some (.slice A g.length c)) (hr : W.cell? ⟨r, 0, none⟩ = some (.int .i64 n)) (hg : kW.C W A g.length g) (hv : g[n]? = some v) :
    Calls Try.prog 77 #[.agg (aggO o), .pointer (some ⟨p, 0, none⟩), .pointer (some ⟨q, 0, none⟩), .pointer (some ⟨r, 0, none⟩)] W fun e w' => e = .returned (.bool (!decide (keyN 2 o = v.id))) ∧ Below W.heap.size W w' := by
  have hn := (List.getElem?_eq_some_iff.1 hv).1
  have hm : g.length ≤ 9223372036854775807 := hg.2.1
  have HB1 := Lib.hid (below_alloc (Below.refl W.heap.size W) (.cells (aggO o) 40))
  have HO1 : Hid ((W.alloc (.cells (aggO o) 40)).heap[W.heap.size]? = some (.cells (aggO o) 40 (0, 0))) := Lib.hid (blk_new _ _)
  obtain ⟨ad, u, hu, rfl, a0, a1⟩ := at_W (Kd.C_alloc hg (.cells (aggO o) 40)) n hn
  obtain rfl : v = u := Option.some.inj (hv.symm.trans hu)
  have hp1 := cell_alloc hp (.cells (aggO o) 40)
  have hq1 := cell_alloc hq (.cells (aggO o) 40)
  have hr1 := cell_alloc hr (.cells (aggO o) 40)
  have hlt : decide (n < g.length) = true := decide_eq_true hn
  have i0 : (0 : Int) ≤ n := by omega
  have i1 : (n : Int) < g.length := by omega
  clear hu hv hg hp hq hr
  obtain ⟨y0, y1, y2, y3, y4, y5, y6, y7⟩ := blkO HO1.out
  obtain ⟨w1, hw1⟩ : ∃ w1, w1 = W.alloc (.cells (aggO o) 40) := ⟨_, rfl⟩
  go_enter Try.func77, Try.ntmps77
  go_wp2_with fail
  rw [← hw1] at y0 y1 y2 y3 y4 y5 y6 y7 hp1 hq1 hr1 a0 a1 HB1 ⊢
  have z0 := cell_regrown y0
  have z1 := cell_regrown y1
  have z2 := cell_regrown y2
  have z3 := cell_regrown y3
  have z4 := cell_regrown y4
  have z5 := cell_regrown y5
  have z6 := cell_regrown y6
  have z7 := cell_regrown y7
  have zp := cell_regrown hp1
  have zq := cell_regrown hq1
  have zr := cell_regrown hr1
  have za := cell_regrown a0
  have T : Hid (∀ dd os, Calls Try.prog 68 #[.agg (aggO o)] (Sort.grow (redrawn w1 dd) os) fun e w' => e = .returned (.int .i64 (keyN 2 o)) ∧ Below (Sort.grow (redrawn w1 dd) os).heap.size (Sort.grow (redrawn w1 dd) os) w') := Lib.hid (fun dd os => host_calls o _)
  clear y0 y1 y2 y3 y4 y5 y6 y7 hp1 hq1 hr1 a0 a1 hw1 HO1
  obtain ⟨ko, hko⟩ : ∃ ko, ko = keyN 2 o := ⟨_, rfl⟩
  rw [← hko] at T
  have HK := Lib.hid hko
  clear hko
  refine wp_region_quiet_below (by kernel_rfl) (by kernel_rfl) ?_
  repeat (go_big_quiet_step ((go_at_call 68; exact Calls.regrown_of (T.out _ _))))
  refine wpQuiet_nil ?_
  intro _ hw'
  obtain ⟨⟨dq, osq⟩, hw''⟩ := hw'
  subst hw''
  have HB2 := Lib.hid (below_then HB1.out HB1.out.size (below_regrown w1 dq osq))
  go_wp2_with fail
  go_ret
  refine ⟨?_, HB2.out⟩
  rw [← HK.out]
  exact congrArg (fun b => Ending.returned (.bool b)) (by rw [bne]; cases h : (ko == v.id) <;> simp at h <;> simp [h])
set_option maxHeartbeats 1600000 in
theorem tells3 (W : World) (p q r : Nat) (A : Option Addr) (c n : Nat) (g : List Wd) (v : Wd) (o : Od) (hp : W.cell? ⟨p, 0, none⟩ = some (.func (.func 67) #[] #[])) (hq : W.cell? ⟨q, 0, none⟩ = some (.slice A g.length c)) (hr : W.cell? ⟨r, 0, none⟩ = some (.int .i64 n)) (hg : kW.C W A g.length g) (hv : g[n]? = some v) :
    Calls Try.prog 77 #[.agg (aggO o), .pointer (some ⟨p, 0, none⟩), .pointer (some ⟨q, 0, none⟩), .pointer (some ⟨r, 0, none⟩)] W fun e w' => e = .returned (.bool (!decide (keyN 3 o = v.id))) ∧ Below W.heap.size W w' := by
  have hn := (List.getElem?_eq_some_iff.1 hv).1
  have hm : g.length ≤ 9223372036854775807 := hg.2.1
  have HB1 := Lib.hid (below_alloc (Below.refl W.heap.size W) (.cells (aggO o) 40))
  have HO1 : Hid ((W.alloc (.cells (aggO o) 40)).heap[W.heap.size]? = some (.cells (aggO o) 40 (0, 0))) := Lib.hid (blk_new _ _)
  obtain ⟨ad, u, hu, rfl, a0, a1⟩ := at_W (Kd.C_alloc hg (.cells (aggO o) 40)) n hn
  obtain rfl : v = u := Option.some.inj (hv.symm.trans hu)
  have hp1 := cell_alloc hp (.cells (aggO o) 40)
  have hq1 := cell_alloc hq (.cells (aggO o) 40)
  have hr1 := cell_alloc hr (.cells (aggO o) 40)
  have hlt : decide (n < g.length) = true := decide_eq_true hn
  have i0 : (0 : Int) ≤ n := by omega
  have i1 : (n : Int) < g.length := by omega
  clear hu hv hg hp hq hr
  obtain ⟨y0, y1, y2, y3, y4, y5, y6, y7⟩ := blkO HO1.out
  obtain ⟨w1, hw1⟩ : ∃ w1, w1 = W.alloc (.cells (aggO o) 40) := ⟨_, rfl⟩
  go_enter Try.func77, Try.ntmps77
  go_wp2_with fail
  rw [← hw1] at y0 y1 y2 y3 y4 y5 y6 y7 hp1 hq1 hr1 a0 a1 HB1 ⊢
  have z0 := cell_regrown y0
  have z1 := cell_regrown y1
  have z2 := cell_regrown y2
  have z3 := cell_regrown y3
  have z4 := cell_regrown y4
  have z5 := cell_regrown y5
  have z6 := cell_regrown y6
  have z7 := cell_regrown y7
  have zp := cell_regrown hp1
  have zq := cell_regrown hq1
  have zr := cell_regrown hr1
  have za := cell_regrown a0
  have T : Hid (∀ dd os, Calls Try.prog 67 #[.agg (aggO o)] (Sort.grow (redrawn w1 dd) os) fun e w' => e = .returned (.int .i64 (keyN 3 o)) ∧ Below (Sort.grow (redrawn w1 dd) os).heap.size (Sort.grow (redrawn w1 dd) os) w') := Lib.hid (fun dd os => self_calls o _)
  clear y0 y1 y2 y3 y4 y5 y6 y7 hp1 hq1 hr1 a0 a1 hw1 HO1
  obtain ⟨ko, hko⟩ : ∃ ko, ko = keyN 3 o := ⟨_, rfl⟩
  rw [← hko] at T
  have HK := Lib.hid hko
  clear hko
  refine wp_region_quiet_below (by kernel_rfl) (by kernel_rfl) ?_
  repeat (go_big_quiet_step ((go_at_call 67; exact Calls.regrown_of (T.out _ _))))
  refine wpQuiet_nil ?_
  intro _ hw'
  obtain ⟨⟨dq, osq⟩, hw''⟩ := hw'
  subst hw''
  have HB2 := Lib.hid (below_then HB1.out HB1.out.size (below_regrown w1 dq osq))
  go_wp2_with fail
  go_ret
  refine ⟨?_, HB2.out⟩
  rw [← HK.out]
  exact congrArg (fun b => Ending.returned (.bool b)) (by rw [bne]; cases h : (ko == v.id) <;> simp at h <;> simp [h])
def fnL (lv : Nat) : Nat := if lv = 1 then 69 else if lv = 2 then 68 else 67
abbrev fvL (lv : Nat) : Value := .func (.func (fnL lv)) #[] #[]
theorem group_any (lv : Nat) (h : lv = 1 ∨ lv = 2 ∨ lv = 3) (A : Option Addr) (c : Nat) (l : List Od) (w : World) (hx : kO.C w A l.length l) (hg : GoodL l) :
    Calls Try.prog 48 #[.slice A l.length c, fvL lv] w fun e w' => ∃ v, e = .returned v ∧ kW.R 83 w' w.heap.size (fun _ => True) v (group lv l) ∧ Below w.heap.size w w' := by
  rcases h with rfl | rfl | rfl
  · exact group_calls1 A c l w hx hg
  · exact group_calls2 A c l w hx hg
  · exact group_calls3 A c l w hx hg
theorem tells_any (lv : Nat) (h : lv = 1 ∨ lv = 2 ∨ lv = 3) (W : World) (p q r : Nat) (A : Option Addr) (c n : Nat) (g : List Wd) (v : Wd) (o : Od) (hp : W.cell? ⟨p, 0, none⟩ = some (fvL lv)) (hq : W.cell? ⟨q, 0, none⟩ = some (.slice A g.length c)) (hr : W.cell? ⟨r, 0, none⟩ = some (.int .i64 n)) (hg : kW.C W A g.length g) (hv : g[n]? = some v) :
    Calls Try.prog 77 #[.agg (aggO o), .pointer (some ⟨p, 0, none⟩), .pointer (some ⟨q, 0, none⟩), .pointer (some ⟨r, 0, none⟩)] W fun e w' => e = .returned (.bool (!decide (keyN lv o = v.id))) ∧ Below W.heap.size W w' := by
  rcases h with rfl | rfl | rfl
  · exact tells1 W p q r A c n g v o hp hq hr hg hv
  · exact tells2 W p q r A c n g v o hp hq hr hg hv
  · exact tells3 W p q r A c n g v o hp hq hr hg hv
def lvls (x r : Int) : Nat → List Od → Option (List Od)
  | 0, l => some l
  | n + 1, l => (lvls x r n l).bind (lvl x r ((n + 1 : Nat)))
theorem lvl_ne {x r : Int} {lv : Nat} {l l' : List Od} (h : lvl x r lv l = some l') : l' ≠ [] := by
  obtain ⟨v, hv, _, rfl⟩ := lvl_some h
  obtain ⟨⟨o, ho, e⟩, _⟩ := (group_mem lv l v).1 hv
  exact List.ne_nil_of_mem (List.mem_filter.2 ⟨ho, decide_eq_true e⟩)
theorem lvls_none {x r : Int} {l l' : List Od} {n : Nat} (h : lvls x r n l = some l') (hn : lvl x r (n + 1) l' = none) (h3 : n < 3) : lvls x r 3 l = none := by
  have e : lvls x r (n + 1) l = none := by
    show (lvls x r n l).bind (lvl x r ((n + 1 : Nat))) = none
    rw [h]; exact hn
  have e2 : ∀ k, lvls x r (n + 1 + k) l = none := by
    intro k
    induction k with
    | zero => exact e
    | succ k ih =>
      show (lvls x r (n + 1 + k) l).bind _ = none
      rw [ih]; rfl
  have := e2 (2 - n)
  rwa [show n + 1 + (2 - n) = 3 by omega] at this
def put8 (w : World) (g : Nat) (o : Od) : World := (((((((w.setCell ⟨g, 0, none⟩ (.int .i64 o.f0)).setCell ⟨g, 1, none⟩ (.bool o.f1)).setCell ⟨g, 2, none⟩ (.bool o.f2)).setCell ⟨g, 3, none⟩ (.int .i64 o.f3)).setCell ⟨g, 4, none⟩ (.int .i64 o.f4)).setCell ⟨g, 5, none⟩ (.int .i64 o.f5)).setCell ⟨g, 6, none⟩ (.int .i64 o.f6)).setCell ⟨g, 7, none⟩ (.int .i64 o.f7)
theorem put8_arr (q o : Od) : ((((((((aggO q).setIfInBounds 0 (.int .i64 o.f0)).setIfInBounds 1 (.bool o.f1)).setIfInBounds 2 (.bool o.f2)).setIfInBounds 3 (.int .i64 o.f3)).setIfInBounds 4 (.int .i64 o.f4)).setIfInBounds 5 (.int .i64 o.f5)).setIfInBounds 6 (.int .i64 o.f6)).setIfInBounds 7 (.int .i64 o.f7) = aggO o := by
  simp [aggO]
theorem put8_blk {w : World} {g : Nat} {q : Od} (h : w.heap[g]? = some (.cells (aggO q) 40 (0, 0))) (o : Od) : (put8 w g o).heap[g]? = some (.cells (aggO o) 40 (0, 0)) := by
  rw [← put8_arr q o]
  exact blk_set (blk_set (blk_set (blk_set (blk_set (blk_set (blk_set (blk_set h 0 _) 1 _) 2 _) 3 _) 4 _) 5 _) 6 _) 7 _
theorem put8_below {B g : Nat} {w0 w : World} (h : Below B w0 w) (hg : B ≤ g) (o : Od) : Below B w0 (put8 w g o) :=
  (((((((h.setCell hg _).setCell hg _).setCell hg _).setCell hg _).setCell hg _).setCell hg _).setCell hg _).setCell hg _
theorem desc_lvls (x r : Int) (l : List Od) : desc x r l = (lvls x r 3 l).bind List.head? := rfl
def zeroA : Array Value := #[.int .i64 0, .bool false, .bool false, .int .i64 0, .int .i64 0, .int .i64 0, .int .i64 0, .int .i64 0]
def descV : Option Od → Value
  | some o => .tuple #[.agg (aggO o), .bool true]
  | none => .tuple #[.agg zeroA, .bool false]
set_option maxHeartbeats 4000000 in
set_option maxRecDepth 100000 in
theorem descend_calls (A : Option Addr) (c : Nat) (l : List Od) (x r : Int) (w : World) (hx : kO.C w A l.length l) (hg : GoodL l) :
    Calls Try.prog 42 #[.slice A l.length c, .int .u32 x, .int .u32 r] w fun e w' => e = .returned (descV (desc x r l)) ∧ Below w.heap.size w w' := by
  have HC := Lib.hid hx
  have HG := Lib.hid hg
  have HB0 := Lib.hid (below_alloc (below_alloc (Below.refl w.heap.size w) (.cells zeroA 40)) (.cells #[fvL 1, fvL 2, fvL 3] 72))
  clear hx hg
  go_enter Try.func42, Try.ntmps42
  go_wp2_with fail
  go_loopw [0, 14] (fun l0' i' wr => ∃ (n : Nat) (A' : Option Addr) (c' : Nat) (l' : List Od), l0' = .slice A' l'.length c' ∧ i' = .int .i64 n ∧ Hid (n ≤ 3) ∧ Hid (lvls x r n l = some l') ∧ Hid (GoodL l') ∧ Hid (kO.C wr A' l'.length l') ∧ Hid (wr.heap[w.heap.size]? = some (.cells (aggO ⟨0, false, false, 0, 0, 0, 0, 0⟩) 40 (0, 0))) ∧ Hid (wr.heap[w.heap.size + 1]? = some (.cells #[fvL 1, fvL 2, fvL 3] 72 (0, 0))) ∧ Hid (Below w.heap.size w wr)) (fun _ i' _ => (3 - intOf i').toNat)
  case atStart => exact ⟨0, A, c, l, rfl, rfl, Lib.hid (by omega), Lib.hid rfl, HG, Lib.hid (Kd.C_alloc (Kd.C_alloc HC.out _) _), Lib.hid (blk_below (blk_new _ _) (below_alloc (Below.refl _ _) _)), Lib.hid (by have h := blk_new (w.alloc (.cells zeroA 40)) (.cells #[fvL 1, fvL 2, fvL 3] 72); simp only [World.alloc, Array.size_push] at h ⊢; exact h), HB0⟩
  case round =>
    obtain ⟨n, A', c', l', rfl, rfl, HN, HLV, HG', HC', HRB, HFB, HB⟩ := hrel
    clear HC HG HB0
    have hn := HN.out
    by_cases h : n < 3
    · have hlt : decide ((n : Int) < 3) = true := decide_eq_true (by omega)
      have i0 : (0 : Int) ≤ n := by omega
      have i1 : (n : Int) < 3 := by omega
      have hlv : n + 1 = 1 ∨ n + 1 = 2 ∨ n + 1 = 3 := by omega
      have HLV3 := Lib.hid hlv
      have hn3 : Hid (n < 3) := Lib.hid h
      obtain ⟨kf, hfv⟩ : ∃ kf, kf = fnL (n + 1) := ⟨_, rfl⟩
      have hcf : wr.cell? ⟨w.heap.size + 1, n, none⟩ = some (.func (.func kf) #[] #[]) := by
        rw [blk_cell HFB.out, hfv]
        rcases hlv with h1 | h1 | h1
        · obtain rfl : n = 0 := by omega
          rfl
        · obtain rfl : n = 1 := by omega
          rfl
        · obtain rfl : n = 2 := by omega
          rfl
      have HFV := Lib.hid hfv
      have HBA := Lib.hid (below_alloc (Below.refl wr.heap.size wr) (.cells #[.func (.func kf) #[] #[]] 72))
      have HP1 : Hid ((wr.alloc (.cells #[.func (.func kf) #[] #[]] 72)).heap[wr.heap.size]? = some (.cells #[.func (.func kf) #[] #[]] 72 (0, 0))) := Lib.hid (blk_new _ _)
      have HB1 := Lib.hid (below_then HB.out HB.out.size HBA.out)
      have HC1 := Lib.hid (Kd.C_below HC'.out HBA.out)
      have HRB1 := Lib.hid (blk_below HRB.out HBA.out)
      have HFB1 := Lib.hid (blk_below HFB.out HBA.out)
      obtain ⟨w1, hw1⟩ : ∃ w1, w1 = wr.alloc (.cells #[.func (.func kf) #[] #[]] 72) := ⟨_, rfl⟩
      have T := Lib.hid (group_any (n + 1) hlv A' c' l' w1 (by rw [hw1]; exact HC1.out) HG'.out)
      rw [show fvL (n + 1) = .func (.func kf) #[] #[] by rw [hfv]] at T
      clear hfv hlv h
      go_wp2_with fail
      rw [← hw1] at HP1 HB1 HC1 HRB1 HFB1 ⊢
      obtain ⟨p, hp⟩ : ∃ p, p = wr.heap.size := ⟨_, rfl⟩
      rw [← hp] at HP1 ⊢
      clear hw1 hp hcf HBA HB HC' HRB HFB
      refine T.out.mono ?_
      rintro e w2 ⟨v, rfl, hR, hb⟩
      obtain ⟨GA, gc, rfl⟩ := Kd.R_slice hR
      have HGC := Lib.hid (Kd.R_reads' hR).2.2
      have HP2 := Lib.hid (blk_below HP1.out hb)
      have HB2 := Lib.hid (below_then HB1.out HB1.out.size hb)
      have HC2 := Lib.hid (Kd.C_below HC1.out hb)
      have HRB2 := Lib.hid (blk_below HRB1.out hb)
      have HFB2 := Lib.hid (blk_below HFB1.out hb)
      clear hR hb T HP1 HB1 HC1 HRB1 HFB1
      obtain ⟨G, hG⟩ : ∃ G, G = group (n + 1) l' := ⟨_, rfl⟩
      rw [← hG] at HGC ⊢
      have HGE := Lib.hid hG
      clear hG
      have HBA := Lib.hid (below_alloc (Below.refl w2.heap.size w2) (.cells #[.slice GA G.length gc] 80))
      have HQ3 : Hid ((w2.alloc (.cells #[.slice GA G.length gc] 80)).heap[w2.heap.size]? = some (.cells #[.slice GA G.length gc] 80 (0, 0))) := Lib.hid (blk_new _ _)
      have HP3 := Lib.hid (blk_below HP2.out HBA.out)
      have HB3 := Lib.hid (below_then HB2.out HB2.out.size HBA.out)
      have HC3 := Lib.hid (Kd.C_below HC2.out HBA.out)
      have HGC3 := Lib.hid (Kd.C_below HGC.out HBA.out)
      have HRB3 := Lib.hid (blk_below HRB2.out HBA.out)
      have HFB3 := Lib.hid (blk_below HFB2.out HBA.out)
      obtain ⟨w3, hw3⟩ : ∃ w3, w3 = w2.alloc (.cells #[.slice GA G.length gc] 80) := ⟨_, rfl⟩
      go_upto_region 5 with fail
      rw [← hw3] at HQ3 HP3 HB3 HC3 HGC3 HRB3 HFB3 ⊢
      obtain ⟨q, hq⟩ : ∃ q, q = w2.heap.size := ⟨_, rfl⟩
      rw [← hq] at HQ3 ⊢
      clear hw3 hq HBA HP2 HB2 HC2 HGC HRB2 HFB2
      go_cut [11] from 15 to 37 (fun s11 wx => ∃ R, s11 = .pointer (some ⟨R, 0, none⟩) ∧ wx.heap[R]? = some (.cells #[.int .i64 (pick (h2I x ((n : Int) + 1)) r G)] 3 (0, 0)) ∧ Below w3.heap.size w3 wx)
      case first =>
        have hcq := blk_cell HQ3.out 0
        have hcq2 := cell_alloc hcq (.cells #[.int .i64 0] 3)
        have kw : IntKind.i64.wrap ((n : Int) + 1) = (n : Int) + 1 := IntWalk.i64_in _ (by omega)
        have ku : IntKind.u32.wrap ((n : Int) + 1) = (n : Int) + 1 := by
          have h1 : (n : Int) + 1 = 1 ∨ (n : Int) + 1 = 2 ∨ (n : Int) + 1 = 3 := by omega
          rcases h1 with h | h | h <;> rw [h] <;> rfl
        go_region_with (first | (go_at_call 65; refine (hash2_calls _ _ _).mono ?_; rintro e w5 ⟨rfl, rfl⟩) | (go_at_call 74; refine (choose_calls GA gc G _ _ _ (by first | exact HGC3.out | exact Kd.C_alloc HGC3.out _)).mono ?_; rintro e w5 ⟨rfl, hb⟩; (first | (have HW5 : Hid (Below w3.heap.size w3 w5) := Lib.hid (below_then (below_drew (Below.refl _ _)) (Nat.le_refl _) hb)) | (have hz : w5.heap[w3.heap.size]? = some (.cells #[.int .i64 0] 3 (0, 0)) := blk_below (by exact blk_new w3 (.cells #[.int .i64 0] 3)) hb; have HZ := Lib.hid hz; have hzc := blk_cell hz 0; have hzf := blk_frozen hz 0; have HW5 : Hid (Below w3.heap.size w3 w5) := Lib.hid (below_then (below_drew (below_alloc (Below.refl _ _) _)) (below_drew (below_alloc (Below.refl _ _) _)).size hb); clear hz)); clear hb))
        all_goals (go_wp2_with fail; go_meet; (first | exact ⟨w3.heap.size, rfl, blk_put HZ.out 0 _ rfl, HW5.out.setCell (Nat.le_refl _) _⟩ | exact ⟨w5.heap.size, rfl, blk_new _ _, below_alloc HW5.out _⟩))
      case rest =>
        obtain ⟨R, rfl, hR, hb⟩ := hcut
        have HR4 := Lib.hid hR
        have HQ4 := Lib.hid (blk_below HQ3.out hb)
        have HP4 := Lib.hid (blk_below HP3.out hb)
        have HB4 := Lib.hid (below_then HB3.out HB3.out.size hb)
        have HC4 := Lib.hid (Kd.C_below HC3.out hb)
        have HGC4 := Lib.hid (Kd.C_below HGC3.out hb)
        have HRB4 := Lib.hid (blk_below HRB3.out hb)
        have HFB4 := Lib.hid (blk_below HFB3.out hb)
        clear hR hb HQ3 HP3 HB3 HC3 HGC3 HRB3 HFB3
        have hcr := blk_cell HR4.out 0
        obtain ⟨pv, hpv⟩ : ∃ pv, pv = pick (h2I x ((n : Int) + 1)) r G := ⟨_, rfl⟩
        have HBE := Lib.hid (pick_best (h2I x ((n : Int) + 1)) r G)
        rw [← hpv] at HR4 hcr HBE
        have HPV := Lib.hid hpv
        clear hpv
        by_cases hneg : pv < 0
        · have hd : decide (pv < 0) = true := decide_eq_true hneg
          have HNE := Lib.hid hneg
          obtain ⟨y0, y1, y2, y3, y4, y5, y6, y7⟩ := blkO (o := ⟨0, false, false, 0, 0, 0, 0, 0⟩) HRB4.out
          have f0 := blk_frozen HRB4.out 0
          have f1 := blk_frozen HRB4.out 1
          have f2 := blk_frozen HRB4.out 2
          have f3 := blk_frozen HRB4.out 3
          have f4 := blk_frozen HRB4.out 4
          have f5 := blk_frozen HRB4.out 5
          have f6 := blk_frozen HRB4.out 6
          have f7 := blk_frozen HRB4.out 7
          clear hneg
          have HF := Lib.hid (put8_blk HRB4.out ⟨0, false, false, 0, 0, 0, 0, 0⟩)
          have HBF := Lib.hid (put8_below HB4.out (Nat.le_refl _) ⟨0, false, false, 0, 0, 0, 0, 0⟩)
          obtain ⟨wf, hwf⟩ : ∃ wf, wf = put8 wc w.heap.size ⟨0, false, false, 0, 0, 0, 0, 0⟩ := ⟨_, rfl⟩
          rw [← hwf] at HF HBF
          simp only [put8] at hwf
          go_wp2_with fail
          rw [← hwf]
          clear hwf
          clear y0 y1 y2 y3 y4 y5 y6 y7 f0 f1 f2 f3 f4 f5 f6 f7
          refine bodyPost_ret (results_ct rfl _ _ w.heap.size 40 (aggO ⟨0, false, false, 0, 0, 0, 0, 0⟩) (0, 0) _ rfl HF.out Try.underlying40 rfl (by kernel_rfl)) rfl ?_
          refine ⟨?_, HBF.out⟩
          rw [desc_lvls, lvls_none HLV.out (by unfold lvl; rw [← HGE.out, if_pos]; rw [show (((n + 1 : Nat)) : Int) = (n : Int) + 1 from by omega, ← HPV.out]; exact HNE.out) hn3.out]
          rfl
        · have hd : decide (pv < 0) = false := decide_eq_false hneg
          have HNE := Lib.hid hneg
          clear hneg
          have T := Lib.hid (clone_calls A' c' l' wc HC4.out HG'.out.len)
          go_wp2_with fail
          refine T.out.mono ?_
          rintro e w5 ⟨v5, rfl, hR5, hb5⟩
          have HT : Hid (∃ i : Nat, ∃ vv, pv = i ∧ G[i]? = some vv) := Lib.hid (by
            have := best_range HBE.out
            have := HNE.out
            obtain ⟨i, hi⟩ := Int.eq_ofNat_of_zero_le (show 0 ≤ pv by omega)
            exact ⟨i, G[i]'(by omega), hi, List.getElem?_eq_getElem _⟩)
          obtain ⟨i, vv, hi, hvv⟩ := HT.out
          subst hi
          have HT2 : Hid (Tells wc p q R fun o => !decide (keyN (n + 1) o = vv.id)) := Lib.hid (fun W o hb => tells_any (n + 1) HLV3.out W p q R GA gc i G vv o (by rw [blk_cell (blk_below HP4.out hb) 0, HFV.out]; rfl) (by rw [blk_cell (blk_below HQ4.out hb) 0]; rfl) (by rw [blk_cell (blk_below HR4.out hb) 0]; rfl) (Kd.C_below HGC4.out hb) hvv)
          have T2 := Lib.hid (delete_calls p q R _ v5 l' wc w5 HT2.out hR5 hb5 HG'.out.len)
          clear T HT hR5 hb5
          go_wp2_with fail
          refine T2.out.mono ?_
          rintro e w6 ⟨v6, rfl, hR6, hb6⟩
          simp only [Bool.not_not] at hR6
          obtain ⟨A6, c6, rfl⟩ := Kd.R_slice hR6
          have HC6 := Lib.hid (Kd.R_reads' hR6).2.2
          have HRB6 := Lib.hid (blk_below HRB4.out hb6)
          have HFB6 := Lib.hid (blk_below HFB4.out hb6)
          have HB6 := Lib.hid (below_then HB4.out HB4.out.size hb6)
          have HLN : Hid (lvls x r (n + 1) l = some (l'.filter fun o => decide (keyN (n + 1) o = vv.id))) := Lib.hid (by
            show (lvls x r n l).bind (lvl x r ((n + 1 : Nat))) = _
            rw [HLV.out]
            show lvl x r (n + 1) l' = _
            unfold lvl
            rw [← HGE.out, show (((n + 1 : Nat)) : Int) = (n : Int) + 1 from by omega, ← HPV.out, if_neg (by omega), show ((i : Nat) : Int).toNat = i from rfl, List.getD_eq_getElem?_getD, hvv]
            rfl)
          clear hR6 hb6 T2 HT2 HP4 HQ4 HR4 HB4 HC4 HGC4 HRB4 HFB4 hcr
          go_wp2_with fail
          go_roundw
          case rel =>
            exact ⟨n + 1, A6, c6, l'.filter fun o => decide (keyN (n + 1) o = vv.id), rfl, by go_num, Lib.hid (by omega), HLN, Lib.hid (HG'.out.filter _), HC6, HRB6, HFB6, HB6⟩
          case measure => simp only [intOf]; omega
    · obtain rfl : n = 3 := by omega
      have hne := lvl_ne (lv := 3) (l := ((lvls x r 2 l).getD [])) (x := x) (r := r) (l' := l') (by
        have e := HLV.out
        cases h2 : lvls x r 2 l with
        | none => rw [show lvls x r 3 l = (lvls x r 2 l).bind (lvl x r 3) from rfl, h2] at e; cases e
        | some m => rw [show lvls x r 3 l = (lvls x r 2 l).bind (lvl x r 3) from rfl, h2] at e; exact e)
      have hpos : 0 < l'.length := List.length_pos_iff.2 hne
      have hlt : decide ((3 : Int) < 3) = false := decide_eq_false (by omega)
      have hlt2 : decide (0 < l'.length) = true := decide_eq_true hpos
      obtain ⟨ad, o, ho, rfl, a0, a1, a2, a3, a4, a5, a6, a7⟩ := at_O HC'.out 0 hpos
      have had : ad.add (0 * 8) = ad := by cases ad; rfl
      rw [had] at a0 a1 a2 a3 a4 a5 a6 a7
      have HO := Lib.hid ho
      obtain ⟨y0, y1, y2, y3, y4, y5, y6, y7⟩ := blkO (o := ⟨0, false, false, 0, 0, 0, 0, 0⟩) HRB.out
      have f0 := blk_frozen HRB.out 0
      have f1 := blk_frozen HRB.out 1
      have f2 := blk_frozen HRB.out 2
      have f3 := blk_frozen HRB.out 3
      have f4 := blk_frozen HRB.out 4
      have f5 := blk_frozen HRB.out 5
      have f6 := blk_frozen HRB.out 6
      have f7 := blk_frozen HRB.out 7
      have HF := Lib.hid (put8_blk HRB.out o)
      have HBF := Lib.hid (put8_below HB.out (Nat.le_refl _) o)
      obtain ⟨wf, hwf⟩ : ∃ wf, wf = put8 wr w.heap.size o := ⟨_, rfl⟩
      rw [← hwf] at HF HBF
      simp only [put8] at hwf
      have HNN := Lib.hid hne
      clear hne ho h
      go_wp2_with fail
      rw [← hwf]
      clear hwf
      refine bodyPost_ret (results_ct rfl _ _ w.heap.size 40 (aggO o) (0, 0) _ rfl HF.out Try.underlying40 rfl (by kernel_rfl)) rfl ?_
      refine ⟨?_, HBF.out⟩
      rw [desc_lvls, HLV.out]
      show _ = Ending.returned (descV l'.head?)
      rw [List.head?_eq_getElem?, HO.out]
      rfl
end Go.Proofs.Ytnpphmgibgfjoaa.Dsc
namespace Go.Proofs.Ytnpphmgibgfjoaa.AtB
open Go Go.RowKit Go.Proofs.YtnpphmgibgfjoaaW.PrintWords Go.Proofs.YtnpphmgibgfjoaaW.PrintMore Mem PAll KW MixP MixW StrP StrW AtA Srt Grp Sl Dsc
open CrP hiding Od
def WfL (l : List Od) : Prop := ∀ o ∈ l, (Lit.int .i64 o.f0).wf = true ∧ (Lit.int .i64 o.f6).wf = true ∧ (Lit.int .i64 o.f7).wf = true
theorem check_calls (ep k m p d : Int) (A : Option Addr) (c : Nat) (l : List Od) (w : World) (hx : kO.C w A l.length l) (hwf : WfL l) :
    Calls Try.prog 40 #[.agg (boxM ep k m p d A c l)] w fun e w' => e = .returned (.int .i64 (if mayB ep k m p d l = true then 0 else 1)) ∧ Below w.heap.size w w' := by
  cases h0 : winB ep 1048576 with
  | false =>
    have e : mayB ep k m p d l = false := by unfold mayB; rw [h0]; rfl
    rw [e]; exact check_ep ep k m p d A c l w h0
  | true =>
    cases h1 : poolB k m p d with
    | false =>
      have e : mayB ep k m p d l = false := by unfold mayB; rw [h0, h1]; rfl
      rw [e]; exact check_pool ep k m p d A c l w h0 h1
    | true =>
      by_cases h2 : l.length ≤ 64
      · have e : mayB ep k m p d l = goodB l := by unfold mayB; rw [h0, h1, decide_eq_true h2]; rfl
        rw [e]
        refine (check_loop ep k m p d A c l w h0 h1 h2 hx (fun o ho => (hwf o ho).2.1) (fun o ho => (hwf o ho).2.2)).mono ?_
        rintro e w1 ⟨rfl, hb⟩
        exact ⟨rfl, hb⟩
      · have e : mayB ep k m p d l = false := by unfold mayB; rw [h0, h1, decide_eq_false h2]; rfl
        rw [e]; exact check_many ep k m p d A c l w h0 h1 (by omega) hx.2.1
theorem may_good {ep k m p d : Int} {l : List Od} (h : mayB ep k m p d l = true) : l.length ≤ 64 ∧ goodB l = true := by
  unfold mayB at h
  simp only [Bool.and_eq_true, decide_eq_true_eq] at h
  exact ⟨h.2.2.1, h.2.2.2⟩
theorem osd_ranges {o : Od} (h : osdB o = true) : (0 ≤ o.f0 ∧ o.f0 ≤ 999) ∧ (0 ≤ o.f6 ∧ o.f6 ≤ 999) ∧ (0 ≤ o.f7 ∧ o.f7 ≤ 999) ∧ (0 ≤ o.f3 ∧ o.f3 ≤ 16777216) := by
  unfold osdB winB at h
  simp only [Bool.and_eq_true, decide_eq_true_eq] at h
  omega
theorem may_osd {ep k m p d : Int} {l : List Od} (h : mayB ep k m p d l = true) : ∀ o ∈ l, osdB o = true := by
  intro o ho
  obtain ⟨i, hi, e⟩ := List.mem_iff_getElem.1 ho
  exact ((goodB_iff.1 (may_good h).2) i o hi (by rw [List.getElem?_eq_getElem hi, e])).1
theorem may_goodL {ep k m p d : Int} {l : List Od} (h : mayB ep k m p d l = true) : GoodL l := by
  refine ⟨(may_good h).1, fun o ho => ?_, fun o ho lv => ?_⟩
  · have := osd_ranges (may_osd h o ho)
    unfold wOf
    split <;> omega
  · have := osd_ranges (may_osd h o ho)
    unfold keyN
    split
    · exact wf_range (by omega) (by omega)
    · split <;> exact wf_range (by omega) (by omega)
def descI (ok : Bool) (x r : Int) (l : List Od) : Int := if ok = true then match desc x r l with | some o => o.f0 | none => -1 else -1
theorem Descend_calls (ep k m p d : Int) (A : Option Addr) (c : Nat) (l : List Od) (x r : Int) (w : World) (hx : kO.C w A l.length l) (hwf : WfL l) :
    Calls Try.prog 20 #[.agg (boxM ep k m p d A c l), .int .u32 x, .int .u32 r] w fun e w' => e = .returned (.int .i64 (descI (mayB ep k m p d l) x r l)) ∧ Below w.heap.size w w' := by
  have HC1 := Lib.hid (Kd.C_alloc hx (.cells (boxM ep k m p d A c l) 26))
  have HB1 := Lib.hid (below_alloc (Below.refl w.heap.size w) (.cells (boxM ep k m p d A c l) 26))
  have HM1 : Hid ((w.alloc (.cells (boxM ep k m p d A c l) 26)).heap[w.heap.size]? = some (.cells (boxM ep k m p d A c l) 26 (0, 0))) := Lib.hid (blk_new _ _)
  have T := Lib.hid (check_calls ep k m p d A c l (w.alloc (.cells (boxM ep k m p d A c l) 26)) HC1.out hwf)
  obtain ⟨mb, hmb⟩ : ∃ mb, mb = mayB ep k m p d l := ⟨_, rfl⟩
  rw [← hmb] at T ⊢
  have HGL : Hid (mb = true → GoodL l) := Lib.hid (fun h => may_goodL (hmb.symm.trans h))
  clear hx hwf hmb
  unfold boxM at *
  go_enter Try.func20, Try.ntmps20
  go_wp2_with fail
  refine T.out.mono ?_
  rintro e w1 ⟨rfl, hb⟩
  have HC2 := Lib.hid (Kd.C_below HC1.out hb)
  have HB2 := Lib.hid (below_then HB1.out HB1.out.size hb)
  have HM2 := Lib.hid (blk_below HM1.out hb)
  clear hb T HC1 HB1 HM1
  cases mb with
  | false =>
    go_wp2_with fail
    go_ret
    exact ⟨rfl, HB2.out⟩
  | true =>
    have c5 := blk_cell HM2.out 5
    have T := Lib.hid (descend_calls A c l x r w1 HC2.out (HGL.out rfl))
    have HDD : Hid (descI true x r l = match desc x r l with | some o => o.f0 | none => -1) := Lib.hid rfl
    go_wp2_with fail
    refine T.out.mono ?_
    rintro e w2 ⟨rfl, hb⟩
    have HB3 := Lib.hid (below_then HB2.out HB2.out.size hb)
    clear hb T
    cases hd : desc x r l with
    | none =>
      rw [hd] at HDD
      unfold descV zeroA
      clear hd
      have HB4 := Lib.hid (below_alloc HB3.out (.cells #[.int .i64 0, .bool false, .bool false, .int .i64 0, .int .i64 0, .int .i64 0, .int .i64 0, .int .i64 0] 40))
      go_wp2_with fail
      go_ret
      exact ⟨by rw [HDD.out]; rfl, HB4.out⟩
    | some o =>
      rw [hd] at HDD
      unfold descV
      clear hd
      have HB4 := Lib.hid (below_alloc HB3.out (.cells (aggO o) 40))
      go_wp2_with fail
      go_ret
      exact ⟨by rw [HDD.out]; rfl, HB4.out⟩
end Go.Proofs.Ytnpphmgibgfjoaa.AtB
namespace Go.Proofs.Ytnpphmgibgfjoaa.Roo
open Go Go.RowKit Go.Proofs.YtnpphmgibgfjoaaW.PrintWords Go.Proofs.YtnpphmgibgfjoaaW.PrintMore Mem PAll KW MixP MixW StrP StrW AtA Srt Grp Sl Dsc AtB
open CrP hiding Od
theorem eql_func_nil (w : World) (f : Fn) (a b : Array Value) : (binOp .eql 72 (.func f a b) .nilFunc).run Try.prog w = .ok (.bool false) w := by
  have h : ∀ d : Nat, (Op.equalIn (d + 1) 72 (.func f a b) .nilFunc).run Try.prog w = .ok false w := fun d => by
    simp [Op.equalIn, run_underlying Try.underlying72]
  simp only [binOp]
  simp [Op.equal, Op.maxDepth, h 9999]
theorem eql_nil_nil (w : World) : (binOp .eql 72 .nilFunc .nilFunc).run Try.prog w = .ok (.bool true) w := by
  have h : ∀ d : Nat, (Op.equalIn (d + 1) 72 .nilFunc .nilFunc).run Try.prog w = .ok true w := fun d => by
    simp [Op.equalIn, run_underlying Try.underlying72]
  simp only [binOp]
  simp [Op.equal, Op.maxDepth, h 9999]
def domL (d : Int) : Nat := if d = 0 then 3 else if d = 1 then 2 else 1
def domB (d : Int) : Bool := d == 0 || d == 1 || d == 2
def ofV (d : Int) : Value := if domB d = true then fvL (domL d) else .nilFunc
theorem of_calls (d : Int) (w : World) : Calls Try.prog 39 #[.int .i64 d] w fun e w' => e = .returned (ofV d) ∧ w = w' := by
  unfold ofV domB domL
  by_cases h0 : d = 0
  · subst h0
    go_enter Try.func39, Try.ntmps39
    go_wp2_with fail
    go_ret
    exact ⟨rfl, rfl⟩
  · by_cases h1 : d = 1
    · subst h1
      go_enter Try.func39, Try.ntmps39
      go_wp2_with fail
      go_ret
      exact ⟨rfl, rfl⟩
    · by_cases h2 : d = 2
      · subst h2
        go_enter Try.func39, Try.ntmps39
        go_wp2_with fail
        go_ret
        exact ⟨rfl, rfl⟩
      · have b0 : (d == 0) = false := beq_eq_false_iff_ne.2 h0
        have b1 : (d == 1) = false := beq_eq_false_iff_ne.2 h1
        have b2 : (d == 2) = false := beq_eq_false_iff_ne.2 h2
        have HE : Hid ((if (d == 0 || d == 1 || d == 2) = true then fvL (if d = 0 then 3 else if d = 1 then 2 else 1) else .nilFunc) = Value.nilFunc) := Lib.hid (by rw [b0, b1, b2]; rfl)
        rw [HE.out]
        clear HE h0 h1 h2
        go_enter Try.func39, Try.ntmps39
        go_wp2_with fail
        go_ret
        exact ⟨rfl, rfl⟩
def roomI (ok : Bool) (d : Int) (l : List Od) : Int := if (ok && domB d) = true then (room (domL d) l : Nat) else 0
theorem domL_any (d : Int) : domL d = 1 ∨ domL d = 2 ∨ domL d = 3 := by
  unfold domL
  split
  · exact .inr (.inr rfl)
  · split
    · exact .inr (.inl rfl)
    · exact .inl rfl
theorem cnt_succ {G : List Wd} {n : Nat} {u : Wd} (h : G[n]? = some u) : ((G.take (n + 1)).filter fun u => decide (0 < u.wt)).length = ((G.take n).filter fun u => decide (0 < u.wt)).length + (if 0 < u.wt then 1 else 0) := by
  rw [List.take_succ_eq_append_getElem (List.getElem?_eq_some_iff.1 h).1, (List.getElem?_eq_some_iff.1 h).2, List.filter_append, List.length_append]
  by_cases hw : 0 < u.wt <;> simp [hw]
set_option maxHeartbeats 1600000 in
set_option maxRecDepth 100000 in
theorem Room_calls (ep k m p d : Int) (A : Option Addr) (c : Nat) (l : List Od) (dm : Int) (w : World) (hx : kO.C w A l.length l) (hwf : WfL l) :
    Calls Try.prog 22 #[.agg (boxM ep k m p d A c l), .int .i64 dm] w fun e w' => e = .returned (.int .i64 (roomI (mayB ep k m p d l) dm l)) ∧ Below w.heap.size w w' := by
  have HC1 := Lib.hid (Kd.C_alloc hx (.cells (boxM ep k m p d A c l) 26))
  have HB1 := Lib.hid (below_alloc (Below.refl w.heap.size w) (.cells (boxM ep k m p d A c l) 26))
  have HM1 : Hid ((w.alloc (.cells (boxM ep k m p d A c l) 26)).heap[w.heap.size]? = some (.cells (boxM ep k m p d A c l) 26 (0, 0))) := Lib.hid (blk_new _ _)
  have T := Lib.hid (check_calls ep k m p d A c l (w.alloc (.cells (boxM ep k m p d A c l) 26)) HC1.out hwf)
  obtain ⟨mb, hmb⟩ : ∃ mb, mb = mayB ep k m p d l := ⟨_, rfl⟩
  rw [← hmb] at T ⊢
  have HGL : Hid (mb = true → GoodL l) := Lib.hid (fun h => may_goodL (hmb.symm.trans h))
  have TO := Lib.hid (of_calls dm (w.alloc (.cells (boxM ep k m p d A c l) 26)))
  obtain ⟨db, hdb⟩ : ∃ db, db = domB dm := ⟨_, rfl⟩
  unfold ofV at TO
  unfold roomI
  rw [← hdb] at TO ⊢
  clear hx hwf hmb hdb
  unfold boxM at *
  have hq1 := eql_func_nil
  have hq2 := eql_nil_nil
  go_enter Try.func22, Try.ntmps22
  go_wp2_with fail
  refine TO.out.mono ?_
  rintro e w0 ⟨rfl, rfl⟩
  clear TO
  cases db with
  | false =>
    rw [if_neg Bool.false_ne_true]
    go_wp2_with fail
    refine T.out.mono ?_
    rintro e w1 ⟨rfl, hb⟩
    have HB2 := Lib.hid (below_then HB1.out HB1.out.size hb)
    clear hb T
    cases mb with
    | false =>
      go_wp2_with fail
      go_ret
      exact ⟨rfl, HB2.out⟩
    | true =>
      go_wp2_with fail
      go_ret
      exact ⟨rfl, HB2.out⟩
  | true =>
    rw [if_pos rfl]
    obtain ⟨lv, hlv⟩ : ∃ lv, lv = domL dm := ⟨_, rfl⟩
    have HLV : Hid (lv = 1 ∨ lv = 2 ∨ lv = 3) := Lib.hid (by rw [hlv]; exact domL_any dm)
    have HLD := Lib.hid hlv
    rw [← hlv]
    clear hlv
    obtain ⟨kf, hkf⟩ : ∃ kf, kf = fnL lv := ⟨_, rfl⟩
    have HKF := Lib.hid hkf
    unfold fvL
    rw [← hkf]
    clear hkf
    go_wp2_with fail
    refine T.out.mono ?_
    rintro e w1 ⟨rfl, hb⟩
    have HC2 := Lib.hid (Kd.C_below HC1.out hb)
    have HB2 := Lib.hid (below_then HB1.out HB1.out.size hb)
    have HM2 := Lib.hid (blk_below HM1.out hb)
    clear hb T HC1 HB1 HM1
    cases mb with
    | false =>
      go_wp2_with fail
      go_ret
      exact ⟨rfl, HB2.out⟩
    | true =>
      have c5 := blk_cell HM2.out 5
      have T := Lib.hid (group_any lv HLV.out A c l w1 HC2.out (HGL.out rfl))
      rw [show fvL lv = .func (.func kf) #[] #[] by rw [HKF.out]] at T
      go_wp2_with fail
      refine T.out.mono ?_
      rintro e w2 ⟨v, rfl, hR, hb⟩
      obtain ⟨GA, gc, rfl⟩ := Kd.R_slice hR
      have HGC := Lib.hid (Kd.R_reads' hR).2.2
      have HB3 := Lib.hid (below_then HB2.out HB2.out.size hb)
      obtain ⟨G, hG⟩ : ∃ G, G = group lv l := ⟨_, rfl⟩
      rw [← hG] at HGC ⊢
      have HE : Hid (room lv l = (G.filter fun u => decide (0 < u.wt)).length) := Lib.hid (by rw [hG]; rfl)
      have hm : G.length ≤ 9223372036854775807 := HGC.out.2.1
      clear hG hR hb T c5 HC2 HB2 HM2
      have HGL2 : Hid (G.length ≤ 9223372036854775807) := Lib.hid hm
      have HB4 := Lib.hid (Below.refl w2.heap.size w2)
      go_wp2_with fail
      go_loopw [6, 23] (fun c' i' wr => ∃ (i n : Nat), c' = .int .i64 n ∧ i' = .int .i64 i ∧ Hid (i ≤ G.length) ∧ Hid (n = ((G.take i).filter fun u => decide (0 < u.wt)).length ∧ n ≤ i) ∧ Hid (Below w2.heap.size w2 wr)) (fun _ i' _ => (G.length - intOf i').toNat)
      case atStart => exact ⟨0, 0, rfl, rfl, Lib.hid (Nat.zero_le _), Lib.hid ⟨rfl, Nat.le_refl _⟩, HB4⟩
      case round =>
        obtain ⟨i, n, rfl, rfl, HI, HN, HB⟩ := hrel
        clear HB4
        have hi := HI.out
        have hni := HN.out.2
        by_cases h : i < G.length
        · have hlt : decide (i < G.length) = true := decide_eq_true h
          have i0 : (0 : Int) ≤ i := by omega
          obtain ⟨ad, u, hu, rfl, a0, a1⟩ := at_W (Kd.C_below HGC.out HB.out) i h
          have HCS := Lib.hid (cnt_succ hu)
          have HBA := Lib.hid (below_alloc HB.out (.cells #[.int .i64 u.id, .int .i64 u.wt] 83))
          have kw : IntKind.i64.wrap ((n : Int) + 1) = (n : Int) + 1 := IntWalk.i64_in _ (by omega)
          clear hu
          by_cases hw : 0 < u.wt
          · have HWT := Lib.hid hw
            have hd : decide (0 < u.wt) = true := decide_eq_true hw
            clear hw
            go_wp2_with fail
            go_roundw
            case rel => exact ⟨i + 1, n + 1, by go_num, by go_num, Lib.hid (by omega), Lib.hid ⟨by rw [HCS.out, if_pos HWT.out, HN.out.1], by omega⟩, HBA⟩
            case measure => simp only [intOf]; omega
          · have HWT := Lib.hid hw
            have hd : decide (0 < u.wt) = false := decide_eq_false hw
            clear hw
            go_wp2_with fail
            go_roundw
            case rel => exact ⟨i + 1, n, rfl, by go_num, Lib.hid (by omega), Lib.hid ⟨by rw [HCS.out, if_neg HWT.out, HN.out.1]; rfl, by omega⟩, HBA⟩
            case measure => simp only [intOf]; omega
        · obtain rfl : i = G.length := by omega
          have hlt : decide (G.length < G.length) = false := decide_eq_false (by omega)
          go_wp2_with fail
          go_ret
          have hnn := HN.out.1
          rw [List.take_length] at hnn
          refine ⟨?_, below_then HB3.out HB3.out.size HB.out⟩
          have e : ((room (domL dm) l : Nat) : Int) = (n : Int) := by rw [← HLD.out, HE.out, hnn]
          show _ = Ending.returned (.int .i64 ((room (domL dm) l : Nat) : Int))
          rw [e]
          rfl
end Go.Proofs.Ytnpphmgibgfjoaa.Roo
namespace Go.Proofs.Ytnpphmgibgfjoaa.Rep
open Go Go.RowKit Go.Proofs.YtnpphmgibgfjoaaW.PrintWords Go.Proofs.YtnpphmgibgfjoaaW.PrintMore Mem PAll AtA
abbrev holes (n k : Nat) : Array Value := (List.replicate k (Value.int .i64 (-1)) ++ List.replicate (n - k) (Value.int .i64 0)).toArray
theorem made_holes (n : Nat) : madeCells (Value.int .i64 0).cells n = holes n 0 := by
  have h := toList_madeCells_one (Value.int .i64 0) n
  rw [← Array.toArray_toList (xs := madeCells (Value.int .i64 0).cells n)]
  show ((madeCells #[Value.int .i64 0] n).toList).toArray = _
  rw [h]
  simp [holes]
theorem infoI : (Try.prog.info? 3).map (fun i => (i.zero, i.size, i.bytes)) = some (some (.int .i64 0), 1, 8) := by kernel_rfl
theorem make_run (n : Nat) (hn : n ≤ 32) (w : World) : (Instr.makeSlice 33 (.int .i64 n) (.int .i64 n)).run Try.prog w = .ok (.slice (some ⟨w.heap.size, 0, none⟩) n n) (w.alloc (.cells (holes n 0) 3)) := by
  have hi := infoI
  cases h : Try.prog.info? 3 with
  | none => rw [h] at hi; cases hi
  | some i =>
    rw [h] at hi
    simp only [Option.map_some, Option.some.injEq, Prod.mk.injEq] at hi
    have e := run_makeSlice (P := Try.prog) (w := w) 33 3 i (.int .i64 0) Try.underlying33 h hi.1 .i64 .i64 (n : Int) (n : Int) (by omega) (Int.le_refl _) (by rw [hi.2.1]; simp; omega) (by rw [hi.2.2]; omega) (by omega)
    rw [hi.2.1] at e
    simp only [Int.toNat_natCast, Nat.mul_one] at e
    rw [e, made_holes]
theorem copy_hole {W : World} {g n k m : Nat} (hh : W.heap[g]? = some (.cells (holes n k) 3 (0, 0))) (hkm : k + m ≤ n) (a : Addr) (ha : ∀ j, j < m → W.cell? (a.add j) = some (.int .i64 (-1))) (sl sc dc : Nat) (hm : m = Nat.min sl (n - k)) (ty : TypeId) :
    (Builtin.copy_ #[33, 33] ty #[.slice (some ⟨g, k, none⟩) (n - k) dc, .slice (some a) sl sc]).run Try.prog W = .ok (.int .i64 m) (W.setRow g (holes n (k + m))) := by
  have hsz : (holes n k).size = n := by simp; omega
  have e := run_copy_row (P := Try.prog) W 33 33 ty 3 g k (n - k) dc a sl sc (holes n k) 3 (List.replicate m (.int .i64 (-1))) Try.underlying33 (by have := infoI; cases h : Try.prog.info? 3 with | none => rw [h] at this; cases this | some i => rw [h] at this; simp only [Option.map_some, Option.some.injEq, Prod.mk.injEq] at this; simp [this.2.1]) hh (by simpa using hm)
    (fun j v hj => by
      have hjm : j < m := by have := (List.getElem?_eq_some_iff.1 hj).1; simpa using this
      rw [List.getElem?_replicate, if_pos hjm] at hj
      rw [ha j hjm, hj]) (by rw [hsz, List.length_replicate]; exact hkm) (fun v hv => by rw [List.eq_of_mem_replicate hv]; rfl)
  rw [e]
  have e2 : ((holes n k).toList.take k ++ List.replicate m (Value.int .i64 (-1)) ++ (holes n k).toList.drop (k + (List.replicate m (Value.int .i64 (-1))).length)).toArray = holes n (k + m) := by
    refine congrArg List.toArray ?_
    simp only [List.length_replicate]
    rw [List.take_left' (by simp), List.drop_append, List.drop_replicate, List.drop_replicate]
    simp only [List.length_replicate]
    rw [show k - (k + m) = 0 by omega, List.replicate_zero, List.nil_append, show n - k - (k + m - k) = n - (k + m) by omega, ← List.replicate_append_replicate]
  rw [e2]
  simp [goInt]
set_option maxHeartbeats 1600000 in
set_option maxRecDepth 100000 in
theorem repeat_calls (g0 n : Nat) (w : World) (hg : w.heap[g0]? = some (.cells #[.int .i64 (-1)] 3 (0, 0))) (hn : 1 ≤ n) (hn2 : n ≤ 32) :
    Calls Try.prog 41 #[.slice (some ⟨g0, 0, none⟩) 1 1, .int .i64 n] w fun e w' => ∃ g, e = .returned (.slice (some ⟨g, 0, none⟩) n n) ∧ w.heap.size ≤ g ∧ w'.heap[g]? = some (.cells (Array.replicate n (.int .i64 (-1))) 3 (0, 0)) ∧ Below w.heap.size w w' := by
  have HG := Lib.hid hg
  have HN := Lib.hid hn
  have HN2 := Lib.hid hn2
  have T := Lib.hid (Try.bits_Mul 1 n (by decide) (by omega) w)
  rw [show 1 * n / 18446744073709551616 = 0 by omega, show 1 * n % 18446744073709551616 = n by omega] at T
  have k1 : IntKind.u64.wrap 1 = 1 := rfl
  have k2 : IntKind.u64.wrap (n : Int) = n := by rw [IntKind.wrap_u64]; omega
  have k3 : IntKind.i64.wrap (n : Int) = n := IntWalk.i64_in _ (by omega)
  have d1 : decide ((n : Int) < 0) = false := decide_eq_false (by omega)
  have d2 : decide (9223372036854775807 < (n : Int)) = false := decide_eq_false (by omega)
  clear hg hn hn2
  go_enter Try.func41, Try.ntmps41
  go_wp2_with fail
  refine T.out.mono ?_
  rintro e w1 ⟨rfl, rfl⟩
  clear T
  have hmk := make_run n HN2.out w1
  have HH1 : Hid ((w1.alloc (.cells (holes n 0) 3)).heap[w1.heap.size]? = some (.cells (holes n 0) 3 (0, 0))) := Lib.hid (blk_new _ _)
  have HB1 := Lib.hid (below_alloc (Below.refl w1.heap.size w1) (.cells (holes n 0) 3))
  have hcp := fun ty => copy_hole HH1.out (k := 0) (m := 1) (by have := HN.out; omega) ⟨g0, 0, none⟩ (fun j hj => by
    obtain rfl : j = 0 := by omega
    exact blk_cell (blk_below HG.out HB1.out) 0) 1 1 n (by rw [Nat.sub_zero]; exact (Nat.min_eq_left HN.out).symm) ty
  rw [Nat.sub_zero, Nat.zero_add] at hcp
  have HH2 := Lib.hid (setRow_heap _ w1.heap.size (holes n 0) (holes n 1) 3 (0, 0) HH1.out)
  have HB2 := Lib.hid (below_setRow HB1.out (Nat.le_refl _) (holes n 1))
  go_wp2_with fail
  obtain ⟨g, hg⟩ : ∃ g, g = w1.heap.size := ⟨_, rfl⟩
  obtain ⟨w2, hw2⟩ : ∃ w2, w2 = (w1.alloc (.cells (holes n 0) 3)).setRow w1.heap.size (holes n 1) := ⟨_, rfl⟩
  rw [← hw2] at HH2 HB2 ⊢
  rw [← hg] at HH2 ⊢
  have HGE := Lib.hid hg
  clear hw2 hg hcp hmk HH1 HB1
  go_loopw [8] (fun v8 wr => ∃ k : Nat, v8 = .int .i64 k ∧ Hid (1 ≤ k ∧ k ≤ n) ∧ Hid (wr.heap[g]? = some (.cells (holes n k) 3 (0, 0))) ∧ Hid (Below w1.heap.size w1 wr)) (fun v8 _ => (n - intOf v8).toNat)
  case atStart => exact ⟨1, rfl, Lib.hid ⟨Nat.le_refl _, HN.out⟩, HH2, HB2⟩
  case round =>
    obtain ⟨k, rfl, HK, HH, HB⟩ := hrel
    clear HH2 HB2
    have hk := HK.out
    by_cases h : k < n
    · have hlt : decide ((k : Int) < (n : Int)) = true := decide_eq_true (by omega)
      have hlt2 : decide (k < n) = true := decide_eq_true h
      have k0 : (0 : Int) ≤ k := by omega
      have kn : (k : Int) ≤ n := by omega
      obtain ⟨m, hm⟩ : ∃ m, m = Nat.min k (n - k) := ⟨_, rfl⟩
      have hm1 : 1 ≤ m ∧ m ≤ k ∧ k + m ≤ n := by
        have := Nat.min_le_left k (n - k)
        have := Nat.min_le_right k (n - k)
        have e : Nat.min k (n - k) = min k (n - k) := rfl
        omega
      have hcp := fun ty => copy_hole (W := wr.drew) (g := g) (n := n) (k := k) (m := m) HH.out hm1.2.2 ⟨g, 0, none⟩ (fun j hj => by
        have e : wr.drew.cell? ⟨g, j, none⟩ = (holes n k)[j]? := blk_cell (w := wr.drew) HH.out j
        rw [add_plain, e]
        simp only [holes, List.getElem?_toArray]
        rw [List.getElem?_append_left (by simp; omega), List.getElem?_replicate, if_pos (by omega)]) k n (n - k) hm ty
      have kw : IntKind.i64.wrap ((k : Int) + m) = (k : Int) + m := IntWalk.i64_in _ (by have := HN2.out; omega)
      have HM := Lib.hid hm1
      have hnk : ¬ n = k := by omega
      clear hm hm1 h
      go_wp2_with fail
      go_region_with fail
      all_goals (go_wp2_with fail; go_roundw)
      case rel =>
        have hm1 := HM.out
        have hge : w1.heap.size ≤ g := by rw [HGE.out]; exact Nat.le_refl _
        (repeat apply Exists.intro)
        exact ⟨⟨k + m, by go_num, Lib.hid (by omega), Lib.hid (setRow_heap _ g (holes n k) (holes n (k + m)) 3 (0, 0) HH.out), Lib.hid (below_setRow (below_drew HB.out) hge _)⟩, rfl⟩
      case measure =>
        have hm1 := HM.out
        have e1 : ((n : Int) - (k + m)).toNat < ((n : Int) - k).toNat := by omega
        first
          | exact e1
          | (have e2 : ((n : Int) - IntKind.i64.wrap ((k : Int) + m)).toNat < ((n : Int) - k).toNat := by rw [kw]; exact e1
             exact e2)
    · obtain rfl : k = n := by omega
      have hlt : decide ((k : Int) < (k : Int)) = false := decide_eq_false (by omega)
      have hlt2 : decide (k < k) = false := decide_eq_false (by omega)
      go_wp2_with fail
      go_ret
      refine ⟨g, rfl, by rw [HGE.out]; exact Nat.le_refl _, ?_, HB.out⟩
      have e := HH.out
      rw [show holes k k = Array.replicate k (.int .i64 (-1)) by simp [holes]] at e
      exact e
end Go.Proofs.Ytnpphmgibgfjoaa.Rep
namespace Go.Proofs.Ytnpphmgibgfjoaa.Cho
open Go Go.RowKit Go.Proofs.YtnpphmgibgfjoaaW.PrintWords Go.Proofs.YtnpphmgibgfjoaaW.PrintMore Mem PAll KW MixP MixW StrP StrW AtA Srt Grp Sl Dsc AtB Roo Rep
open CrP hiding Od
open Go.Maps (Keyed int_keyed keyOf_int_mk)
theorem zeroBo (w : World) : (zeroValue 4).run Try.prog w = .ok (.bool false) w := by kernel_rfl
theorem plainElem_bool_inv {H : Type} {P : Program} {e : TypeId} (he : P.underlying e = some .bool) {v : Value} {z : DataW H × List MemPlace} (h : plainElem P e v = some z) : ∃ b, v = .bool b ∧ z = (.lit (.bool b), []) := by
  unfold plainElem at h
  rw [he] at h
  cases v <;> simp at h
  exact ⟨_, rfl, h.symm⟩
abbrev OB (w : World) (b n : Nat) (D : DW) : Prop := w.ownsMap Try.prog 3 (plainElem Try.prog 4) b n D
theorem look_met {w : World} {b n : Nat} {D : DW} (h : OB w b n D) (v : Int) (hv : (Lit.int .i64 v).wf = true) : ∃ c, (Instr.lookup 75 (.map (some b)) (.int .i64 v) false).run Try.prog w = .ok (.bool c) w ∧ D.atKey (.int .i64 v) (.lit (.bool false)) = .lit (.bool c) := by
  obtain ⟨y, ps, hrun, hy⟩ := h.lookup keyI Try.underlying75 (zeroBo w) (plainElem_bool Try.underlying4 false) (keyOf_int_mk Try.underlying3 hv)
  obtain ⟨c, rfl, hc⟩ := plainElem_bool_inv Try.underlying4 hy
  exact ⟨c, hrun, congrArg Prod.fst hc⟩
def Taken (met : List Int) (D : DW) : Prop := ∀ v : Int, D.atKey (.int .i64 v) (.lit (.bool false)) = .lit (.bool (decide (v ∈ met)))
theorem taken_put {met : List Int} {D : DW} {u : Int} (h : Taken met D) (hm : Go.Maps.IsMap D) : Taken (u :: met) (D.put (.int .i64 u) (.lit (.bool true))) := by
  intro v
  by_cases e : v = u
  · subst e
    rw [Go.Maps.atKey_put_same hm (by trivial)]
    simp
  · rw [Go.Maps.atKey_put_other (by intro hh; injection hh with _ hh; exact e hh), h v]
    simp [e]
theorem taken_nil : Taken [] (.map []) := fun _ => rfl
theorem look_taken {w : World} {b n : Nat} {D : DW} {met : List Int} (h : OB w b n D) (ht : Taken met D) (v : Int) (hv : (Lit.int .i64 v).wf = true) : (Instr.lookup 75 (.map (some b)) (.int .i64 v) false).run Try.prog w = .ok (.bool (decide (v ∈ met))) w := by
  obtain ⟨c, hrun, hc⟩ := look_met h v hv
  rw [ht v] at hc
  have : c = decide (v ∈ met) := by simpa using hc.symm
  rw [← this]; exact hrun
theorem ob_below {w w1 : World} {b n : Nat} {D : DW} (h : OB w b n D) (hb : Below w.heap.size w w1) : OB w1 b n D := h.kept (grown_of_below hb none) (by simp)
theorem key_any (lv : Nat) (h : lv = 1 ∨ lv = 2 ∨ lv = 3) (o : Od) (w : World) : Calls Try.prog (fnL lv) #[.agg (aggO o)] w fun e w' => e = .returned (.int .i64 (keyN lv o)) ∧ Below w.heap.size w w' := by
  rcases h with rfl | rfl | rfl
  · exact rack_calls o w
  · exact host_calls o w
  · exact self_calls o w
theorem enters_any (lv : Nat) (h : lv = 1 ∨ lv = 2 ∨ lv = 3) : ∀ args w, (callFunc (fnL lv) args).run Try.prog w = .ok (.enter (fnL lv) args) w := by
  rcases h with rfl | rfl | rfl
  · exact enters_of Try.func69 (by kernel_rfl) rfl
  · exact enters_of Try.func68 (by kernel_rfl) rfl
  · exact enters_of Try.func67 (by kernel_rfl) rfl
theorem lvl_sub {x r : Int} {lv : Nat} {l l' : List Od} (h : lvl x r lv l = some l') : ∀ o ∈ l', o ∈ l := by
  obtain ⟨v, _, _, rfl⟩ := lvl_some h
  exact fun o ho => (List.mem_filter.1 ho).1
theorem desc_mem {x r : Int} {l : List Od} {o : Od} (h : desc x r l = some o) : o ∈ l := by
  unfold desc at h
  cases h1 : lvl x r 1 l with
  | none => rw [h1] at h; cases h
  | some l1 =>
    rw [h1] at h
    change ((lvl x r 2 l1).bind (lvl x r 3)).bind List.head? = some o at h
    cases h2 : lvl x r 2 l1 with
    | none => rw [h2] at h; cases h
    | some l2 =>
      rw [h2] at h
      change (lvl x r 3 l2).bind List.head? = some o at h
      cases h3 : lvl x r 3 l2 with
      | none => rw [h3] at h; cases h
      | some l3 =>
        rw [h3] at h
        change l3.head? = some o at h
        exact lvl_sub h1 o (lvl_sub h2 o (lvl_sub h3 o (List.mem_of_head? h)))
structure Cho (l : List Od) (x want : Int) (lv n p : Nat) (outs taken : List Int) : Prop where
  hp : p ≤ n
  len : outs.length = p
  all : outs ++ places l x want lv (n - p) p taken = places l x want lv n 0 []
theorem Cho.start (l : List Od) (x want : Int) (lv n : Nat) : Cho l x want lv n 0 [] [] := ⟨Nat.zero_le _, rfl, rfl⟩
theorem Cho.some {l : List Od} {x want : Int} {lv n p : Nat} {outs taken : List Int} {o : Od} (h : Cho l x want lv n p outs taken) (hp : p < n) (ht : tries l x want p lv taken 50 0 = some o) : Cho l x want lv n (p + 1) (outs ++ [o.f0]) (keyN lv o :: taken) := by
  refine ⟨hp, by rw [List.length_append, h.len]; rfl, ?_⟩
  rw [← h.all, show n - p = (n - (p + 1)) + 1 by omega]
  simp only [places, ht, List.append_assoc, List.singleton_append]
theorem Cho.none {l : List Od} {x want : Int} {lv n p : Nat} {outs taken : List Int} (h : Cho l x want lv n p outs taken) (hp : p < n) (ht : tries l x want p lv taken 50 0 = none) : Cho l x want lv n (p + 1) (outs ++ [-1]) taken := by
  refine ⟨hp, by rw [List.length_append, h.len]; rfl, ?_⟩
  rw [← h.all, show n - p = (n - (p + 1)) + 1 by omega]
  simp only [places, ht, List.append_assoc, List.singleton_append]
abbrev outA (n : Nat) (outs : List Int) : Array Value := (outs.map (Value.int .i64) ++ List.replicate (n - outs.length) (Value.int .i64 (-1))).toArray
theorem outA_none {n : Nat} {outs : List Int} (h : outs.length < n) : outA n (outs ++ [-1]) = outA n outs := by
  refine congrArg List.toArray ?_
  rw [List.map_append, List.append_assoc, List.length_append, show n - outs.length = (n - (outs.length + [(-1 : Int)].length)) + 1 by simp only [List.length_singleton]; omega, List.replicate_succ]
  rfl
theorem outA_set {n : Nat} {outs : List Int} (h : outs.length < n) (v : Int) : (outA n outs).setIfInBounds outs.length (.int .i64 v) = outA n (outs ++ [v]) := by
  rw [List.setIfInBounds_toArray]
  refine congrArg List.toArray ?_
  rw [List.set_append_right _ _ (by simp), List.length_map, Nat.sub_self, show n - outs.length = (n - (outs.length + 1)) + 1 by omega, List.replicate_succ, List.set_cons_zero, List.map_append, List.append_assoc, List.length_append]
  rfl
theorem outA_get {n : Nat} {outs : List Int} (h : outs.length < n) : (outA n outs)[outs.length]? = some (.int .i64 (-1)) := by
  rw [List.getElem?_toArray, List.getElem?_append_right (by simp), List.length_map, Nat.sub_self, List.getElem?_replicate, if_pos (by omega)]
set_option maxHeartbeats 8000000 in
set_option maxRecDepth 100000 in
theorem Choose_ok (ep k m p d : Int) (A : Option Addr) (c : Nat) (l : List Od) (dm x : Int) (n : Nat) (w : World) (hx : kO.C w A l.length l) (hwf : WfL l) (hm : mayB ep k m p d l = true) (hd : domB dm = true) (h1 : 1 ≤ n) (h2 : n ≤ 32) :
    Calls Try.prog 15 #[.agg (boxM ep k m p d A c l), .agg #[.int .i64 dm, .int .i64 n], .int .u32 x] w fun e w' => ∃ g, e = .returned (.tuple #[.slice (some ⟨g, 0, none⟩) n n, .int .i64 0]) ∧ w.heap.size ≤ g ∧ w'.heap[g]? = some (.cells (outA n (places l x n (domL dm) n 0 [])) 3 (0, 0)) ∧ Below w.heap.size w w' := by
  have HX := Lib.hid hx
  have HN1 := Lib.hid h1
  have HN2 := Lib.hid h2
  have HGL := Lib.hid (may_goodL hm)
  have HBA := Lib.hid (below_alloc (below_alloc (Below.refl w.heap.size w) (.cells (boxM ep k m p d A c l) 26)) (.cells #[.int .i64 dm, .int .i64 n] 28))
  have HC1 := Lib.hid (Kd.C_alloc (Kd.C_alloc hx (.cells (boxM ep k m p d A c l) 26)) (.cells #[.int .i64 dm, .int .i64 n] 28))
  have HM1 : Hid (((w.alloc (.cells (boxM ep k m p d A c l) 26)).alloc (.cells #[.int .i64 dm, .int .i64 n] 28)).heap[w.heap.size]? = some (.cells (boxM ep k m p d A c l) 26 (0, 0))) := Lib.hid (blk_below (blk_new _ _) (below_alloc (Below.refl _ _) _))
  have HU1 : Hid (((w.alloc (.cells (boxM ep k m p d A c l) 26)).alloc (.cells #[.int .i64 dm, .int .i64 n] 28)).heap[w.heap.size + 1]? = some (.cells #[.int .i64 dm, .int .i64 n] 28 (0, 0))) := Lib.hid (by have h := blk_new (w.alloc (.cells (boxM ep k m p d A c l) 26)) (.cells #[.int .i64 dm, .int .i64 n] 28); simp only [World.alloc, Array.size_push] at h ⊢; exact h)
  have T := Lib.hid (fun c0 w0 h0 => check_calls ep k m p d A c0 l w0 h0 hwf)
  have TO := Lib.hid (of_calls dm)
  obtain ⟨lv, hlv⟩ : ∃ lv, lv = domL dm := ⟨_, rfl⟩
  have HLV : Hid (lv = 1 ∨ lv = 2 ∨ lv = 3) := Lib.hid (by rw [hlv]; exact domL_any dm)
  obtain ⟨kf, hkf⟩ : ∃ kf, kf = fnL lv := ⟨_, rfl⟩
  have HOF : Hid (ofV dm = .func (.func kf) #[] #[]) := Lib.hid (by unfold ofV; rw [hd, if_pos rfl, ← hlv, hkf])
  have HMB := Lib.hid hm
  rw [← hlv]
  have HKF := Lib.hid hkf
  have hef : ∀ args w, (callFunc kf args).run Try.prog w = .ok (.enter kf args) w := by rw [hkf]; exact enters_any lv HLV.out
  have hq1 := eql_func_nil
  have b1 : decide ((n : Int) < 1) = false := decide_eq_false (by omega)
  have b2 : decide ((32 : Int) < (n : Int)) = false := decide_eq_false (by omega)
  have hmm := @run_makeMap Try.prog
  clear hx hwf hm hd h1 h2 hlv hkf
  unfold boxM at *
  go_enter Try.func15, Try.ntmps15
  go_wp2_with fail
  refine (TO.out _).mono ?_
  rintro e w0 ⟨rfl, rfl⟩
  rw [HOF.out]
  go_wp2_with fail
  refine (T.out c _ HC1.out).mono ?_
  rintro e w1 ⟨rfl, hb⟩
  rw [HMB.out]
  have HB2 := Lib.hid (below_then HBA.out HBA.out.size hb)
  have HC2 := Lib.hid (Kd.C_below HC1.out hb)
  have HM2 := Lib.hid (blk_below HM1.out hb)
  have HU2 := Lib.hid (blk_below HU1.out hb)
  have HW2 : Hid (w.heap.size + 2 ≤ w1.heap.size) := Lib.hid (by have := hb.size; simp only [World.alloc, Array.size_push] at this; omega)
  clear hb T TO HOF HBA HC1 HM1 HU1
  have u1 := blk_cell HU2.out 1
  have HBB := Lib.hid (below_alloc (below_alloc (Below.refl w1.heap.size w1) (.map #[] 0)) (.cells #[.int .i64 (-1)] 3))
  have u2 := (blk_cell (blk_below HU2.out HBB.out) 1)
  have HO1 : Hid (OB ((w1.alloc (.map #[] 0)).alloc (.cells #[.int .i64 (-1)] 3)) w1.heap.size 0 (.map [])) := Lib.hid (ob_below (World.ownsMap_made w1 Try.prog _ _) (below_alloc (Below.refl _ _) _))
  have HG1 : Hid (((w1.alloc (.map #[] 0)).alloc (.cells #[.int .i64 (-1)] 3)).heap[w1.heap.size + 1]? = some (.cells #[.int .i64 (-1)] 3 (0, 0))) := Lib.hid (by have h := blk_new (w1.alloc (.map #[] 0)) (.cells #[.int .i64 (-1)] 3); simp only [World.alloc, Array.size_push] at h ⊢; exact h)
  have HB3 := Lib.hid (below_then HB2.out HB2.out.size HBB.out)
  have HC3 := Lib.hid (Kd.C_below HC2.out HBB.out)
  have HM3 := Lib.hid (blk_below HM2.out HBB.out)
  have HU3 := Lib.hid (blk_below HU2.out HBB.out)
  have HLT : Hid (w1.heap.size < ((w1.alloc (.map #[] 0)).alloc (.cells #[.int .i64 (-1)] 3)).heap.size) := Lib.hid (by simp only [World.alloc, Array.size_push]; omega)
  have T := Lib.hid (repeat_calls (w1.heap.size + 1) n ((w1.alloc (.map #[] 0)).alloc (.cells #[.int .i64 (-1)] 3)) HG1.out HN1.out HN2.out)
  have HMG : Hid (w.heap.size + 2 ≤ w1.heap.size) := HW2
  go_wp2_with fail
  obtain ⟨w2, hw2⟩ : ∃ w2, w2 = (w1.alloc (.map #[] 0)).alloc (.cells #[.int .i64 (-1)] 3) := ⟨_, rfl⟩
  rw [← hw2] at HO1 HB3 HC3 HM3 HU3 T HLT ⊢
  obtain ⟨b, hb⟩ : ∃ b, b = w1.heap.size := ⟨_, rfl⟩
  rw [← hb] at HO1 HLT HMG T ⊢
  clear hw2 hb HW2 HBB HG1 HB2 HC2 HM2 HU2 u1 u2 hmm hq1 b1 b2
  refine T.out.mono ?_
  rintro e w3 ⟨g, rfl, hg, hgh, hb⟩
  have HO4 := Lib.hid (ob_below HO1.out hb)
  have HB4 := Lib.hid (below_then HB3.out HB3.out.size hb)
  have HC4 := Lib.hid (Kd.C_below HC3.out hb)
  have HM4 := Lib.hid (blk_below HM3.out hb)
  have HU4 := Lib.hid (blk_below HU3.out hb)
  have HG4 : Hid (w3.heap[g]? = some (.cells (outA n []) 3 (0, 0))) := Lib.hid (by rw [hgh, show Array.replicate n (Value.int .i64 (-1)) = outA n [] by simp [outA]])
  have HGB : Hid (b < g ∧ w.heap.size ≤ g) := Lib.hid (by have := HLT.out; have := HMG.out; omega)
  clear hgh hb hg T HO1 HB3 HC3 HM3 HU3 HLT HC4
  go_wp2_with fail
  go_loopw [42] (fun i' wr => ∃ (pl cnt : Nat) (outs taken : List Int) (D : DW), i' = .int .i64 pl ∧ Hid (Cho l x n lv n pl outs taken) ∧ Hid (cnt ≤ pl) ∧ Hid (OB wr b cnt D) ∧ Hid (Taken taken D) ∧ Hid (wr.heap[g]? = some (.cells (outA n outs) 3 (0, 0))) ∧ Hid (wr.heap[w.heap.size]? = some (.cells #[.int .i64 ep, .int .i64 k, .int .i64 m, .int .i64 p, .int .i64 d, .slice A l.length c] 26 (0, 0))) ∧ Hid (wr.heap[w.heap.size + 1]? = some (.cells #[.int .i64 dm, .int .i64 n] 28 (0, 0))) ∧ Hid (Below w.heap.size w wr)) (fun i' _ => (n - intOf i').toNat)
  case atStart => exact ⟨0, 0, [], [], .map [], rfl, Lib.hid (Cho.start _ _ _ _ _), Lib.hid (Nat.le_refl _), HO4, Lib.hid taken_nil, HG4, HM4, HU4, HB4⟩
  case round =>
    obtain ⟨pl, cnt, outs, taken, D, rfl, HCH, HCN, HO, HTK, HG, HM, HU, HB⟩ := hrel
    clear HO4 HG4 HM4 HU4 HB4
    have hpn := HCH.out.hp
    have HLE := Lib.hid HCH.out.len
    by_cases h : pl < n
    · have hlt : decide ((pl : Int) < (n : Int)) = true := decide_eq_true (by omega)
      have hlt2 : decide (pl < n) = true := decide_eq_true h
      have HPN := Lib.hid h
      have hpl32 : pl ≤ 31 := by have := HN2.out; omega
      obtain ⟨wo, hwo⟩ : ∃ wo, wo = wr := ⟨_, rfl⟩
      rw [← hwo] at HO HG HM HU HB ⊢
      have HB0 := Lib.hid (Below.refl wo.heap.size wo)
      clear h hwo
      go_wp2_with fail
      go_loopw [45] (fun t' wq => ∃ t : Nat, t' = .int .i64 t ∧ Hid (t ≤ 50 ∧ tries l x n pl lv taken (50 - t) t = tries l x n pl lv taken 50 0) ∧ Hid (Below wo.heap.size wo wq)) (fun t' _ => (50 - intOf t').toNat)
      case atStart => exact ⟨0, rfl, Lib.hid ⟨by omega, rfl⟩, HB0⟩
      case round =>
        obtain ⟨t, rfl, HT, HBQ⟩ := hrel
        clear HB0
        have ht50 := HT.out.1
        have HBW := Lib.hid (below_then HB.out HB.out.size HBQ.out)
        by_cases h : t < 50
        · have hl3 : decide ((t : Int) < 50) = true := decide_eq_true (by omega)
          have m5 := blk_cell (blk_below HM.out HBQ.out) 5
          have u1 := blk_cell (blk_below HU.out HBQ.out) 1
          obtain ⟨tn, htn⟩ : ∃ tn : Nat, tn = t * n := ⟨_, rfl⟩
          have htn2 : tn ≤ 1600 := by rw [htn]; exact Nat.le_trans (Nat.mul_le_mul (show t ≤ 50 by omega) HN2.out) (by decide)
          have k1 : IntKind.i64.wrap ((t : Int) * (n : Int)) = (tn : Int) := by
            rw [show ((t : Int) * (n : Int)) = (tn : Int) by rw [htn]; exact (Int.natCast_mul t n).symm]
            exact IntWalk.i64_in _ (by omega)
          have k2 : IntKind.i64.wrap ((pl : Int) + (tn : Int)) = (pl : Int) + tn := IntWalk.i64_in _ (by omega)
          have k3 : IntKind.u32.wrap ((pl : Int) + (tn : Int)) = (pl : Int) + tn := by rw [IntKind.wrap_u32]; omega
          have T := Lib.hid (descend_calls A c l x ((pl : Int) + tn) wr (Kd.C_below HX.out HBW.out) HGL.out)
          have HTR : Hid (tries l x n pl lv taken (50 - t) t = match desc x ((pl : Int) + tn) l with | some o => (if keyN lv o ∈ taken then tries l x n pl lv taken (50 - (t + 1)) (t + 1) else some o) | none => tries l x n pl lv taken (50 - (t + 1)) (t + 1)) := Lib.hid (by
            rw [show 50 - t = (50 - (t + 1)) + 1 by omega]
            rw [show ((pl : Int) + tn) = (pl : Int) + (t : Nat) * (n : Int) by rw [htn, Int.natCast_mul]]
            rfl)
          have HT50 := Lib.hid h
          clear htn htn2 h
          go_wp2_with fail
          refine T.out.mono ?_
          rintro e w5 ⟨rfl, hb⟩
          have HBQ5 := Lib.hid (below_then HBQ.out HBQ.out.size hb)
          clear hb T m5 u1 k1 k2 k3 HBQ HBW
          cases hd : desc x ((pl : Int) + tn) l with
          | none =>
            rw [hd] at HTR
            unfold descV zeroA
            clear hd
            have HB6 := Lib.hid (below_alloc HBQ5.out (.cells #[.int .i64 0, .bool false, .bool false, .int .i64 0, .int .i64 0, .int .i64 0, .int .i64 0, .int .i64 0] 40))
            go_wp2_with fail
            go_roundw
            case rel => exact ⟨t + 1, by go_num, Lib.hid ⟨HT50.out, HTR.out.symm.trans HT.out.2⟩, HB6⟩
            case measure => have := HT50.out; simp only [intOf]; omega
          | some o =>
            rw [hd] at HTR
            have HTR2 : Hid (tries l x n pl lv taken (50 - t) t = if keyN lv o ∈ taken then tries l x n pl lv taken (50 - (t + 1)) (t + 1) else some o) := Lib.hid HTR.out
            clear HTR
            unfold descV
            have HWF := Lib.hid (HGL.out.wf o (desc_mem hd) lv)
            clear hd
            obtain ⟨ko, hko⟩ : ∃ ko, ko = keyN lv o := ⟨_, rfl⟩
            have TK : Hid (∀ w, Calls Try.prog kf #[.agg (aggO o)] w fun e w' => e = .returned (.int .i64 ko) ∧ Below w.heap.size w w') := Lib.hid (fun w => by rw [HKF.out, hko]; exact key_any lv HLV.out o w)
            have HKO := Lib.hid hko
            rw [← hko] at HTR2 HWF
            clear hko
            have HB6 := Lib.hid (below_alloc HBQ5.out (.cells (aggO o) 40))
            have HQ6 : Hid ((w5.alloc (.cells (aggO o) 40)).heap[w5.heap.size]? = some (.cells (aggO o) 40 (0, 0))) := Lib.hid (blk_new _ _)
            go_wp2_with fail
            obtain ⟨w6, hw6⟩ : ∃ w6, w6 = w5.alloc (.cells (aggO o) 40) := ⟨_, rfl⟩
            rw [← hw6] at HB6 HQ6 ⊢
            obtain ⟨q, hq⟩ : ∃ q, q = w5.heap.size := ⟨_, rfl⟩
            have HQG : Hid (wo.heap.size ≤ q) := Lib.hid (by rw [hq]; exact HBQ5.out.size)
            rw [← hq] at HQ6 ⊢
            clear hw6 hq HBQ5
            refine (TK.out _).mono ?_
            rintro e w7 ⟨rfl, hb⟩
            have HB7 := Lib.hid (below_then HB6.out HB6.out.size hb)
            have HQ7 := Lib.hid (blk_below HQ6.out hb)
            have HO7 := Lib.hid (ob_below HO.out HB7.out)
            clear hb HB6 HQ6
            obtain ⟨tk, htk⟩ : ∃ tk, tk = decide (ko ∈ taken) := ⟨_, rfl⟩
            have hrun := look_taken HO7.out HTK.out ko HWF.out
            rw [← htk] at hrun
            cases tk with
            | true =>
              have HIN : Hid (ko ∈ taken) := Lib.hid (of_decide_eq_true htk.symm)
              clear htk
              go_wp2_with fail
              go_roundw
              case rel =>
                have e := HTR2.out
                simp only [if_pos HIN.out] at e
                exact ⟨t + 1, by go_num, Lib.hid ⟨HT50.out, e.symm.trans HT.out.2⟩, HB7⟩
              case measure => have := HT50.out; simp only [intOf]; omega
            | false =>
              have HIN : Hid (ko ∉ taken) := Lib.hid (of_decide_eq_false htk.symm)
              clear htk
              obtain ⟨y0, y1, y2, y3, y4, y5, y6, y7⟩ := blkO HQ7.out
              go_wp2_with fail
              refine (TK.out _).mono ?_
              rintro e w8 ⟨rfl, hb⟩
              have HB8 := Lib.hid (below_then HB7.out HB7.out.size hb)
              have HQ8 := Lib.hid (blk_below HQ7.out hb)
              have HO8 := Lib.hid (ob_below HO7.out hb)
              clear hb HB7 HQ7 HO7 y0 y1 y2 y3 y4 y5 y6 y7 hrun
              have HIM := Lib.hid HO8.out.isMap
              have HBW8 := Lib.hid (below_then HB.out HB.out.size HB8.out)
              have HG8 := Lib.hid (blk_below HG.out HB8.out)
              have HM8 := Lib.hid (blk_below HM.out HB8.out)
              have HU8 := Lib.hid (blk_below HU.out HB8.out)
              have HBO : Hid (b < wo.heap.size) := Lib.hid HO.out.lt
              have HPL : Hid (pl < 32) := Lib.hid (by have := HN2.out; have := HPN.out; omega)
              have p0 : (0 : Int) ≤ pl := by omega
              have p1 : (pl : Int) < n := by have := HPN.out; omega
              go_wp2_with (first | (at_mapUpdate; go_must (refine wpList_mapUpdate_own _ rfl _ _ _ 75 rfl 3 4 keyI Try.underlying75 _ b cnt D rfl (by exact HO8.out) ?hn _ _ (.int .i64 ko) rfl rfl (keyOf_int_mk Try.underlying3 HWF.out) (.lit (.bool true)) [] (plainElem_bool Try.underlying4 true) ?_; (case hn => have := HCN.out; have := HPL.out; simp only [maxLen]; omega)); intro w9 ho hg; have HO9 := Lib.hid ho; have HB9 := Lib.hid (HBW8.out.grown hg HBW8.out.size (fun k hk => by injection hk with hk; have := HMG.out; omega)); have HG9 := Lib.hid (blk_grown HG8.out hg (by intro e; injection e with e; have := HGB.out; omega)); have HM9 := Lib.hid (blk_grown HM8.out hg (by intro e; injection e with e; have := HMG.out; omega)); have HU9 := Lib.hid (blk_grown HU8.out hg (by intro e; injection e with e; have := HMG.out; omega)); have HQ9 := Lib.hid (blk_grown HQ8.out hg (by intro e; injection e with e; have := HBO.out; have := HQG.out; omega)); have q0 := blk_cell HQ9.out 0; have gf := blk_frozen HG9.out pl; have gc : w9.cell? ⟨g, pl, none⟩ = some (.int .i64 (-1)) := (by rw [blk_cell HG9.out pl, ← HLE.out]; exact outA_get (by have := HLE.out; have := HPN.out; omega)); clear ho hg HO8 HB8 HQ8 HG8 HM8 HU8 HBW8))
              go_roundw
              case rel =>
                refine ⟨pl + 1, cnt + 1, outs ++ [o.f0], ko :: taken, _, by go_num, Lib.hid (by have e := HTR2.out; rw [if_neg HIN.out] at e; rw [HKO.out]; exact HCH.out.some HPN.out (HT.out.2.symm.trans e)), Lib.hid (by have := HCN.out; omega), Lib.hid (HO9.out.kept (Lib.grownBy_setCell _ g pl _) (by intro e; injection e with e; have := HGB.out; omega)), Lib.hid (taken_put HTK.out HIM.out), Lib.hid ?_, Lib.hid (blk_far HM9.out (by have := HGB.out; have := HMG.out; show w.heap.size ≠ g; omega) _), Lib.hid (blk_far HU9.out (by have := HGB.out; have := HMG.out; show w.heap.size + 1 ≠ g; omega) _), Lib.hid (HB9.out.setCell HGB.out.2 _)⟩
                exact blk_put HG9.out pl _ (by have e := outA_set (n := n) (outs := outs) (by have := HLE.out; have := HPN.out; omega) o.f0; rw [HLE.out] at e; exact e)
              case measure => have := HPN.out; simp only [intOf]; omega
        · obtain rfl : t = 50 := by omega
          have hl3 : decide ((50 : Int) < 50) = false := decide_eq_false (by omega)
          have HNO : Hid (tries l x n pl lv taken 50 0 = none) := Lib.hid HT.out.2.symm
          go_wp2_with fail
          go_roundw
          case rel =>
            exact ⟨pl + 1, cnt, outs ++ [-1], taken, D, by go_num, Lib.hid (HCH.out.none HPN.out HNO.out), Lib.hid (by have := HCN.out; omega), Lib.hid (ob_below HO.out HBQ.out), HTK, Lib.hid (by rw [outA_none (by have := HLE.out; have := HPN.out; omega)]; exact blk_below HG.out HBQ.out), Lib.hid (blk_below HM.out HBQ.out), Lib.hid (blk_below HU.out HBQ.out), HBW⟩
          case measure => have := HPN.out; simp only [intOf]; omega
    · obtain rfl : pl = n := by omega
      have hlt : decide ((pl : Int) < (pl : Int)) = false := decide_eq_false (by omega)
      have hlt2 : decide (pl < pl) = false := decide_eq_false (by omega)
      go_wp2_with fail
      go_ret2
      have e := HCH.out.all
      rw [Nat.sub_self] at e
      simp only [places, List.append_nil] at e
      refine ⟨g, rfl, HGB.out.2, ?_, HB.out⟩
      rw [← e]
      exact HG.out
end Go.Proofs.Ytnpphmgibgfjoaa.Cho
namespace Go.Proofs.Ytnpphmgibgfjoaa.MayP
open Go Go.RowKit Go.Proofs.YtnpphmgibgfjoaaW.PrintWords Go.Proofs.YtnpphmgibgfjoaaW.PrintMore Mem PAll KW MixP MixW StrP StrW AtA Srt Grp Sl Dsc AtB Roo Rep Cho
open CrP hiding Od
theorem w64 {x : Int} (h : -9223372036854775808 ≤ x) (h2 : x ≤ 9223372036854775807) : wrap64 x = x := IntWalk.wrap64_in _ ⟨h, h2⟩
theorem within_eq (a b : Int) : mooringref13_within.f a 0 b = some (winB a b) := by
  unfold mooringref13_within.f winB
  by_cases h : a ≥ 0
  · rw [if_pos h]
    congr 1
    by_cases h2 : a ≤ b
    · rw [decide_eq_true h2, decide_eq_true ⟨h, h2⟩]
    · rw [decide_eq_false h2, decide_eq_false (fun h3 => h2 h3.2)]
  · rw [if_neg h, decide_eq_false (fun h3 => h h3.1)]
theorem within1 (a b : Int) : mooringref13_within.f a 1 b = some (decide (1 ≤ a ∧ a ≤ b)) := by
  unfold mooringref13_within.f
  by_cases h : a ≥ 1
  · rw [if_pos h]
    congr 1
    by_cases h2 : a ≤ b
    · rw [decide_eq_true h2, decide_eq_true ⟨h, h2⟩]
    · rw [decide_eq_false h2, decide_eq_false (fun h3 => h2 h3.2)]
  · rw [if_neg h, decide_eq_false (fun h3 => h h3.1)]
theorem pool_eq (k m p d : Int) : mooringref13_Pool.f k m p d = some (poolB k m p d) := by
  unfold mooringref13_Pool.f poolB
  rw [within1, within1, within1, within_eq]
  simp only [Option.bind_some]
  by_cases h1 : 1 ≤ k ∧ k ≤ 32
  · rw [if_pos (decide_eq_true h1), decide_eq_true h1.1, decide_eq_true h1.2]
    by_cases h2 : 1 ≤ m ∧ m ≤ 32
    · have hw : wrap64 (k + m) = k + m := w64 (by omega) (by omega)
      rw [if_pos (decide_eq_true h2), hw, decide_eq_true h2.1]
      by_cases h3 : k + m ≤ 32
      · rw [if_pos h3, decide_eq_true (show m ≤ 32 - k by omega)]
        by_cases h4 : 1 ≤ p ∧ p ≤ 32
        · rw [if_pos (decide_eq_true h4), decide_eq_true h4.1, decide_eq_true h4.2]; rfl
        · rw [if_neg (by rw [decide_eq_false h4]; decide)]
          by_cases h5 : 1 ≤ p
          · rw [decide_eq_true h5, decide_eq_false (show ¬ p ≤ 32 from fun h => h4 ⟨h5, h⟩)]; rfl
          · rw [decide_eq_false h5]; rfl
      · rw [if_neg h3, decide_eq_false (show ¬ m ≤ 32 - k by omega)]; rfl
    · rw [if_neg (by rw [decide_eq_false h2]; decide)]
      by_cases h5 : 1 ≤ m
      · rw [decide_eq_true h5, decide_eq_false (show ¬ m ≤ 32 - k by omega)]; rfl
      · rw [decide_eq_false h5]; rfl
  · rw [if_neg (by rw [decide_eq_false h1]; decide)]
    by_cases h5 : 1 ≤ k
    · rw [decide_eq_true h5, decide_eq_false (show ¬ k ≤ 32 by omega)]
      cases decide (1 ≤ m) <;> rfl
    · rw [decide_eq_false h5]; rfl
theorem osd_eq (o : Od) : mooringref13_Osd.f o.f0 o.f1 o.f2 o.f3 o.f4 o.f5 o.f6 o.f7 = some (osdB o) := by
  unfold mooringref13_Osd.f osdB
  simp only [within_eq, Option.bind_some]
  generalize winB o.f0 999 = bf0
  cases bf0
  · rfl
  generalize winB o.f6 999 = bf6
  cases bf6
  · rfl
  generalize winB o.f7 999 = bf7
  cases bf7
  · rfl
  generalize winB o.f3 16777216 = bf3
  cases bf3
  · rfl
  generalize winB o.f4 2147483647 = bf4
  cases bf4
  · rfl
  generalize winB o.f5 2147483647 = bf5
  cases bf5
  · rfl
  simp only [if_true, Bool.true_and]
  cases o.f1
  · rfl
  · simp only [if_true, Bool.not_true, Bool.false_or]
    by_cases h : o.f4 > 0
    · rw [if_pos h, decide_eq_true (show 1 ≤ o.f4 by omega)]
      by_cases h2 : o.f5 > 0
      · rw [decide_eq_true h2, decide_eq_true (show 1 ≤ o.f5 by omega)]; rfl
      · rw [decide_eq_false h2, decide_eq_false (show ¬ 1 ≤ o.f5 by omega)]; rfl
    · rw [if_neg h, decide_eq_false (show ¬ 1 ≤ o.f4 by omega)]; rfl
theorem rd_at {l : List Od} {i : Nat} {o : Od} (h : l[i]? = some o) : rd_T40 l (i : Int) = o := by
  unfold rd_T40
  rw [show ((i : Nat) : Int).toNat = i from rfl, List.getD_eq_getElem?_getD, h]
  rfl
section
variable (ep k m p d : Int) {l : List Od}
theorem l1_all (hl : l.length ≤ 64) {i : Nat} {o : Od} (ho : l[i]? = some o) (h1 : osdB o = true) (hg : AtA.Good l i)
    (next : AtA.Good l (i + 1) → ∃ K, mooringref13_May.l0 K ((i : Int) + 1) ep k m p d l = some (goodB l)) :
    ∀ r j : Nat, j + r = i → (∀ j' q, j' < j → l[j']? = some q → q.f0 < o.f0 ∧ (q.f6 = o.f6 → q.f7 = o.f7)) → ∃ K, mooringref13_May.l1 K (i : Int) (j : Int) ep k m p d l = some (goodB l)
  | 0, j, hj, hp => by
    obtain rfl : j = i := by omega
    have hi := (List.getElem?_eq_some_iff.1 ho).1
    obtain ⟨K, hK⟩ := next (fun i' o' hi' ho' => by
      rcases Nat.lt_or_ge i' j with h | h
      · exact hg i' o' h ho'
      · obtain rfl : i' = j := by omega
        obtain rfl : o = o' := Option.some.inj (ho.symm.trans ho')
        exact ⟨h1, hp⟩)
    refine ⟨K + 1, ?_⟩
    unfold mooringref13_May.l1
    rw [if_neg (by omega), w64 (by omega) (by omega)]
    exact hK
  | r + 1, j, hj, hp => by
    have hi := (List.getElem?_eq_some_iff.1 ho).1
    have hq : l[j]? = some (l[j]'(by omega)) := List.getElem?_eq_getElem _
    have bad : (o.f0 ≤ (l[j]'(by omega)).f0 ∨ ((l[j]'(by omega)).f6 = o.f6 ∧ (l[j]'(by omega)).f7 ≠ o.f7)) → goodB l = false := fun hb => goodB_no (not_good hi ho (.inr ⟨j, _, by omega, hq, hb⟩))
    obtain ⟨q, hqe⟩ : ∃ q, q = l[j]'(by omega) := ⟨_, rfl⟩
    rw [← hqe] at hq bad
    clear hqe
    have recu := fun (hok : q.f0 < o.f0 ∧ (q.f6 = o.f6 → q.f7 = o.f7)) => l1_all hl ho h1 hg next r (j + 1) (by omega) (fun j' q' hj' hq' => by
      rcases Nat.lt_or_ge j' j with h | h
      · exact hp j' q' h hq'
      · obtain rfl : j' = j := by omega
        obtain rfl : q = q' := Option.some.inj (hq.symm.trans hq')
        exact hok)
    have go : ∀ K, mooringref13_May.l1 (K + 1) (i : Int) (j : Int) ep k m p d l = if q.f0 ≥ o.f0 then some false else if q.f6 = o.f6 then (if q.f7 = o.f7 then mooringref13_May.l1 K (i : Int) ((j + 1 : Nat) : Int) ep k m p d l else some false) else mooringref13_May.l1 K (i : Int) ((j + 1 : Nat) : Int) ep k m p d l := by
      intro K
      rw [mooringref13_May.l1]
      rw [if_pos (by omega), if_pos (by omega), if_pos (by omega), if_pos (by omega), if_pos (by omega), w64 (by omega) (by omega), rd_at hq, rd_at ho, show ((j : Int) + 1) = ((j + 1 : Nat) : Int) by omega]
    by_cases c1 : q.f0 ≥ o.f0
    · exact ⟨1, by rw [go 0, if_pos c1, bad (.inl c1)]⟩
    · by_cases c2 : q.f6 = o.f6
      · by_cases c3 : q.f7 = o.f7
        · obtain ⟨K, hK⟩ := recu ⟨by omega, fun _ => c3⟩
          exact ⟨K + 1, by rw [go K, if_neg c1, if_pos c2, if_pos c3, hK]⟩
        · exact ⟨1, by rw [go 0, if_neg c1, if_pos c2, if_neg c3, bad (.inr ⟨c2, c3⟩)]⟩
      · obtain ⟨K, hK⟩ := recu ⟨by omega, fun h => absurd h c2⟩
        exact ⟨K + 1, by rw [go K, if_neg c1, if_neg c2, hK]⟩
theorem l0_all (hl : l.length ≤ 64) : ∀ r i : Nat, i + r = l.length → AtA.Good l i → ∃ K, mooringref13_May.l0 K (i : Int) ep k m p d l = some (goodB l)
  | 0, i, hi, hg => by
    obtain rfl : i = l.length := by omega
    refine ⟨1, ?_⟩
    rw [mooringref13_May.l0, if_neg (by omega), goodB_yes hg]
  | r + 1, i, hi, hg => by
    have hlt : i < l.length := by omega
    have ho : l[i]? = some l[i] := List.getElem?_eq_getElem hlt
    obtain ⟨o, hoe⟩ : ∃ o, o = l[i] := ⟨_, rfl⟩
    rw [← hoe] at ho
    clear hoe
    have go : ∀ K, mooringref13_May.l0 (K + 1) (i : Int) ep k m p d l = if osdB o = true then mooringref13_May.l1 K (i : Int) 0 ep k m p d l else some false := by
      intro K
      rw [mooringref13_May.l0, if_pos (by omega), if_pos (by omega), rd_at ho, osd_eq]
      rfl
    cases h1 : osdB o with
    | false => exact ⟨1, by rw [go 0, h1, goodB_no (not_good hlt ho (.inl h1))]; rfl⟩
    | true =>
      obtain ⟨K, hK⟩ := l1_all ep k m p d hl ho h1 hg (fun hg1 => l0_all hl r (i + 1) (by omega) hg1) i 0 (by omega) (fun j' _ h => absurd h (Nat.not_lt_zero _))
      exact ⟨K + 1, by rw [go K, h1, if_pos rfl]; exact hK⟩
theorem may_eq : ∃ K, mooringref13_May.f K ep k m p d l = some (mayB ep k m p d l) := by
  unfold mooringref13_May.f mayB
  rw [within_eq, pool_eq]
  simp only [Option.bind_some]
  cases winB ep 1048576 with
  | false => exact ⟨1, rfl⟩
  | true =>
    cases poolB k m p d with
    | false => exact ⟨1, rfl⟩
    | true =>
      by_cases h : l.length ≤ 64
      · obtain ⟨K, hK⟩ := l0_all ep k m p d h l.length 0 (by omega) (fun i _ h => absurd h (Nat.not_lt_zero _))
        refine ⟨K + 1, ?_⟩
        rw [if_pos rfl, if_pos rfl, mooringref13_May.j0, decide_eq_false (show ¬ ((l.length : Int) > 64) by omega), decide_eq_true h, if_neg Bool.false_ne_true]
        exact hK
      · refine ⟨1, ?_⟩
        rw [if_pos rfl, if_pos rfl, mooringref13_May.j0, decide_eq_true (show ((l.length : Int) > 64) by omega), decide_eq_false h]
        rfl
end
theorem may_calls (ep k m p d : Int) (A : Option Addr) (c : Nat) (l : List Od) (w : World) (hx : kO.C w A l.length l) (hc : l.length ≤ c) :
    Calls Try.prog 12 #[.agg (boxM ep k m p d A c l)] w fun e w' => e = .returned (.bool (mayB ep k m p d l)) ∧ Below w.heap.size w w' := by
  obtain ⟨K, hK⟩ := may_eq ep k m p d (l := l)
  refine (mooringref13_May.calls K ep k m p d A c l _ w hx hc hK).mono ?_
  rintro e w1 ⟨rfl, hb⟩
  exact ⟨rfl, hb⟩
end Go.Proofs.Ytnpphmgibgfjoaa.MayP
namespace Go.Proofs.Ytnpphmgibgfjoaa.Awk
open Go Go.RowKit Go.Proofs.YtnpphmgibgfjoaaW.PrintWords Go.Proofs.YtnpphmgibgfjoaaW.PrintMore Mem PAll KW MixP MixW StrP StrW AtA Srt Grp Sl Dsc AtB Roo Rep Cho MayP
open CrP hiding Od
def choB (ok : Bool) (dm want : Int) : Bool := ok && (domB dm && (decide (1 ≤ want) && decide (want ≤ 32)))
set_option maxHeartbeats 8000000 in
set_option maxRecDepth 100000 in
theorem Choose_bad (ep k m p d : Int) (A : Option Addr) (c : Nat) (l : List Od) (dm want x : Int) (w : World) (hx : kO.C w A l.length l) (hwf : WfL l) (hn : choB (mayB ep k m p d l) dm want = false) :
    Calls Try.prog 15 #[.agg (boxM ep k m p d A c l), .agg #[.int .i64 dm, .int .i64 want], .int .u32 x] w fun e w' => e = .returned (.tuple #[.slice none 0 0, .int .i64 1]) ∧ Below w.heap.size w w' := by
  have HBA := Lib.hid (below_alloc (below_alloc (Below.refl w.heap.size w) (.cells (boxM ep k m p d A c l) 26)) (.cells #[.int .i64 dm, .int .i64 want] 28))
  have HC1 := Lib.hid (Kd.C_alloc (Kd.C_alloc hx (.cells (boxM ep k m p d A c l) 26)) (.cells #[.int .i64 dm, .int .i64 want] 28))
  have HU1 : Hid (((w.alloc (.cells (boxM ep k m p d A c l) 26)).alloc (.cells #[.int .i64 dm, .int .i64 want] 28)).heap[w.heap.size + 1]? = some (.cells #[.int .i64 dm, .int .i64 want] 28 (0, 0))) := Lib.hid (by have h := blk_new (w.alloc (.cells (boxM ep k m p d A c l) 26)) (.cells #[.int .i64 dm, .int .i64 want] 28); simp only [World.alloc, Array.size_push] at h ⊢; exact h)
  have T := Lib.hid (fun c0 w0 h0 => check_calls ep k m p d A c0 l w0 h0 hwf)
  have TO := Lib.hid (of_calls dm)
  unfold choB at hn
  obtain ⟨mb, hmb⟩ : ∃ mb, mb = mayB ep k m p d l := ⟨_, rfl⟩
  obtain ⟨db, hdb⟩ : ∃ db, db = domB dm := ⟨_, rfl⟩
  obtain ⟨kf, hkf⟩ : ∃ kf, kf = fnL (domL dm) := ⟨_, rfl⟩
  rw [← hmb, ← hdb] at hn
  have HMB := Lib.hid hmb.symm
  have HN := Lib.hid hn
  have HOF : Hid (ofV dm = if db = true then .func (.func kf) #[] #[] else .nilFunc) := Lib.hid (by unfold ofV; rw [← hdb, hkf])
  have hq1 := eql_func_nil
  have hq2 := eql_nil_nil
  clear hx hwf hn hmb hdb hkf
  unfold boxM at *
  cases mb with
  | false =>
    cases db with
    | false =>
      go_enter Try.func15, Try.ntmps15
      go_wp2_with fail
      refine (TO.out _).mono ?_
      rintro e w0 ⟨rfl, rfl⟩
      rw [HOF.out, if_neg Bool.false_ne_true]
      go_wp2_with fail
      refine (T.out c _ HC1.out).mono ?_
      rintro e w1 ⟨rfl, hb⟩
      rw [HMB.out]
      have HB2 := Lib.hid (below_then HBA.out HBA.out.size hb)
      clear hb
      go_wp2_with fail
      go_ret2
      exact ⟨rfl, HB2.out⟩
    | true =>
      go_enter Try.func15, Try.ntmps15
      go_wp2_with fail
      refine (TO.out _).mono ?_
      rintro e w0 ⟨rfl, rfl⟩
      rw [HOF.out, if_pos trivial]
      go_wp2_with fail
      refine (T.out c _ HC1.out).mono ?_
      rintro e w1 ⟨rfl, hb⟩
      rw [HMB.out]
      have HB2 := Lib.hid (below_then HBA.out HBA.out.size hb)
      clear hb
      go_wp2_with fail
      go_ret2
      exact ⟨rfl, HB2.out⟩
  | true =>
    cases db with
    | false =>
      go_enter Try.func15, Try.ntmps15
      go_wp2_with fail
      refine (TO.out _).mono ?_
      rintro e w0 ⟨rfl, rfl⟩
      rw [HOF.out, if_neg Bool.false_ne_true]
      go_wp2_with fail
      refine (T.out c _ HC1.out).mono ?_
      rintro e w1 ⟨rfl, hb⟩
      rw [HMB.out]
      have HB2 := Lib.hid (below_then HBA.out HBA.out.size hb)
      clear hb
      go_wp2_with fail
      go_ret2
      exact ⟨rfl, HB2.out⟩
    | true =>
      by_cases h1 : want < 1
      · have b1 : decide (want < 1) = true := decide_eq_true h1
        clear h1
        go_enter Try.func15, Try.ntmps15
        go_wp2_with fail
        refine (TO.out _).mono ?_
        rintro e w0 ⟨rfl, rfl⟩
        rw [HOF.out, if_pos trivial]
        go_wp2_with fail
        refine (T.out c _ HC1.out).mono ?_
        rintro e w1 ⟨rfl, hb⟩
        rw [HMB.out]
        have HB2 := Lib.hid (below_then HBA.out HBA.out.size hb)
        have u1 := blk_cell (blk_below HU1.out hb) 1
        clear hb
        go_wp2_with fail
        go_ret2
        exact ⟨rfl, HB2.out⟩
      · have b1 : decide (want < 1) = false := decide_eq_false h1
        have h2 : 32 < want := by
          have e := HN.out
          rw [decide_eq_true (show 1 ≤ want by omega)] at e
          have : ¬ want ≤ 32 := by
            intro h
            rw [decide_eq_true h] at e
            cases e
          omega
        have b2 : decide (32 < want) = true := decide_eq_true h2
        clear h1 h2
        go_enter Try.func15, Try.ntmps15
        go_wp2_with fail
        refine (TO.out _).mono ?_
        rintro e w0 ⟨rfl, rfl⟩
        rw [HOF.out, if_pos trivial]
        go_wp2_with fail
        refine (T.out c _ HC1.out).mono ?_
        rintro e w1 ⟨rfl, hb⟩
        rw [HMB.out]
        have HB2 := Lib.hid (below_then HBA.out HBA.out.size hb)
        have u1 := blk_cell (blk_below HU1.out hb) 1
        clear hb
        go_wp2_with fail
        go_ret2
        exact ⟨rfl, HB2.out⟩
def seven : Od := ⟨7, false, true, 5, 0, 0, 0, 0⟩
theorem seven_places : places [seven] 3 2 3 2 0 [] = [7, -1] := by decide +kernel
theorem seven_may : mayB 0 1 1 1 0 [seven] = true := by
  have hg : AtA.Good [seven] [seven].length := fun i o hi ho => by
    obtain rfl : i = 0 := by simp at hi; omega
    obtain rfl : seven = o := by simpa using ho
    exact ⟨by decide, fun j _ hj => absurd hj (Nat.not_lt_zero _)⟩
  unfold mayB
  rw [goodB_yes hg]
  decide
theorem seven_C {w : World} {g : Nat} (h : w.heap[g]? = some (.cells (aggO seven) 40 (0, 0))) : kO.C w (some ⟨g, 0, none⟩) [seven].length [seven] := by
  refine ⟨rfl, by decide, fun _ => ⟨_, rfl, fun j p hj => ?_⟩⟩
  match j, hj with
  | 0, hj =>
    obtain rfl := Option.some.inj hj
    refine ⟨_, rfl, k40_mkM w 0 (fun _ => True) _, fun i u hu => ?_⟩
    rw [add_plain, blk_cell h]
    match i, hu with
    | 0, hu => exact hu
    | 1, hu => exact hu
    | 2, hu => exact hu
    | 3, hu => exact hu
    | 4, hu => exact hu
    | 5, hu => exact hu
    | 6, hu => exact hu
    | 7, hu => exact hu
    | i + 8, hu => cases hu
  | j + 1, hj => cases hj
theorem seven_wf : WfL [seven] := fun o ho => by
  obtain rfl := List.mem_singleton.1 ho
  decide
set_option maxHeartbeats 4000000 in
set_option maxRecDepth 100000 in
theorem awake_calls (w : World) : Calls Try.prog 14 #[] w fun e w' => e = .returned (.bool true) ∧ Below w.heap.size w w' := by
  have HBA := Lib.hid (below_alloc (below_alloc (Below.refl w.heap.size w) (.cells (aggO seven) 40)) (.cells #[.int .i64 0, .int .i64 1, .int .i64 1, .int .i64 1, .int .i64 0, .slice (some ⟨w.heap.size, 0, none⟩) 1 1] 26))
  have HS1 : Hid (((w.alloc (.cells (aggO seven) 40)).alloc (.cells #[.int .i64 0, .int .i64 1, .int .i64 1, .int .i64 1, .int .i64 0, .slice (some ⟨w.heap.size, 0, none⟩) 1 1] 26)).heap[w.heap.size]? = some (.cells (aggO seven) 40 (0, 0))) := Lib.hid (blk_below (blk_new _ _) (below_alloc (Below.refl _ _) _))
  have HM1 : Hid (((w.alloc (.cells (aggO seven) 40)).alloc (.cells #[.int .i64 0, .int .i64 1, .int .i64 1, .int .i64 1, .int .i64 0, .slice (some ⟨w.heap.size, 0, none⟩) 1 1] 26)).heap[w.heap.size + 1]? = some (.cells #[.int .i64 0, .int .i64 1, .int .i64 1, .int .i64 1, .int .i64 0, .slice (some ⟨w.heap.size, 0, none⟩) 1 1] 26 (0, 0))) := Lib.hid (by have h := blk_new (w.alloc (.cells (aggO seven) 40)) (.cells #[.int .i64 0, .int .i64 1, .int .i64 1, .int .i64 1, .int .i64 0, .slice (some ⟨w.heap.size, 0, none⟩) 1 1] 26); simp only [World.alloc, Array.size_push] at h ⊢; exact h)
  have T := Lib.hid (Choose_ok 0 1 1 1 0 (some ⟨w.heap.size, 0, none⟩) 1 [seven] 0 3 2 _ (seven_C HS1.out) seven_wf seven_may (by decide) (by decide) (by decide))
  have T2 := Lib.hid (fun w1 h => Room_calls 0 1 1 1 0 (some ⟨w.heap.size, 0, none⟩) 1 [seven] 2 w1 (seven_C h) seven_wf)
  have HR : Hid (roomI (mayB 0 1 1 1 0 [seven]) 2 [seven] = 1) := Lib.hid (by rw [seven_may]; decide +kernel)
  have HP : Hid (places [seven] 3 (2 : Nat) (domL 0) 2 0 [] = [7, -1]) := Lib.hid seven_places
  unfold boxM at *
  go_enter Try.func14, Try.ntmps14
  go_wp2_with fail
  refine T.out.mono ?_
  rintro e w1 ⟨g, rfl, _, hg, hb⟩
  rw [HP.out] at hg
  have HB2 := Lib.hid (below_then HBA.out HBA.out.size hb)
  have HM2 := Lib.hid (blk_below HM1.out hb)
  have HS2 := Lib.hid (blk_below HS1.out hb)
  have g0 : w1.cell? ⟨g, 0, none⟩ = some (.int .i64 7) := blk_cell hg 0
  have g1 : w1.cell? ⟨g, 1, none⟩ = some (.int .i64 (-1)) := blk_cell hg 1
  have m0 := blk_cell HM2.out 0
  have m1 := blk_cell HM2.out 1
  have m2 := blk_cell HM2.out 2
  have m3 := blk_cell HM2.out 3
  have m4 := blk_cell HM2.out 4
  have m5 := blk_cell HM2.out 5
  clear hg hb
  go_wp2_with fail
  refine (T2.out _ HS2.out).mono ?_
  rintro e w2 ⟨rfl, hb⟩
  rw [HR.out]
  have HB3 := Lib.hid (below_then HB2.out HB2.out.size hb)
  clear hb
  go_wp2_with fail
  go_ret
  exact ⟨rfl, HB3.out⟩
theorem light_calls (ep k m p d : Int) (A : Option Addr) (c : Nat) (l : List Od) (dm want : Int) (w : World) (hx : kO.C w A l.length l) :
    Calls Try.prog 13 #[.agg (boxM ep k m p d A c l), .agg #[.int .i64 dm, .int .i64 want]] w fun e w' => e = .returned (.bool (decide (l.length ≤ 24) && decide (want ≤ 12))) ∧ Below w.heap.size w w' := by
  have HBA := Lib.hid (below_alloc (below_alloc (Below.refl w.heap.size w) (.cells (boxM ep k m p d A c l) 26)) (.cells #[.int .i64 dm, .int .i64 want] 28))
  have hm : l.length ≤ 9223372036854775807 := hx.2.1
  unfold boxM at *
  by_cases h : l.length ≤ 24
  · have hd : decide (l.length ≤ 24) = true := decide_eq_true h
    have hd2 : decide ((l.length : Int) ≤ 24) = true := decide_eq_true (by omega)
    rw [hd]
    clear h hx
    go_enter Try.func13, Try.ntmps13
    go_wp2_with fail
    go_ret
    exact ⟨rfl, HBA.out⟩
  · have hd : decide (l.length ≤ 24) = false := decide_eq_false h
    have hd2 : decide ((l.length : Int) ≤ 24) = false := decide_eq_false (by omega)
    rw [hd]
    clear h hx
    go_enter Try.func13, Try.ntmps13
    go_wp2_with fail
    go_ret
    exact ⟨rfl, HBA.out⟩
end Go.Proofs.Ytnpphmgibgfjoaa.Awk
namespace Go.Proofs.Ytnpphmgibgfjoaa.UpsP
open Go Go.RowKit Go.Proofs.YtnpphmgibgfjoaaW.PrintWords Go.Proofs.YtnpphmgibgfjoaaW.PrintMore Mem PAll KW MixP MixW StrP StrW AtA Srt Grp Sl Dsc AtB Roo Rep Cho MayP Awk
open CrP hiding Od
def nrm (o : Od) : Od := { o with f1 := false, f4 := 0 }
theorem groupF_nrm (lv : Nat) : ∀ (l : List Od) (g : List Wd), groupF lv g (l.map nrm) = groupF lv g l
  | [], _ => rfl
  | o :: r, g => groupF_nrm lv r (ins (keyN lv o) (wOf o) g)
theorem group_nrm (lv : Nat) (l : List Od) : group lv (l.map nrm) = group lv l := groupF_nrm lv l []
theorem lvl_nrm (x r : Int) (lv : Nat) (l : List Od) : lvl x r lv (l.map nrm) = (lvl x r lv l).map (List.map nrm) := by
  unfold lvl
  rw [group_nrm]
  split
  · rfl
  · rw [List.filter_map]
    rfl
theorem desc_nrm (x r : Int) (l : List Od) : desc x r (l.map nrm) = (desc x r l).map nrm := by
  unfold desc
  rw [lvl_nrm]
  cases lvl x r 1 l with
  | none => rfl
  | some l1 =>
    show ((lvl x r 2 (l1.map nrm)).bind (lvl x r 3)).bind List.head? = (((lvl x r 2 l1).bind (lvl x r 3)).bind List.head?).map nrm
    rw [lvl_nrm]
    cases lvl x r 2 l1 with
    | none => rfl
    | some l2 =>
      show (lvl x r 3 (l2.map nrm)).bind List.head? = ((lvl x r 3 l2).bind List.head?).map nrm
      rw [lvl_nrm]
      cases lvl x r 3 l2 with
      | none => rfl
      | some l3 => cases l3 <;> rfl
theorem tries_nrm (l : List Od) (x want place : Int) (lv : Nat) (taken : List Int) : ∀ m t, tries (l.map nrm) x want place lv taken m t = (tries l x want place lv taken m t).map nrm
  | 0, _ => rfl
  | m + 1, t => by
    simp only [tries]
    rw [desc_nrm]
    cases desc x (place + t * want) l with
    | none => exact tries_nrm l x want place lv taken m (t + 1)
    | some o =>
      show (if keyN lv (nrm o) ∈ taken then _ else _) = _
      rw [show keyN lv (nrm o) = keyN lv o from rfl]
      by_cases h : keyN lv o ∈ taken
      · simp only [if_pos h]; exact tries_nrm l x want place lv taken m (t + 1)
      · simp only [if_neg h]; rfl
theorem places_nrm (l : List Od) (x want : Int) (lv : Nat) : ∀ m p taken, places (l.map nrm) x want lv m p taken = places l x want lv m p taken
  | 0, _, _ => rfl
  | m + 1, p, taken => by
    simp only [places]
    rw [tries_nrm]
    cases tries l x want p lv taken 50 0 with
    | none => exact congrArg _ (places_nrm l x want lv m (p + 1) taken)
    | some o => exact congrArg _ (places_nrm l x want lv m (p + 1) (keyN lv o :: taken))
def off (j : Nat) (o : Od) : Od := { o with f1 := false, f4 := (j : Int) }
structure Downs (l xs : List Od) (i : Nat) : Prop where
  len : xs.length = l.length
  at_ : ∀ j o, l[j]? = some o → xs[j]? = some (if j < i then off j o else o)
theorem Downs.start (l : List Od) : Downs l l 0 := ⟨rfl, fun j o h => by rw [if_neg (Nat.not_lt_zero _)]; exact h⟩
theorem Downs.more {l xs : List Od} {i : Nat} {o : Od} (h : Downs l xs i) (ho : l[i]? = some o) : Downs l (xs.set i (off i o)) (i + 1) := by
  refine ⟨by rw [List.length_set]; exact h.len, fun j q hq => ?_⟩
  have hi := (List.getElem?_eq_some_iff.1 ho).1
  have hl := h.len
  rw [List.getElem?_set]
  by_cases e : i = j
  · subst e
    obtain rfl : o = q := Option.some.inj (ho.symm.trans hq)
    rw [if_pos rfl, if_pos (by omega), if_pos (Nat.lt_succ_self _)]
  · rw [if_neg e, h.at_ j q hq]
    by_cases h2 : j < i
    · rw [if_pos h2, if_pos (by omega)]
    · rw [if_neg h2, if_neg (by omega)]
theorem Downs.nrm_eq {l xs : List Od} {i : Nat} (h : Downs l xs i) : xs.map nrm = l.map nrm := by
  apply List.ext_getElem?
  intro j
  rw [List.getElem?_map, List.getElem?_map]
  rcases Nat.lt_or_ge j l.length with hj | hj
  · rw [h.at_ j _ (List.getElem?_eq_getElem hj), List.getElem?_eq_getElem hj]
    split <;> rfl
  · rw [List.getElem?_eq_none hj, List.getElem?_eq_none (by rw [h.len]; exact hj)]
theorem Downs.places {l xs : List Od} {i : Nat} (h : Downs l xs i) (x want : Int) (lv m p : Nat) (taken : List Int) : places xs x want lv m p taken = places l x want lv m p taken := by
  rw [← places_nrm xs, h.nrm_eq, places_nrm]
theorem osdB_off {o : Od} {j : Nat} (h : osdB o = true) (hj : j < 64) : osdB (off j o) = true := by
  unfold osdB at *
  simp only [Bool.and_eq_true] at h
  obtain ⟨h0, h6, h7, h3, _, h5, _⟩ := h
  have h4 : winB (j : Int) 2147483647 = true := decide_eq_true (by omega)
  show (winB o.f0 999 && (winB o.f6 999 && (winB o.f7 999 && (winB o.f3 16777216 && (winB (j : Int) 2147483647 && (winB o.f5 2147483647 && (!false || (decide (1 ≤ (j : Int)) && decide (1 ≤ o.f5))))))))) = true
  rw [h0, h6, h7, h3, h4, h5]
  rfl
theorem Downs.may {l xs : List Od} {ep k m p d : Int} (h : Downs l xs l.length) (hm : mayB ep k m p d l = true) : mayB 7 k m p d xs = true := by
  have hg := may_good hm
  have hG := goodB_iff.1 hg.2
  have hlen := h.len
  have at' : ∀ j o, xs[j]? = some o → ∃ q, l[j]? = some q ∧ o = off j q ∧ j < l.length := fun j o ho => by
    have hj := (List.getElem?_eq_some_iff.1 ho).1
    have e := h.at_ j _ (List.getElem?_eq_getElem (show j < l.length by omega))
    rw [if_pos (by omega)] at e
    exact ⟨_, List.getElem?_eq_getElem (by omega), Option.some.inj (ho.symm.trans e), by omega⟩
  have hgood : AtA.Good xs xs.length := fun i o _ ho => by
    obtain ⟨q, hq, rfl, hi⟩ := at' i o ho
    have hq2 := hG i q hi hq
    refine ⟨osdB_off hq2.1 (by omega), fun j p hj hp => ?_⟩
    obtain ⟨q', hq', rfl, hj'⟩ := at' j p hp
    exact hq2.2 j q' hj hq'
  unfold mayB at *
  rw [goodB_yes hgood, hlen]
  simp only [Bool.and_eq_true, decide_eq_true_eq] at *
  first | exact ⟨by decide, hm.2.1, hm.2.2.1⟩ | exact ⟨by decide, hm.2.1, hm.2.2.1, trivial⟩
theorem Downs.wf {l xs : List Od} {i : Nat} (h : Downs l xs i) (hw : WfL l) : WfL xs := fun o ho => by
  obtain ⟨j, hj, e⟩ := List.mem_iff_getElem.1 ho
  have hj' : j < l.length := by rw [← h.len]; exact hj
  have e2 := h.at_ j _ (List.getElem?_eq_getElem hj')
  rw [List.getElem?_eq_getElem hj, e] at e2
  have hw2 := hw l[j] (List.getElem_mem hj')
  rw [Option.some.inj e2]
  split
  · exact hw2
  · exact hw2
theorem ints_C {w : World} {g n : Nat} {ps : List Int} (h : w.heap[g]? = some (.cells (outA n ps) 3 (0, 0))) (hn : ps.length = n) (hs : n ≤ 64) : Kd.C (Kd.int .i64) w (some ⟨g, 0, none⟩) ps.length ps := by
  refine ⟨rfl, by omega, fun _ => ⟨_, rfl, fun j p hj => ?_⟩⟩
  refine ⟨[.int .i64 p], rfl, rfl, fun i u hu => ?_⟩
  match i, hu with
  | 0, hu =>
    obtain rfl := Option.some.inj hu
    rw [add_plain, show j * (Kd.int .i64).sz + 0 = j from Nat.mul_one j, blk_cell h, List.getElem?_toArray, List.getElem?_append_left (by rw [List.length_map]; exact (List.getElem?_eq_some_iff.1 hj).1), List.getElem?_map, hj]
    rfl
  | i + 1, hu => cases hu
theorem places_len (l : List Od) (x want : Int) (lv : Nat) : ∀ m p taken, (places l x want lv m p taken).length = m
  | 0, _, _ => rfl
  | m + 1, p, taken => by
    simp only [places]
    split
    · rw [List.length_cons, places_len l x want lv m]
    · rw [List.length_cons, places_len l x want lv m]
end Go.Proofs.Ytnpphmgibgfjoaa.UpsP
namespace Go.Proofs.Ytnpphmgibgfjoaa.ApP
open Go Go.RowKit Go.Proofs.YtnpphmgibgfjoaaW.PrintWords KW MixP MixW StrP PAll AtA AtB Grp Dsc Roo Cho UpsP
open CrP hiding Od
def Asc (l : List Od) : Prop := l.Pairwise (fun a b => a.f0 < b.f0)
theorem asc_of_good {l : List Od} (h : AtA.Good l l.length) : Asc l := by
  refine List.pairwise_iff_getElem.2 (fun i j hi hj hij => ?_)
  exact ((h j l[j] hj (List.getElem?_eq_getElem hj)).2 i l[i] hij (List.getElem?_eq_getElem hi)).1
theorem may_asc {ep k m p d : Int} {l : List Od} (h : mayB ep k m p d l = true) : Asc l := asc_of_good (goodB_iff.1 (may_good h).2)
theorem sumK_none {lv : Nat} {k : Int} : ∀ {l : List Od}, (∀ a ∈ l, keyN lv a ≠ k) → sumK lv k l = 0
  | [], _ => rfl
  | a :: r, h => by
    simp only [sumK]
    rw [if_neg (h a List.mem_cons_self), sumK_none (fun b hb => h b (List.mem_cons_of_mem _ hb))]
    rfl
theorem sumK_one : ∀ {l : List Od} {o : Od}, Asc l → o ∈ l → sumK 3 o.f0 l = wOf o
  | a :: r, o, h, ho => by
    have h1 := List.pairwise_cons.1 h
    simp only [sumK]
    rcases List.mem_cons.1 ho with rfl | ho
    · rw [show keyN 3 o = o.f0 from rfl, if_pos rfl, sumK_none (fun b hb => by have := h1.1 b hb; show b.f0 ≠ o.f0; omega), Int.add_zero]
    · have h2 := h1.1 o ho
      rw [show keyN 3 a = a.f0 from rfl, if_neg (by omega), sumK_one h1.2 ho, Int.zero_add]
theorem asc_filter {l : List Od} (h : Asc l) (p : Od → Bool) : Asc (l.filter p) := List.Pairwise.filter p h
theorem lvl_asc {x r : Int} {lv : Nat} {l l' : List Od} (hl : Asc l) (h : lvl x r lv l = some l') : Asc l' := by
  obtain ⟨v, _, _, rfl⟩ := lvl_some h
  exact asc_filter hl _
theorem desc_weight {x r : Int} {l : List Od} {o : Od} (hl : Asc l) (h : desc x r l = some o) : 0 < wOf o := by
  unfold desc at h
  obtain ⟨l3, h3, ho⟩ := Option.bind_eq_some_iff.1 h
  obtain ⟨l2, h2, h3⟩ := Option.bind_eq_some_iff.1 h3
  obtain ⟨l1, h1, h2⟩ := Option.bind_eq_some_iff.1 h2
  have a2 := lvl_asc (lvl_asc hl h1) h2
  obtain ⟨v, hv, hd, rfl⟩ := lvl_some h3
  have hm := (List.mem_filter.1 (List.mem_of_mem_head? ho))
  have hk : o.f0 = v.id := of_decide_eq_true hm.2
  have hw := ((group_mem 3 l2 v).1 hv).2
  rw [← hk, sumK_one a2 hm.1] at hw
  have := ((drB_iff v).1 hd).1
  omega
theorem tries_some {l : List Od} {x want p : Int} {lv : Nat} {taken : List Int} {o : Od} : ∀ {m t : Nat}, tries l x want p lv taken m t = some o → ∃ r, desc x r l = some o ∧ keyN lv o ∉ taken
  | 0, _, h => by cases h
  | m + 1, t, h => by
    simp only [tries] at h
    cases hd : desc x (p + t * want) l with
    | none => rw [hd] at h; exact tries_some h
    | some q =>
      rw [hd] at h
      by_cases hk : keyN lv q ∈ taken
      · simp only [if_pos hk] at h; exact tries_some h
      · simp only [if_neg hk] at h
        obtain rfl := Option.some.inj h
        exact ⟨_, hd, hk⟩
def slots (l : List Od) (x want : Int) (lv : Nat) : Nat → Nat → List Int → List (Option Od)
  | 0, _, _ => []
  | m + 1, p, taken => match tries l x want p lv taken 50 0 with
    | some o => some o :: slots l x want lv m (p + 1) (keyN lv o :: taken)
    | none => none :: slots l x want lv m (p + 1) taken
def vO : Option Od → Int
  | some o => o.f0
  | none => -1
theorem places_slots (l : List Od) (x want : Int) (lv : Nat) : ∀ m p taken, places l x want lv m p taken = (slots l x want lv m p taken).map vO
  | 0, _, _ => rfl
  | m + 1, p, taken => by
    simp only [places, slots]
    cases tries l x want p lv taken 50 0 with
    | some o => simp only [List.map_cons, places_slots l x want lv m]; rfl
    | none => simp only [List.map_cons, places_slots l x want lv m]; rfl
theorem slots_len (l : List Od) (x want : Int) (lv : Nat) (m p : Nat) (taken : List Int) : (slots l x want lv m p taken).length = m := by
  have := places_len l x want lv m p taken
  rw [places_slots, List.length_map] at this
  exact this
theorem slots_mem {l : List Od} {x want : Int} {lv : Nat} (hl : Asc l) : ∀ {m p : Nat} {taken : List Int} {o : Od}, some o ∈ slots l x want lv m p taken → o ∈ l ∧ 0 < wOf o ∧ keyN lv o ∉ taken
  | 0, _, _, _, h => absurd h List.not_mem_nil
  | m + 1, p, taken, o, h => by
    simp only [slots] at h
    cases ht : tries l x want p lv taken 50 0 with
    | none =>
      rw [ht] at h
      rcases List.mem_cons.1 h with h | h
      · cases h
      · exact slots_mem hl h
    | some q =>
      rw [ht] at h
      rcases List.mem_cons.1 h with h | h
      · obtain rfl := Option.some.inj h
        obtain ⟨r, hd, hk⟩ := tries_some ht
        exact ⟨desc_mem hd, desc_weight hl hd, hk⟩
      · have := slots_mem hl h
        exact ⟨this.1, this.2.1, fun hm => this.2.2 (List.mem_cons_of_mem _ hm)⟩
def Apart (lv : Nat) (a b : Option Od) : Prop := ∀ o q, a = some o → b = some q → keyN lv o ≠ keyN lv q
theorem slots_apart {l : List Od} {x want : Int} {lv : Nat} (hl : Asc l) : ∀ (m p : Nat) (taken : List Int), (slots l x want lv m p taken).Pairwise (Apart lv)
  | 0, _, _ => List.Pairwise.nil
  | m + 1, p, taken => by
    simp only [slots]
    cases ht : tries l x want p lv taken 50 0 with
    | none => exact List.pairwise_cons.2 ⟨fun b _ o q h => by (cases h), slots_apart hl m (p + 1) taken⟩
    | some q =>
      refine List.pairwise_cons.2 ⟨fun b hb o q' h1 h2 e => ?_, slots_apart hl m (p + 1) _⟩
      obtain rfl := Option.some.inj h1
      subst h2
      exact (slots_mem hl hb).2.2 (by rw [← e]; exact List.mem_cons_self)
theorem apart_get {l : List Od} {x want : Int} {lv n : Nat} (hl : Asc l) {i j : Nat} {o q : Od} (hij : j < i) (hi : (slots l x want lv n 0 [])[i]? = some (some o)) (hj : (slots l x want lv n 0 [])[j]? = some (some q)) : keyN lv q ≠ keyN lv o := by
  have h := List.pairwise_iff_getElem.1 (slots_apart (x := x) (want := want) (lv := lv) hl n 0 [])
  obtain ⟨h1, e1⟩ := List.getElem?_eq_some_iff.1 hi
  obtain ⟨h2, e2⟩ := List.getElem?_eq_some_iff.1 hj
  exact h j i h2 h1 hij q o e2 e1
def findO (l : List Od) (id : Int) : Option Od := l.find? fun o => o.f0 == id
theorem findO_mem : ∀ {l : List Od} {o : Od}, Asc l → o ∈ l → findO l o.f0 = some o
  | a :: r, o, h, ho => by
    have h1 := List.pairwise_cons.1 h
    unfold findO
    rw [List.find?_cons]
    rcases List.mem_cons.1 ho with rfl | ho
    · simp
    · have h2 := h1.1 o ho
      have : (a.f0 == o.f0) = false := beq_eq_false_iff_ne.2 (by omega)
      rw [this]
      exact findO_mem h1.2 ho
theorem findO_none {l : List Od} {id : Int} (h : ∀ o ∈ l, o.f0 ≠ id) : findO l id = none := List.find?_eq_none.2 (fun o ho => by have := h o ho; simpa using this)
theorem same_host {ep k m p d : Int} {l : List Od} (h : mayB ep k m p d l = true) {a b : Od} (ha : a ∈ l) (hb : b ∈ l) (e : a.f0 = b.f0) : a = b := by
  have hl := may_asc h
  have h1 := findO_mem hl ha
  rw [e, findO_mem hl hb] at h1
  exact (Option.some.inj h1).symm
theorem nodup_le : ∀ {xs ys : List Int}, xs.Nodup → (∀ x ∈ xs, x ∈ ys) → xs.length ≤ ys.length
  | [], _, _, _ => Nat.zero_le _
  | x :: r, ys, hn, h => by
    have h1 := List.nodup_cons.1 hn
    have hx := h x List.mem_cons_self
    have h2 : r.length ≤ (ys.erase x).length := nodup_le h1.2 (fun z hz => by
      have hne : z ≠ x := fun e => h1.1 (by rw [← e]; exact hz)
      exact (List.mem_erase_of_ne hne).2 (h z (List.mem_cons_of_mem _ hz)))
    rw [List.length_erase_of_mem hx] at h2
    have := List.length_pos_of_mem hx
    simp only [List.length_cons]
    omega
theorem sumK_ge {lv : Nat} : ∀ {l : List Od} {o : Od}, (∀ a ∈ l, 0 ≤ wOf a) → o ∈ l → wOf o ≤ sumK lv (keyN lv o) l
  | a :: r, o, h, ho => by
    have h0 : ∀ b ∈ r, 0 ≤ wOf b := fun b hb => h b (List.mem_cons_of_mem _ hb)
    simp only [sumK]
    rcases List.mem_cons.1 ho with rfl | ho
    · rw [if_pos rfl]
      have : 0 ≤ sumK lv (keyN lv o) r := sumK_pos lv _ h0
      omega
    · have := sumK_ge (lv := lv) h0 ho
      have := h a List.mem_cons_self
      split <;> omega
where
  sumK_pos (lv : Nat) (k : Int) : ∀ {l : List Od}, (∀ a ∈ l, 0 ≤ wOf a) → 0 ≤ sumK lv k l
    | [], _ => by simp [sumK]
    | a :: r, h => by
      simp only [sumK]
      have := sumK_pos lv k (fun b hb => h b (List.mem_cons_of_mem _ hb))
      have := h a List.mem_cons_self
      split <;> omega
def some_ (cs : List (Option Od)) : Nat := (cs.filterMap id).length
theorem keys_nodup {lv : Nat} : ∀ {cs : List (Option Od)}, cs.Pairwise (Apart lv) → ((cs.filterMap id).map (keyN lv)).Nodup
  | [], _ => List.nodup_nil
  | none :: r, h => by
    show ((r.filterMap id).map (keyN lv)).Nodup
    exact keys_nodup (List.pairwise_cons.1 h).2
  | some o :: r, h => by
    have h1 := List.pairwise_cons.1 h
    show (keyN lv o :: ((r.filterMap id).map (keyN lv))).Nodup
    refine List.nodup_cons.2 ⟨fun hm => ?_, keys_nodup h1.2⟩
    obtain ⟨q, hq, e⟩ := List.mem_map.1 hm
    obtain ⟨b, hb, eb⟩ := List.mem_filterMap.1 hq
    exact h1.1 b hb o q rfl eb e.symm
theorem some_le_room {ep k m p d : Int} {l : List Od} {x want : Int} {lv n : Nat} (h : mayB ep k m p d l = true) : some_ (slots l x want lv n 0 []) ≤ room lv l := by
  have hl := may_asc h
  have hg := may_goodL h
  unfold some_ room
  have h1 := nodup_le (ys := ((group lv l).filter fun u => decide (0 < u.wt)).map (·.id)) (keys_nodup (slots_apart (x := x) (want := want) hl n 0 [])) (fun z hz => by
    obtain ⟨o, ho, rfl⟩ := List.mem_map.1 hz
    obtain ⟨b, hb, eb⟩ := List.mem_filterMap.1 ho
    have eb' : b = some o := eb
    subst eb'
    obtain ⟨hm, hw, _⟩ := slots_mem hl hb
    refine List.mem_map.2 ⟨⟨keyN lv o, sumK lv (keyN lv o) l⟩, List.mem_filter.2 ⟨(group_mem lv l _).2 ⟨⟨o, hm, rfl⟩, rfl⟩, decide_eq_true ?_⟩, rfl⟩
    have := sumK_ge (lv := lv) (fun a ha => (hg.wt a ha).1) hm
    show 0 < sumK lv (keyN lv o) l
    omega)
  simpa using h1
theorem sumK_some {lv : Nat} {k : Int} : ∀ {l : List Od}, 0 < sumK lv k l → (∀ a ∈ l, 0 ≤ wOf a) → ∃ o ∈ l, keyN lv o = k ∧ 0 < wOf o
  | [], h, _ => by simp [sumK] at h
  | a :: r, h, h0 => by
    by_cases hk : keyN lv a = k ∧ 0 < wOf a
    · exact ⟨a, List.mem_cons_self, hk⟩
    · have : 0 < sumK lv k r := by
        simp only [sumK] at h
        have := h0 a List.mem_cons_self
        split at h
        · rename_i e
          have : ¬ 0 < wOf a := fun hw => hk ⟨e, hw⟩
          omega
        · omega
      obtain ⟨o, ho, h1⟩ := sumK_some this (fun b hb => h0 b (List.mem_cons_of_mem _ hb))
      exact ⟨o, List.mem_cons_of_mem _ ho, h1⟩
theorem lvl_ok {x r : Int} {lv : Nat} {l : List Od} (hg : GoodL l) (h : ∃ o ∈ l, 0 < wOf o) : ∃ l', lvl x r lv l = some l' ∧ GoodL l' ∧ ∃ o ∈ l', 0 < wOf o := by
  obtain ⟨o, ho, hw⟩ := h
  have hne : lvl x r lv l ≠ none := by
    intro hn
    unfold lvl at hn
    split at hn
    · rename_i hp
      rcases pick_best (h2I x lv) r (group lv l) with ⟨_, ha⟩ | ⟨n, w, e, _⟩
      · have hm : (⟨keyN lv o, sumK lv (keyN lv o) l⟩ : Wd) ∈ group lv l := (group_mem lv l _).2 ⟨⟨o, ho, rfl⟩, rfl⟩
        obtain ⟨i, hi, e⟩ := List.mem_iff_getElem.1 hm
        have hf := ha i _ (by rw [List.getElem?_eq_getElem hi, e])
        have h1 := sumK_ge (lv := lv) (fun a ha => (hg.wt a ha).1) ho
        have h2 := (sumK_range (lv := lv) (k := keyN lv o) hg.wt).2
        have h3 := hg.len
        have : drB ⟨keyN lv o, sumK lv (keyN lv o) l⟩ = true := (drB_iff _).2 ⟨by show 1 ≤ sumK lv (keyN lv o) l; omega, by show sumK lv (keyN lv o) l ≤ 1073741824; omega⟩
        rw [this] at hf
        cases hf
      · rw [e] at hp
        omega
    · cases hn
  cases hl : lvl x r lv l with
  | none => exact absurd hl hne
  | some l' =>
    obtain ⟨v, hv, hd, rfl⟩ := lvl_some hl
    have h1 := ((group_mem lv l v).1 hv).2
    have h2 := ((drB_iff v).1 hd).1
    obtain ⟨q, hq, hk, hw2⟩ := sumK_some (lv := lv) (k := v.id) (l := l) (by omega) (fun a ha => (hg.wt a ha).1)
    exact ⟨_, rfl, hg.filter _, q, List.mem_filter.2 ⟨hq, decide_eq_true hk⟩, hw2⟩
theorem desc_ok {x r : Int} {l : List Od} (hg : GoodL l) (h : ∃ o ∈ l, 0 < wOf o) : ∃ o, desc x r l = some o := by
  obtain ⟨l1, e1, g1, h1⟩ := lvl_ok (x := x) (r := r) (lv := 1) hg h
  obtain ⟨l2, e2, g2, h2⟩ := lvl_ok (x := x) (r := r) (lv := 2) g1 h1
  obtain ⟨l3, e3, g3, o, ho, hw⟩ := lvl_ok (x := x) (r := r) (lv := 3) g2 h2
  unfold desc
  rw [e1, Option.bind_some, e2, Option.bind_some, e3, Option.bind_some]
  cases l3 with
  | nil => exact absurd ho List.not_mem_nil
  | cons a r => exact ⟨a, rfl⟩
theorem some_pos {ep k m p d : Int} {l : List Od} {x want : Int} {lv n : Nat} (h : mayB ep k m p d l = true) (hn : 1 ≤ n) (hr : room lv l ≠ 0) : 0 < some_ (slots l x want lv n 0 []) := by
  have hg := may_goodL h
  have hpos : 0 < ((group lv l).filter fun u => decide (0 < u.wt)).length := Nat.pos_of_ne_zero hr
  obtain ⟨v, hv⟩ := List.exists_mem_of_length_pos hpos
  have hv2 := List.mem_filter.1 hv
  have hw : 0 < v.wt := of_decide_eq_true hv2.2
  obtain ⟨q, hq, _, hwq⟩ := sumK_some (lv := lv) (k := v.id) (l := l) (by rw [← ((group_mem lv l v).1 hv2.1).2]; exact hw) (fun a ha => (hg.wt a ha).1)
  obtain ⟨o, ho⟩ := desc_ok (x := x) (r := ((0 : Nat) : Int) + ((0 : Nat) : Int) * want) hg ⟨q, hq, hwq⟩
  obtain ⟨n', rfl⟩ : ∃ n', n = n' + 1 := ⟨n - 1, by omega⟩
  have ht : tries l x want ((0 : Nat) : Int) lv [] 50 0 = some o := by
    simp only [tries, ho]
    rw [if_neg List.not_mem_nil]
  unfold some_
  simp only [slots]
  rw [ht]
  show 0 < (o :: ((slots l x want lv n' (0 + 1) (keyN lv o :: [])).filterMap id)).length
  simp
end Go.Proofs.Ytnpphmgibgfjoaa.ApP
namespace Go.Proofs.Ytnpphmgibgfjoaa.Fnd
open Go Go.RowKit Go.Proofs.YtnpphmgibgfjoaaW.PrintWords Go.Proofs.YtnpphmgibgfjoaaW.PrintLast Go.Proofs.YtnpphmgibgfjoaaW.PrintMore PAll AtA AtB Dsc MayP ApP
open CrP hiding Od
section
variable (ep k m p d id : Int) (l : List Od)
theorem place_l0 (hl : l.length ≤ 9223372036854775807) : ∀ r i : Nat, i + r = l.length → ∃ K z, mooringref13_place.l0 K id (i : Int) ep k m p d l = some z ∧ ((z = -1 ∧ (l.drop i).find? (fun o => o.f0 == id) = none) ∨ ∃ (j : Nat) (o : Od), z = j ∧ l[j]? = some o ∧ (l.drop i).find? (fun o => o.f0 == id) = some o)
  | 0, i, hi => ⟨1, -1, by rw [mooringref13_place.l0, if_neg (by omega)], .inl ⟨rfl, by rw [List.drop_eq_nil_of_le (by omega)]; rfl⟩⟩
  | r + 1, i, hi => by
    obtain ⟨K, z, hK, hz⟩ := place_l0 hl r (i + 1) (by omega)
    have h1 : i < l.length := by omega
    have ho : l[i]? = some l[i] := List.getElem?_eq_getElem h1
    have e : l.drop i = l[i] :: l.drop (i + 1) := List.drop_eq_getElem_cons h1
    by_cases hk : l[i].f0 = id
    · refine ⟨1, i, ?_, .inr ⟨i, l[i], rfl, ho, ?_⟩⟩
      · rw [mooringref13_place.l0, if_pos (by omega), if_pos (by omega), rd_at ho, if_pos hk]
      · rw [e, List.find?_cons, beq_iff_eq.2 hk]
    · refine ⟨K + 1, z, ?_, ?_⟩
      · rw [mooringref13_place.l0, if_pos (by omega), if_pos (by omega), rd_at ho, if_neg hk, w64 (by omega) (by omega)]
        exact hK
      · rw [e, List.find?_cons, beq_eq_false_iff_ne.2 hk]
        exact hz
theorem find_eq (hl : l.length ≤ 9223372036854775807) : ∃ K, mooringref13_Find.f K ep k m p d l id = some (match findO l id with | some o => (o.f0, o.f1, o.f2, o.f3, o.f4, o.f5, o.f6, o.f7, true) | none => (0, false, false, 0, 0, 0, 0, 0, false)) := by
  obtain ⟨K, z, hK, hz⟩ := place_l0 ep k m p d id l hl l.length 0 (by omega)
  refine ⟨K, ?_⟩
  unfold mooringref13_Find.f mooringref13_place.f findO
  rw [show ((0 : Nat) : Int) = 0 from rfl] at hK
  rw [hK, Option.bind_some]
  rw [List.drop_zero] at hz
  rcases hz with ⟨rfl, hn⟩ | ⟨j, o, rfl, ho, hf⟩
  · rw [if_pos (by decide), hn]
  · have := (List.getElem?_eq_some_iff.1 ho).1
    rw [if_neg (by omega), if_pos (by omega), if_pos (by omega), hf, rd_at ho]
end
theorem find_calls (ep k m p d : Int) (A : Option Addr) (c : Nat) (l : List Od) (id : Int) (w : World) (hx : kO.C w A l.length l) (hcap : l.length ≤ c) :
    Calls Try.prog 18 #[.agg (boxM ep k m p d A c l), .int .i64 id] w fun e w' => e = .returned (descV (findO l id)) ∧ Below w.heap.size w w' := by
  obtain ⟨K, hK⟩ := find_eq ep k m p d id l hx.2.1
  cases hf : findO l id with
  | none =>
    rw [hf] at hK
    refine (mooringref13_Find.calls K ep k m p d A c l id _ _ _ _ _ _ _ _ _ w hx hcap hK).mono ?_
    rintro e w1 ⟨rfl, hb⟩
    exact ⟨rfl, hb⟩
  | some o =>
    rw [hf] at hK
    refine (mooringref13_Find.calls K ep k m p d A c l id _ _ _ _ _ _ _ _ _ w hx hcap hK).mono ?_
    rintro e w1 ⟨rfl, hb⟩
    exact ⟨rfl, hb⟩
end Go.Proofs.Ytnpphmgibgfjoaa.Fnd
namespace Go.Proofs.Ytnpphmgibgfjoaa.PlF
open Go Go.RowKit Go.Proofs.YtnpphmgibgfjoaaW.PrintWords Go.Proofs.YtnpphmgibgfjoaaW.PrintMore Mem PAll KW MixP MixW StrP AtA Srt Grp Sl Dsc ApP
open CrP hiding Od
abbrev fv (q : Nat) : Value := .func (.func 92) #[] #[.pointer (some ⟨q, 0, none⟩)]
theorem tell_calls (q : Nat) (id : Int) (o : Od) (W : World) (hq : W.cell? ⟨q, 0, none⟩ = some (.int .i64 id)) :
    Calls Try.prog 92 #[.agg (aggO o), .pointer (some ⟨q, 0, none⟩)] W fun e w' => e = .returned (.bool (o.f0 == id)) ∧ Below W.heap.size W w' := by
  have HB := Lib.hid (below_alloc (Below.refl W.heap.size W) (.cells (aggO o) 40))
  have hq2 := cell_alloc hq (.cells (aggO o) 40)
  clear hq
  go_enter Try.func92, Try.ntmps92
  go_wp2_with fail
  go_ret
  exact ⟨rfl, HB.out⟩
set_option maxHeartbeats 1600000 in
theorem findI_calls (q : Nat) (id : Int) (A : Option Addr) (c : Nat) (l : List Od) (w : World) (hx : kO.C w A l.length l) (hq : w.cell? ⟨q, 0, none⟩ = some (.int .i64 id)) :
    Calls Try.prog 91 #[.slice A l.length c, fv q] w fun e w' => ∃ n : Int, e = .returned (.int .i64 n) ∧ FirstOf (fun o => o.f0 == id) l n ∧ Below w.heap.size w w' := by
  have HC := Lib.hid hx
  have HQ0 := Lib.hid hq
  have hm : l.length ≤ 9223372036854775807 := hx.2.1
  have HB0 := Lib.hid (Below.refl w.heap.size w)
  clear hx hq
  go_enter Try.func91, Try.ntmps91
  go_wp2_with fail
  go_loopw [8] (fun i' wr => ∃ (n : Nat), i' = .int .i64 n ∧ Hid (n ≤ l.length ∧ ∀ o ∈ l.take n, (o.f0 == id) = false) ∧ Hid (Below w.heap.size w wr)) (fun i' _ => (l.length - intOf i').toNat)
  case atStart => exact ⟨0, rfl, Lib.hid ⟨Nat.zero_le _, fun o ho => by rw [List.take_zero] at ho; exact absurd ho List.not_mem_nil⟩, HB0⟩
  case round =>
    obtain ⟨n, rfl, HN, HB⟩ := hrel
    have hn := HN.out.1
    by_cases h : n < l.length
    · have hlt : decide (n < l.length) = true := decide_eq_true h
      have i0 : (0 : Int) ≤ n := by omega
      obtain ⟨ad, o, ho, hA, a0, a1, a2, a3, a4, a5, a6, a7⟩ := at_O (Kd.C_below HC.out HB.out) n h
      subst hA
      have HQ := Lib.hid ho
      obtain ⟨lk, hlk⟩ : ∃ lk, lk = (o.f0 == id) := ⟨_, rfl⟩
      have T := Lib.hid (tell_calls q id o wr ((HB.out.cell (World.block_lt_of_cell? _ _ HQ0.out)).trans HQ0.out))
      rw [← hlk] at T
      have HLK := Lib.hid hlk
      clear ho hlk
      go_wp2_with fail
      refine T.out.mono ?_
      rintro e w1 ⟨rfl, hb⟩
      have HB1 := Lib.hid (below_then HB.out HB.out.size hb)
      clear hb T HB
      cases lk
      · go_wp2_with fail
        go_roundw
        case rel =>
          refine ⟨n + 1, by go_num, Lib.hid ⟨by omega, fun z hz => ?_⟩, HB1⟩
          rw [List.take_succ_eq_append_getElem h, (List.getElem?_eq_some_iff.1 HQ.out).2] at hz
          rcases List.mem_append.1 hz with hz | hz
          · exact HN.out.2 z hz
          · rw [List.mem_singleton.1 hz]; exact HLK.out.symm
        case measure => simp only [intOf]; omega
      · go_wp2_with fail
        go_ret
        exact ⟨n, rfl, .inr ⟨n, rfl, h, HN.out.2, o, HQ.out, HLK.out.symm⟩, HB1.out⟩
    · obtain rfl : n = l.length := by omega
      have hlt : decide (l.length < l.length) = false := decide_eq_false (by omega)
      go_wp2_with fail
      go_ret
      exact ⟨-1, rfl, .inl ⟨rfl, by have := HN.out.2; rwa [List.take_length] at this⟩, HB.out⟩
theorem first_find {l : List Od} {id n : Int} (h : FirstOf (fun o => o.f0 == id) l n) : (n = -1 ∧ findO l id = none) ∨ ∃ (i : Nat) (o : Od), n = i ∧ l[i]? = some o ∧ findO l id = some o := by
  rcases h with ⟨rfl, h⟩ | ⟨i, rfl, hi, hb, o, ho, hd⟩
  · exact .inl ⟨rfl, List.find?_eq_none.2 (fun o ho => by have := h o ho; simpa using this)⟩
  · refine .inr ⟨i, o, rfl, ho, ?_⟩
    have e : l = l.take i ++ (o :: l.drop (i + 1)) := by
      rw [← (List.getElem?_eq_some_iff.1 ho).2, ← List.drop_eq_getElem_cons hi, List.take_append_drop]
    unfold findO
    rw [e, List.find?_append, List.find?_eq_none.2 (fun z hz => by have := hb z hz; simpa using this), Option.none_or, List.find?_cons, show (o.f0 == id) = true from hd]
set_option maxHeartbeats 4000000 in
set_option maxRecDepth 100000 in
theorem aFind_calls (ep k m p d : Int) (A : Option Addr) (c : Nat) (l : List Od) (id : Int) (w : World) (hx : kO.C w A l.length l) :
    Calls Try.prog 66 #[.agg (boxM ep k m p d A c l), .int .i64 id] w fun e w' => e = .returned (descV (findO l id)) ∧ Below w.heap.size w w' := by
  have hs1 : (w.alloc (.cells (boxM ep k m p d A c l) 26)).heap.size = w.heap.size + 1 := by simp only [World.alloc, Array.size_push]
  have hs2 : ((w.alloc (.cells (boxM ep k m p d A c l) 26)).alloc (.cells #[.int .i64 id] 3)).heap.size = w.heap.size + 2 := by simp only [World.alloc, Array.size_push]
  have HM1 : Hid ((((w.alloc (.cells (boxM ep k m p d A c l) 26)).alloc (.cells #[.int .i64 id] 3)).alloc (.cells zeroA 40)).heap[w.heap.size]? = some (.cells (boxM ep k m p d A c l) 26 (0, 0))) := Lib.hid (blk_below (blk_new _ _) (below_alloc (below_alloc (Below.refl _ _) _) _))
  have HI1 : Hid ((((w.alloc (.cells (boxM ep k m p d A c l) 26)).alloc (.cells #[.int .i64 id] 3)).alloc (.cells zeroA 40)).heap[w.heap.size + 1]? = some (.cells #[.int .i64 id] 3 (0, 0))) := Lib.hid (by
    have h := blk_new (w.alloc (.cells (boxM ep k m p d A c l) 26)) (.cells #[.int .i64 id] 3)
    rw [hs1] at h
    exact blk_below h (below_alloc (Below.refl _ _) _))
  have HR1 : Hid ((((w.alloc (.cells (boxM ep k m p d A c l) 26)).alloc (.cells #[.int .i64 id] 3)).alloc (.cells zeroA 40)).heap[w.heap.size + 2]? = some (.cells zeroA 40 (0, 0))) := Lib.hid (by
    have h := blk_new ((w.alloc (.cells (boxM ep k m p d A c l) 26)).alloc (.cells #[.int .i64 id] 3)) (.cells zeroA 40)
    rw [hs2] at h
    exact h)
  have HB1 := Lib.hid (below_alloc (below_alloc (below_alloc (Below.refl w.heap.size w) (.cells (boxM ep k m p d A c l) 26)) (.cells #[.int .i64 id] 3)) (.cells zeroA 40))
  have HC1 := Lib.hid (Kd.C_below hx HB1.out)
  obtain ⟨w1, hw1⟩ : ∃ w1, w1 = ((w.alloc (.cells (boxM ep k m p d A c l) 26)).alloc (.cells #[.int .i64 id] 3)).alloc (.cells zeroA 40) := ⟨_, rfl⟩
  have HWN := Lib.hid hw1
  rw [← hw1] at HM1 HI1 HR1 HB1 HC1
  clear hx hw1 hs1 hs2
  unfold boxM at *
  unfold zeroA at HWN
  go_enter Try.func66, Try.ntmps66
  go_wp2_with fail
  rw [← HWN.out]
  refine (findI_calls (w.heap.size + 1) id A c l w1 HC1.out (blk_cell HI1.out 0)).mono ?_
  rintro e w2 ⟨n, rfl, hf, hb⟩
  have HB2 := Lib.hid (below_then HB1.out HB1.out.size hb)
  have HM2 := Lib.hid (blk_below HM1.out hb)
  have HR2 := Lib.hid (blk_below HR1.out hb)
  have HC2 := Lib.hid (Kd.C_below HC1.out hb)
  clear hb HB1 HM1 HI1 HR1 HC1 HWN
  have m5 := blk_cell HM2.out 5
  obtain ⟨y0, y1, y2, y3, y4, y5, y6, y7⟩ := blkO (o := ⟨0, false, false, 0, 0, 0, 0, 0⟩) HR2.out
  have f0 := blk_frozen HR2.out 0
  have f1 := blk_frozen HR2.out 1
  have f2 := blk_frozen HR2.out 2
  have f3 := blk_frozen HR2.out 3
  have f4 := blk_frozen HR2.out 4
  have f5 := blk_frozen HR2.out 5
  have f6 := blk_frozen HR2.out 6
  have f7 := blk_frozen HR2.out 7
  rcases first_find hf with ⟨rfl, hn⟩ | ⟨i, o, rfl, ho, hfo⟩
  · have HFO := Lib.hid hn
    clear hf hn
    have HF := Lib.hid (put8_blk (q := ⟨0, false, false, 0, 0, 0, 0, 0⟩) HR2.out ⟨0, false, false, 0, 0, 0, 0, 0⟩)
    have HBF := Lib.hid (put8_below HB2.out (show w.heap.size ≤ w.heap.size + 2 by omega) ⟨0, false, false, 0, 0, 0, 0, 0⟩)
    obtain ⟨wf, hwf⟩ : ∃ wf, wf = put8 w2 (w.heap.size + 2) ⟨0, false, false, 0, 0, 0, 0, 0⟩ := ⟨_, rfl⟩
    rw [← hwf] at HF HBF
    simp only [put8] at hwf
    go_wp2_with fail
    rw [← hwf]
    clear hwf
    clear y0 y1 y2 y3 y4 y5 y6 y7 f0 f1 f2 f3 f4 f5 f6 f7
    refine bodyPost_ret (results_ct rfl _ _ (w.heap.size + 2) 40 (aggO ⟨0, false, false, 0, 0, 0, 0, 0⟩) (0, 0) _ rfl HF.out Try.underlying40 rfl (by kernel_rfl)) rfl ?_
    refine ⟨?_, HBF.out⟩
    rw [HFO.out]
    rfl
  · have HFO := Lib.hid hfo
    have hi := (List.getElem?_eq_some_iff.1 ho).1
    have hd : decide ((i : Int) < 0) = false := decide_eq_false (by omega)
    have hlt : decide (i < l.length) = true := decide_eq_true hi
    have i0 : (0 : Int) ≤ i := by omega
    have i1 : (i : Int) < l.length := by omega
    obtain ⟨ad, o', ho', rfl, a0, a1, a2, a3, a4, a5, a6, a7⟩ := at_O HC2.out i hi
    obtain rfl : o = o' := Option.some.inj (ho.symm.trans ho')
    clear hf hfo ho ho' hi
    have HF := Lib.hid (put8_blk (q := ⟨0, false, false, 0, 0, 0, 0, 0⟩) HR2.out o)
    have HBF := Lib.hid (put8_below HB2.out (show w.heap.size ≤ w.heap.size + 2 by omega) o)
    obtain ⟨wf, hwf⟩ : ∃ wf, wf = put8 w2 (w.heap.size + 2) o := ⟨_, rfl⟩
    rw [← hwf] at HF HBF
    simp only [put8] at hwf
    go_wp2_with fail
    rw [← hwf]
    clear hwf
    clear y0 y1 y2 y3 y4 y5 y6 y7 f0 f1 f2 f3 f4 f5 f6 f7
    refine bodyPost_ret (results_ct rfl _ _ (w.heap.size + 2) 40 (aggO o) (0, 0) _ rfl HF.out Try.underlying40 rfl (by kernel_rfl)) rfl ?_
    refine ⟨?_, HBF.out⟩
    rw [HFO.out]
    rfl
end Go.Proofs.Ytnpphmgibgfjoaa.PlF
set_option linter.unusedSimpArgs false
namespace Go.Proofs.Ytnpphmgibgfjoaa.PlU
open Go Go.RowKit Go.Proofs.YtnpphmgibgfjoaaW.PrintWords Go.Proofs.YtnpphmgibgfjoaaW.PrintMore Go.Proofs.YtnpphmgibgfjoaaW.PrintLast Mem PAll KW MixP MixW StrP StrW AtA Srt Grp Sl Dsc AtB Roo Cho MayP Awk ApP PlF
open CrP hiding Od
def upB (mb : Bool) (pg p : Int) : Bool := mb && (decide (0 ≤ pg) && decide (pg < p))
theorem pool_ranges {ep k m p d : Int} {l : List Od} (h : mayB ep k m p d l = true) : 1 ≤ k ∧ 1 ≤ m ∧ k + m ≤ 32 ∧ 1 ≤ p ∧ p ≤ 32 ∧ domB d = true := by
  unfold mayB poolB at h
  simp only [Bool.and_eq_true, decide_eq_true_eq] at h
  obtain ⟨_, ⟨h1, h2, h3, h4, h5, h6, h7⟩, _⟩ := h
  refine ⟨h1, h2, by omega, h5, h6, ?_⟩
  unfold winB at h7
  simp only [Bool.and_eq_true, decide_eq_true_eq] at h7
  unfold domB
  have : d = 0 ∨ d = 1 ∨ d = 2 := by omega
  rcases this with rfl | rfl | rfl <;> rfl
def pgX (pg : Int) : Int := h2I pg 1886351212
set_option maxHeartbeats 4000000 in
set_option maxRecDepth 100000 in
theorem Up_ok (ep k m p d : Int) (A : Option Addr) (c : Nat) (l : List Od) (pg : Int) (n : Nat) (w : World) (hx : kO.C w A l.length l) (hwf : WfL l) (hn : upB (mayB ep k m p d l) pg p = true) (hkm : k + m = n) :
    Calls Try.prog 34 #[.agg (boxM ep k m p d A c l), .int .i64 pg] w fun e w' => ∃ g, e = .returned (.tuple #[.slice (some ⟨g, 0, none⟩) n n, .int .i64 0]) ∧ w.heap.size ≤ g ∧ w'.heap[g]? = some (.cells (outA n (places l (pgX pg) n (domL d) n 0 [])) 3 (0, 0)) ∧ Below w.heap.size w w' := by
  have HB1 := Lib.hid (below_alloc (Below.refl w.heap.size w) (.cells (boxM ep k m p d A c l) 26))
  have HM1 : Hid ((w.alloc (.cells (boxM ep k m p d A c l) 26)).heap[w.heap.size]? = some (.cells (boxM ep k m p d A c l) 26 (0, 0))) := Lib.hid (blk_new _ _)
  have HC1 := Lib.hid (Kd.C_alloc hx (.cells (boxM ep k m p d A c l) 26))
  have T := Lib.hid (check_calls ep k m p d A c l _ HC1.out hwf)
  unfold upB at hn
  simp only [Bool.and_eq_true, decide_eq_true_eq] at hn
  obtain ⟨hm, h0, h1⟩ := hn
  have hr := pool_ranges hm
  have TC := Lib.hid (fun W h => Choose_ok ep k m p d A c l d (pgX pg) n W h hwf hm hr.2.2.2.2.2 (by omega) (by omega))
  rw [hm] at T
  have b0 : decide (pg < 0) = false := decide_eq_false (by omega)
  have b1 : decide (p ≤ pg) = false := decide_eq_false (by omega)
  have kw : IntKind.i64.wrap (k + m) = (n : Int) := by rw [hkm]; exact IntWalk.i64_in _ (by omega)
  have ku : IntKind.u32.wrap pg = pg := by rw [IntKind.wrap_u32]; omega
  clear hx hwf hm hr hkm h0 h1
  unfold boxM at *
  go_enter Try.func34, Try.ntmps34
  go_wp2_with fail
  refine T.out.mono ?_
  rintro e w1 ⟨rfl, hb⟩
  have HB2 := Lib.hid (below_then HB1.out HB1.out.size hb)
  have HM2 := Lib.hid (blk_below HM1.out hb)
  have HC2 := Lib.hid (Kd.C_below HC1.out hb)
  have m0 := blk_cell HM2.out 0
  have m1 := blk_cell HM2.out 1
  have m2 := blk_cell HM2.out 2
  have m3 := blk_cell HM2.out 3
  have m4 := blk_cell HM2.out 4
  have m5 := blk_cell HM2.out 5
  clear hb T HB1 HM1 HC1
  go_wp2_with fail
  have hB0 := Lib.hid (below_drew (Below.refl w1.heap.size w1))
  refine start_ (n := 20) (S := fun w' => Below w1.heap.size w1 w') (ds := [15]) #[false, false, false, false, false, false, false, false, false, false, false, false, false, false, false, false, false, false, false, false] (by kernel_rfl) rfl rfl hB0.out (fun hHeld => ?_)
  generalize w1.drew = wd at hB0 hHeld ⊢
  refine pure_ (i := 1) (N := some 21) (v := ?_) (a' := ?_) #[false, true, false, false, false, false, false, false, false, false, false, false, false, false, false, false, false, false, false, false] rfl rfl (by kernel_rfl) (fun _ _ _ h => h) (Or.inl ⟨by rfl, ?_⟩) ?_ ?_
  rotate_left
  · intro w'
    go_simp
    with_reducible rfl
  rotate_left
  · simp only [Act.put, List.setIfInBounds_toArray, List.set_cons_zero, List.set_cons_succ, i64_w, i32_w]
    rfl
  refine pure_ (i := 2) (N := some 22) (v := ?_) (a' := ?_) #[false, true, true, false, false, false, false, false, false, false, false, false, false, false, false, false, false, false, false, false] rfl rfl (by kernel_rfl) (fun _ _ _ h => h) (Or.inl ⟨by rfl, ?_⟩) ?_ ?_
  rotate_left
  · intro w'
    go_simp
    with_reducible rfl
  rotate_left
  · simp only [Act.put, List.setIfInBounds_toArray, List.set_cons_zero, List.set_cons_succ, i64_w, i32_w]
    rfl
  refine pure_ (i := 4) (N := some 24) (v := ?_) (a' := ?_) #[false, true, true, false, true, false, false, false, false, false, false, false, false, false, false, false, false, false, false, false] rfl rfl (by kernel_rfl) (fun _ _ _ h => h) (Or.inl ⟨by rfl, ?_⟩) ?_ ?_
  rotate_left
  · intro w'
    go_simp
    with_reducible rfl
  rotate_left
  · simp only [Act.put, List.setIfInBounds_toArray, List.set_cons_zero, List.set_cons_succ, i64_w, i32_w]
    rfl
  refine pure_ (i := 5) (N := some 25) (v := ?_) (a' := ?_) #[false, true, true, false, true, true, false, false, false, false, false, false, false, false, false, false, false, false, false, false] rfl rfl (by kernel_rfl) (fun _ _ _ h => h) (Or.inl ⟨by rfl, ?_⟩) ?_ ?_
  rotate_left
  · intro w'
    go_simp
    with_reducible rfl
  rotate_left
  · simp only [Act.put, List.setIfInBounds_toArray, List.set_cons_zero, List.set_cons_succ, i64_w, i32_w]
    rfl
  refine pure_ (i := 7) (N := some 27) (v := ?_) (a' := ?_) #[false, true, true, false, true, true, false, true, false, false, false, false, false, false, false, false, false, false, false, false] rfl rfl (by kernel_rfl) (fun _ _ _ h => h) (Or.inl ⟨by rfl, ?_⟩) ?_ ?_
  rotate_left
  · intro w'
    go_simp
    with_reducible rfl
  rotate_left
  · simp only [Act.put, List.setIfInBounds_toArray, List.set_cons_zero, List.set_cons_succ, i64_w, i32_w]
    rfl
  refine pure_ (i := 8) (N := some 28) (v := ?_) (a' := ?_) #[false, true, true, false, true, true, false, true, true, false, false, false, false, false, false, false, false, false, false, false] rfl rfl (by kernel_rfl) (fun _ _ _ h => h) (Or.inl ⟨by rfl, ?_⟩) ?_ ?_
  rotate_left
  · intro w'
    go_simp
    with_reducible rfl
  rotate_left
  · simp only [Act.put, List.setIfInBounds_toArray, List.set_cons_zero, List.set_cons_succ, i64_w, i32_w]
    rfl
  refine pure_ (i := 12) (N := some 32) (v := ?_) (a' := ?_) #[false, true, true, false, true, true, false, true, true, false, false, false, true, false, false, false, false, false, false, false] rfl rfl (by kernel_rfl) (fun _ _ _ h => h) (Or.inl ⟨by rfl, ?_⟩) ?_ ?_
  rotate_left
  · intro w'
    go_simp
    with_reducible rfl
  rotate_left
  · simp only [Act.put, List.setIfInBounds_toArray, List.set_cons_zero, List.set_cons_succ, i64_w, i32_w]
    rfl
  refine pure_ (i := 13) (N := some 33) (v := ?_) (a' := ?_) #[false, true, true, false, true, true, false, true, true, false, false, false, true, true, false, false, false, false, false, false] rfl rfl (by kernel_rfl) (fun _ _ _ h => h) (Or.inl ⟨by rfl, ?_⟩) ?_ ?_
  rotate_left
  · intro w'
    go_simp
    with_reducible rfl
  rotate_left
  · simp only [Act.put, List.setIfInBounds_toArray, List.set_cons_zero, List.set_cons_succ, i64_w, i32_w]
    rfl
  refine take_ (i := 0) (N := some 20) (v := ?_) (a' := ?_) #[true, true, true, false, true, true, false, true, true, false, false, false, true, true, false, false, false, false, false, false] rfl rfl (by kernel_rfl) (fun _ _ _ h => h) (Or.inl ⟨by rfl, ?_⟩) hHeld ?_ ?_
  rotate_left
  · rintro w' hS
    have y0 := (hS.cell (World.block_lt_of_cell? _ _ m0)).trans m0
    have y1 := (hS.cell (World.block_lt_of_cell? _ _ m1)).trans m1
    have y2 := (hS.cell (World.block_lt_of_cell? _ _ m2)).trans m2
    have y3 := (hS.cell (World.block_lt_of_cell? _ _ m3)).trans m3
    have y4 := (hS.cell (World.block_lt_of_cell? _ _ m4)).trans m4
    have y5 := (hS.cell (World.block_lt_of_cell? _ _ m5)).trans m5
    go_simp
    with_reducible rfl
  rotate_left
  · simp only [Act.put, List.setIfInBounds_toArray, List.set_cons_zero, List.set_cons_succ, i64_w, i32_w]
    rfl
  refine take_ (i := 3) (N := some 23) (v := ?_) (a' := ?_) #[true, true, true, true, true, true, false, true, true, false, false, false, true, true, false, false, false, false, false, false] rfl rfl (by kernel_rfl) (fun _ _ _ h => h) (Or.inl ⟨by rfl, ?_⟩) hHeld ?_ ?_
  rotate_left
  · rintro w' hS
    have y4 := (hS.cell (World.block_lt_of_cell? _ _ m4)).trans m4
    go_simp
    with_reducible rfl
  rotate_left
  · simp only [Act.put, List.setIfInBounds_toArray, List.set_cons_zero, List.set_cons_succ, i64_w, i32_w]
    rfl
  refine take_ (i := 6) (N := some 26) (v := ?_) (a' := ?_) #[true, true, true, true, true, true, true, true, true, false, false, false, true, true, false, false, false, false, false, false] rfl rfl (by kernel_rfl) (fun _ _ _ h => h) (Or.inl ⟨by rfl, ?_⟩) hHeld ?_ ?_
  rotate_left
  · rintro w' hS
    have y1 := (hS.cell (World.block_lt_of_cell? _ _ m1)).trans m1
    go_simp
    with_reducible rfl
  rotate_left
  · simp only [Act.put, List.setIfInBounds_toArray, List.set_cons_zero, List.set_cons_succ, i64_w, i32_w]
    rfl
  refine take_ (i := 9) (N := some 29) (v := ?_) (a' := ?_) #[true, true, true, true, true, true, true, true, true, true, false, false, true, true, false, false, false, false, false, false] rfl rfl (by kernel_rfl) (fun _ _ _ h => h) (Or.inl ⟨by rfl, ?_⟩) hHeld ?_ ?_
  rotate_left
  · rintro w' hS
    have y2 := (hS.cell (World.block_lt_of_cell? _ _ m2)).trans m2
    go_simp
    with_reducible rfl
  rotate_left
  · simp only [Act.put, List.setIfInBounds_toArray, List.set_cons_zero, List.set_cons_succ, i64_w, i32_w]
    rfl
  refine pure_ (i := 10) (N := some 30) (v := ?_) (a' := ?_) #[true, true, true, true, true, true, true, true, true, true, true, false, true, true, false, false, false, false, false, false] rfl rfl (by kernel_rfl) (fun _ _ _ h => h) (Or.inl ⟨by rfl, ?_⟩) ?_ ?_
  rotate_left
  · intro w'
    go_simp
    with_reducible rfl
  rotate_left
  · simp only [Act.put, List.setIfInBounds_toArray, List.set_cons_zero, List.set_cons_succ, i64_w, i32_w]
    rfl
  refine pure_ (i := 11) (N := some 31) (v := ?_) (a' := ?_) #[true, true, true, true, true, true, true, true, true, true, true, true, true, true, false, false, false, false, false, false] rfl rfl (by kernel_rfl) (fun _ _ _ h => h) (Or.inl ⟨by rfl, ?_⟩) ?_ ?_
  rotate_left
  · intro w'
    go_simp
    with_reducible rfl
  rotate_left
  · simp only [Act.put, List.setIfInBounds_toArray, List.set_cons_zero, List.set_cons_succ, i64_w, i32_w]
    rfl
  refine one_ (i := 14) (N := some 34) #[true, true, true, true, true, true, true, true, true, true, true, true, true, true, true, false, false, false, false, false] rfl rfl (by kernel_rfl) (by decide) (fun K hK => ?_)
  refine goes_ Try.func65 (by kernel_rfl) rfl #[.int .u32 pg, .int .u32 1886351212] (by rfl) rfl rfl (by (try simp only [List.map_toArray, List.map_cons, List.map_nil]); first | done | rfl | (go_simp; done) | (go_simp; rfl)) ?_
  refine (hash2_calls _ _ _).mono ?_
  rintro e w34 ⟨rfl, rfl⟩
  refine ⟨_, rfl, ?_⟩
  refine hK.out _ _ hB0.out (fun hHeld => ?_)
  clear hK K
  refine norm_ (a' := ?_) ?_ ?_
  rotate_left
  · show Act.put _ (some 34) _ = _
    simp only [Act.put, List.setIfInBounds_toArray, List.set_cons_zero, List.set_cons_succ, i64_w, i32_w]
    rfl
  refine last_ (i := 15) (N := some 35) #[true, true, true, true, true, true, true, true, true, true, true, true, true, true, true, true, false, false, false, false] rfl rfl (by kernel_rfl) (by decide) (fun K hK => ?_)
  refine goes_ Try.func15 (by kernel_rfl) rfl #[.agg #[.int .i64 ep, .int .i64 k, .int .i64 m, .int .i64 p, .int .i64 d, .slice A l.length c], .agg #[.int .i64 d, .int .i64 n], .int .u32 (pgX pg)] (by rfl) rfl rfl (by (try simp only [List.map_toArray, List.map_cons, List.map_nil]); first | done | rfl | (go_simp; done) | (go_simp; rfl)) ?_
  refine (TC.out _ (Kd.C_below HC2.out hB0.out)).mono ?_
  rintro e w35 ⟨g, rfl, hg, hh, hb⟩
  refine ⟨_, rfl, ?_⟩
  have HB3 := Lib.hid (below_then HB2.out HB2.out.size (below_then hB0.out hB0.out.size hb))
  have HH := Lib.hid hh
  have HG := Lib.hid (Nat.le_trans HB2.out.size (Nat.le_trans hB0.out.size hg))
  clear hb hh hg hB0
  refine hK.out _ _ ?_
  clear hK K
  refine norm_ (a' := ?_) ?_ ?_
  rotate_left
  · show Act.put _ (some 35) _ = _
    simp only [Act.put, List.setIfInBounds_toArray, List.set_cons_zero, List.set_cons_succ, i64_w, i32_w]
    rfl
  refine pure_ (i := 16) (N := some 36) (v := ?_) (a' := ?_) #[true, true, true, true, true, true, true, true, true, true, true, true, true, true, true, true, true, false, false, false] rfl rfl (by kernel_rfl) (fun _ _ _ h => h) (Or.inl ⟨by rfl, ?_⟩) ?_ ?_
  rotate_left
  · intro w'
    go_simp
    with_reducible rfl
  rotate_left
  · simp only [Act.put, List.setIfInBounds_toArray, List.set_cons_zero, List.set_cons_succ, i64_w, i32_w]
    rfl
  refine pure_ (i := 17) (N := some 37) (v := ?_) (a' := ?_) #[true, true, true, true, true, true, true, true, true, true, true, true, true, true, true, true, true, true, false, false] rfl rfl (by kernel_rfl) (fun _ _ _ h => h) (Or.inl ⟨by rfl, ?_⟩) ?_ ?_
  rotate_left
  · intro w'
    go_simp
    with_reducible rfl
  rotate_left
  · simp only [Act.put, List.setIfInBounds_toArray, List.set_cons_zero, List.set_cons_succ, i64_w, i32_w]
    rfl
  refine pure_ (i := 18) (N := some 4) (v := ?_) (a' := ?_) #[true, true, true, true, true, true, true, true, true, true, true, true, true, true, true, true, true, true, true, false] rfl rfl (by kernel_rfl) (fun _ _ _ h => h) (Or.inl ⟨by rfl, ?_⟩) ?_ ?_
  rotate_left
  · intro w'
    go_simp
    with_reducible rfl
  rotate_left
  · simp only [Act.put, List.setIfInBounds_toArray, List.set_cons_zero, List.set_cons_succ, i64_w, i32_w]
    rfl
  refine pure_ (i := 19) (N := some 5) (v := ?_) (a' := ?_) #[true, true, true, true, true, true, true, true, true, true, true, true, true, true, true, true, true, true, true, true] rfl rfl (by kernel_rfl) (fun _ _ _ h => h) (Or.inl ⟨by rfl, ?_⟩) ?_ ?_
  rotate_left
  · intro w'
    go_simp
    with_reducible rfl
  rotate_left
  · simp only [Act.put, List.setIfInBounds_toArray, List.set_cons_zero, List.set_cons_succ, i64_w, i32_w]
    rfl
  refine done_ (by kernel_rfl) ?_
  go_wp2_with fail
  go_ret2
  exact ⟨g, rfl, HG.out, HH.out, HB3.out⟩
end Go.Proofs.Ytnpphmgibgfjoaa.PlU
namespace Go.Proofs.Ytnpphmgibgfjoaa.Rds
open Go Go.RowKit Go.Proofs.YtnpphmgibgfjoaaW.PrintWords Go.Proofs.YtnpphmgibgfjoaaW.PrintMore Mem PAll KW MixP MixW StrP StrW AtA Srt Grp Sl Dsc AtB Roo Rep Cho MayP Awk
open CrP hiding Od
theorem key_calls (lv : Nat) (hl : lv = 1 ∨ lv = 2 ∨ lv = 3) (o : Od) (w : World) : Calls Try.prog 44 #[.agg (aggO o), .int .i64 lv] w fun e w' => e = .returned (.int .i64 (keyN lv o)) ∧ Below w.heap.size w w' := by
  refine (mooringref17_key.calls o.f0 o.f1 o.f2 o.f3 o.f4 o.f5 o.f6 o.f7 lv (keyN lv o) w ?_).mono ?_
  · unfold mooringref17_key.f keyN
    rcases hl with rfl | rfl | rfl <;> rfl
  · rintro e w1 ⟨rfl, hb⟩
    exact ⟨rfl, hb⟩
def Weighs : Prop := ∀ (lv : Nat) (A : Option Addr) (c : Nat) (l : List Od) (w : World), (lv = 1 ∨ lv = 2 ∨ lv = 3) → kO.C w A l.length l → GoodL l →
    Calls Try.prog 47 #[.slice A l.length c, .int .i64 lv] w fun e w' => ∃ v, e = .returned v ∧ kW.R 83 w' w.heap.size (fun _ => True) v (group lv l) ∧ Below w.heap.size w w'
set_option maxHeartbeats 4000000 in
set_option maxRecDepth 100000 in
theorem rdescend_calls (HWE : Weighs) (A : Option Addr) (c : Nat) (l : List Od) (x r : Int) (w : World) (hx : kO.C w A l.length l) (hg : GoodL l) :
    Calls Try.prog 43 #[.slice A l.length c, .int .u32 x, .int .u32 r] w fun e w' => e = .returned (descV (desc x r l)) ∧ Below w.heap.size w w' := by
  have HC := Lib.hid hx
  have HG := Lib.hid hg
  have HW := Lib.hid HWE
  have HB0 := Lib.hid (below_alloc (Below.refl w.heap.size w) (.cells zeroA 40))
  clear hx hg HWE
  go_enter Try.func43, Try.ntmps43
  go_wp2_with fail
  go_loopw [0, 8] (fun l0' i' wr => ∃ (n : Nat) (A' : Option Addr) (c' : Nat) (l' : List Od), l0' = .slice A' l'.length c' ∧ i' = .int .i64 ((n : Int) + 1) ∧ Hid (n ≤ 3) ∧ Hid (lvls x r n l = some l') ∧ Hid (GoodL l') ∧ Hid (kO.C wr A' l'.length l') ∧ Hid (wr.heap[w.heap.size]? = some (.cells (aggO ⟨0, false, false, 0, 0, 0, 0, 0⟩) 40 (0, 0))) ∧ Hid (Below w.heap.size w wr)) (fun _ i' _ => (4 - intOf i').toNat)
  case atStart => exact ⟨0, A, c, l, rfl, rfl, Lib.hid (by omega), Lib.hid rfl, HG, Lib.hid (Kd.C_alloc HC.out _), Lib.hid (blk_new _ _), HB0⟩
  case round =>
    obtain ⟨n, A', c', l', rfl, rfl, HN, HLV, HG', HC', HRB, HB⟩ := hrel
    clear HC HG HB0
    have hn := HN.out
    obtain ⟨wo, hwo⟩ : ∃ wo, wo = wr := ⟨_, rfl⟩
    rw [← hwo] at HC' HRB HB ⊢
    clear hwo
    by_cases h : n < 3
    · have hlt : decide ((n : Int) + 1 ≤ 3) = true := decide_eq_true (by omega)
      have hlv : n + 1 = 1 ∨ n + 1 = 2 ∨ n + 1 = 3 := by omega
      have HLV3 := Lib.hid hlv
      have hn3 : Hid (n < 3) := Lib.hid h
      have ku : IntKind.u32.wrap ((n : Int) + 1) = (n : Int) + 1 := by
        have h1 : (n : Int) + 1 = 1 ∨ (n : Int) + 1 = 2 ∨ (n : Int) + 1 = 3 := by omega
        rcases h1 with h | h | h <;> rw [h] <;> rfl
      have T := HW.out (n + 1) A' c' l' wo hlv HC'.out HG'.out
      rw [show (((n + 1 : Nat)) : Int) = (n : Int) + 1 from by omega] at T
      have HT := Lib.hid T
      have HLEN := Lib.hid HG'.out.len
      clear T hlv h
      go_wp2_with fail
      refine HT.out.mono ?_
      rintro e w2 ⟨v, rfl, hR, hb⟩
      obtain ⟨GA, gc, rfl⟩ := Kd.R_slice hR
      have HGC := Lib.hid (Kd.R_reads' hR).2.2
      have HB2 := Lib.hid (below_then HB.out HB.out.size hb)
      have HC2 := Lib.hid (Kd.C_below HC'.out hb)
      have HRB2 := Lib.hid (blk_below HRB.out hb)
      clear hR hb HT HC' HRB HB
      obtain ⟨G, hG⟩ : ∃ G, G = group (n + 1) l' := ⟨_, rfl⟩
      rw [← hG] at HGC ⊢
      have HGE := Lib.hid hG
      clear hG
      go_wp2_with fail
      refine (rhash2_calls _ _ _).mono ?_
      rintro e w3 ⟨rfl, rfl⟩
      go_wp2_with fail
      refine (rchoose_calls GA gc G _ _ _ HGC.out).mono ?_
      rintro e w3 ⟨rfl, hb⟩
      have HB3 := Lib.hid (below_then HB2.out HB2.out.size hb)
      have HC3 := Lib.hid (Kd.C_below HC2.out hb)
      have HGC3 := Lib.hid (Kd.C_below HGC.out hb)
      have HRB3 := Lib.hid (blk_below HRB2.out hb)
      clear hb HB2 HC2 HGC HRB2
      obtain ⟨pv, hpv⟩ : ∃ pv, pv = pick (h2I x ((n : Int) + 1)) r G := ⟨_, rfl⟩
      have HBE := Lib.hid (pick_best (h2I x ((n : Int) + 1)) r G)
      rw [← hpv] at HBE ⊢
      have HPV := Lib.hid hpv
      clear hpv
      by_cases hneg : pv < 0
      · have hd : decide (pv < 0) = true := decide_eq_true hneg
        have HNE := Lib.hid hneg
        obtain ⟨y0, y1, y2, y3, y4, y5, y6, y7⟩ := blkO (o := ⟨0, false, false, 0, 0, 0, 0, 0⟩) HRB3.out
        have f0 := blk_frozen HRB3.out 0
        have f1 := blk_frozen HRB3.out 1
        have f2 := blk_frozen HRB3.out 2
        have f3 := blk_frozen HRB3.out 3
        have f4 := blk_frozen HRB3.out 4
        have f5 := blk_frozen HRB3.out 5
        have f6 := blk_frozen HRB3.out 6
        have f7 := blk_frozen HRB3.out 7
        clear hneg
        have HF := Lib.hid (put8_blk HRB3.out ⟨0, false, false, 0, 0, 0, 0, 0⟩)
        have HBF := Lib.hid (put8_below HB3.out (Nat.le_refl _) ⟨0, false, false, 0, 0, 0, 0, 0⟩)
        obtain ⟨wf, hwf⟩ : ∃ wf, wf = put8 w3 w.heap.size ⟨0, false, false, 0, 0, 0, 0, 0⟩ := ⟨_, rfl⟩
        rw [← hwf] at HF HBF
        simp only [put8] at hwf
        go_wp2_with fail
        rw [← hwf]
        clear hwf
        clear y0 y1 y2 y3 y4 y5 y6 y7 f0 f1 f2 f3 f4 f5 f6 f7
        refine bodyPost_ret (results_ct rfl _ _ w.heap.size 40 (aggO ⟨0, false, false, 0, 0, 0, 0, 0⟩) (0, 0) _ rfl HF.out Try.underlying40 rfl (by kernel_rfl)) rfl ?_
        refine ⟨?_, HBF.out⟩
        rw [desc_lvls, lvls_none HLV.out (by unfold lvl; rw [← HGE.out, if_pos]; rw [show (((n + 1 : Nat)) : Int) = (n : Int) + 1 from by omega, ← HPV.out]; exact HNE.out) hn3.out]
        rfl
      · have hd : decide (pv < 0) = false := decide_eq_false hneg
        have HNE := Lib.hid hneg
        obtain ⟨i, hi⟩ := Int.eq_ofNat_of_zero_le (show 0 ≤ pv by omega)
        subst hi
        have hig : i < G.length := by have := best_range HBE.out; omega
        obtain ⟨vv, hvv⟩ : ∃ vv, G[i]? = some vv := ⟨G[i], List.getElem?_eq_getElem hig⟩
        have HVV := Lib.hid hvv
        have HIG := Lib.hid hig
        have HB4 := Lib.hid (below_alloc HB3.out (.cells #[] 40))
        have HC4 := Lib.hid (Kd.C_alloc HC3.out (.cells #[] 40))
        have HGC4 := Lib.hid (Kd.C_alloc HGC3.out (.cells #[] 40))
        have HRB4 := Lib.hid (blk_below HRB3.out (below_alloc (Below.refl _ _) (.cells #[] 40)))
        have HO4 : Hid (kO.R 40 (w3.alloc (.cells #[] 40)) w3.heap.size (fun _ => True) (.slice (some ⟨w3.heap.size, 0, none⟩) 0 0) []) := Lib.hid ⟨fun _ _ => trivial, OwnRow.lit w3 w3.heap.size (ps := []) (inner := []) (Reps.none _ _) (Nat.le_refl _) (Nat.zero_le _)⟩
        have HBB4 := Lib.hid (below_alloc (Below.refl w3.heap.size w3) (.cells #[] 40))
        clear hneg hvv hig
        go_wp2_with fail
        go_loopw [11, 12] (fun v11 i' wr => ∃ j : Nat, i' = .int .i64 j ∧ Hid (j ≤ l'.length) ∧ Hid (kO.R 40 wr w3.heap.size (fun _ => True) v11 ((l'.take j).filter fun o => decide (keyN (n + 1) o = vv.id))) ∧ Hid (Below w3.heap.size w3 wr)) (fun _ i' _ => (l'.length - intOf i').toNat)
        case atStart => exact ⟨0, rfl, Lib.hid (Nat.zero_le _), HO4, HBB4⟩
        case round =>
          obtain ⟨j, rfl, HJ, HO, HBJ⟩ := hrel
          clear HO4 HBB4
          have hj := HJ.out
          have hlen := HLEN.out
          by_cases h : j < l'.length
          · have hlt2 : decide (j < l'.length) = true := decide_eq_true h
            have j0 : (0 : Int) ≤ j := by omega
            have j1 : (j : Int) < l'.length := by omega
            obtain ⟨ad, o, ho, hA, a0, a1, a2, a3, a4, a5, a6, a7⟩ := at_O (Kd.C_below HC3.out HBJ.out) j h
            obtain ⟨gd, u, hu, hGA, g0, _⟩ := at_W (Kd.C_below HGC3.out HBJ.out) i HIG.out
            obtain rfl : vv = u := Option.some.inj (HVV.out.symm.trans hu)
            subst hA hGA
            have HQ := Lib.hid ho
            have i0 : (0 : Int) ≤ i := by omega
            have i1 : (i : Int) < G.length := by have := HIG.out; omega
            have hli : decide (i < G.length) = true := decide_eq_true HIG.out
            obtain ⟨ko, hko⟩ : ∃ ko, ko = keyN (n + 1) o := ⟨_, rfl⟩
            have T : Hid (∀ dd os, Calls Try.prog 44 #[.agg (aggO o), .int .i64 ((n : Int) + 1)] (Sort.grow (redrawn wr dd) os) fun e w' => e = .returned (.int .i64 ko) ∧ Below (Sort.grow (redrawn wr dd) os).heap.size (Sort.grow (redrawn wr dd) os) w') := Lib.hid (fun dd os => by rw [hko, ← show (((n + 1 : Nat)) : Int) = (n : Int) + 1 from by omega]; exact key_calls (n + 1) HLV3.out o _)
            have HKO := Lib.hid hko
            have HTK : Hid (l'.take (j + 1) = l'.take j ++ [o]) := Lib.hid (by rw [List.take_succ_eq_append_getElem h, (List.getElem?_eq_some_iff.1 ho).2])
            have z0 := cell_regrown a0
            have z1 := cell_regrown a1
            have z2 := cell_regrown a2
            have z3 := cell_regrown a3
            have z4 := cell_regrown a4
            have z5 := cell_regrown a5
            have z6 := cell_regrown a6
            have z7 := cell_regrown a7
            have zg := cell_regrown g0
            clear ho hu hko a0 a1 a2 a3 a4 a5 a6 a7 g0 h
            cases hk : (ko == vv.id) with
            | false =>
              have HF : Hid (((l'.take (j + 1)).filter fun o => decide (keyN (n + 1) o = vv.id)) = ((l'.take j).filter fun o => decide (keyN (n + 1) o = vv.id))) := Lib.hid (by
                rw [HTK.out, List.filter_append]
                have : decide (keyN (n + 1) o = vv.id) = false := by rw [← HKO.out]; exact decide_eq_false (beq_eq_false_iff_ne.1 hk)
                simp [this])
              go_wp2_with fail
              refine wp_region_quiet_below (by kernel_rfl) (by kernel_rfl) ?_
              repeat (go_big_quiet_step ((go_at_call 44; exact Calls.regrown_of (T.out _ _))))
              refine wpQuiet_nil ?_
              intro _ hw'
              obtain ⟨⟨dq, osq⟩, hw''⟩ := hw'
              subst hw''
              have HBJ5 := Lib.hid (below_then HBJ.out HBJ.out.size (below_regrown wr dq osq))
              have HO5 := Lib.hid (Kd.R_below HO.out (below_regrown wr dq osq))
              go_wp2_with fail
              go_roundw
              case rel => exact ⟨j + 1, by go_num, Lib.hid (by omega), Lib.hid (by rw [HF.out]; exact HO5.out), HBJ5⟩
              case measure => simp only [intOf]; omega
            | true =>
              have HF : Hid (((l'.take (j + 1)).filter fun o => decide (keyN (n + 1) o = vv.id)) = ((l'.take j).filter fun o => decide (keyN (n + 1) o = vv.id)) ++ [o]) := Lib.hid (by
                rw [HTK.out, List.filter_append]
                have : decide (keyN (n + 1) o = vv.id) = true := by rw [← HKO.out]; exact decide_eq_true (beq_iff_eq.1 hk)
                simp [this])
              have HLL : Hid (((l'.take j).filter fun o => decide (keyN (n + 1) o = vv.id)).length ≤ 64) := Lib.hid (Nat.le_trans (List.length_filter_le _ _) (by rw [List.length_take]; omega))
              go_wp2_with fail
              refine wp_region_quiet_below (by kernel_rfl) (by kernel_rfl) ?_
              repeat (go_big_quiet_step ((go_at_call 44; exact Calls.regrown_of (T.out _ _))))
              refine wpQuiet_nil ?_
              intro _ hw'
              obtain ⟨⟨dq, osq⟩, hw''⟩ := hw'
              subst hw''
              have HBJ5 := Lib.hid (below_then HBJ.out HBJ.out.size (below_regrown wr dq osq))
              have HO5 := Lib.hid (Kd.R_below HO.out (below_regrown wr dq osq))
              have b0 := z0 dq osq
              have b1 := z1 dq osq
              have b2 := z2 dq osq
              have b3 := z3 dq osq
              have b4 := z4 dq osq
              have b5 := z5 dq osq
              have b6 := z6 dq osq
              have b7 := z7 dq osq
              obtain ⟨w5, hw5⟩ : ∃ w5, w5 = Sort.grow (redrawn wr dq) osq := ⟨_, rfl⟩
              rw [← hw5] at HBJ5 HO5 b0 b1 b2 b3 b4 b5 b6 b7 ⊢
              clear hw5 z0 z1 z2 z3 z4 z5 z6 z7 zg T HO HBJ
              go_wp2_with (first | (at_builtin; go_must (refine Kd.R_append kO (w0 := w3) w3.heap.size rfl _ _ 24 40 (.agg #[.int .i64 0, .bool false, .bool false, .int .i64 0, .int .i64 0, .int .i64 0, .int .i64 0, .int .i64 0]) 56 rfl Try.underlying24 infoO rfl (by decide) (by decide) _ _ o [.int .i64 o.f0, .bool o.f1, .bool o.f2, .int .i64 o.f3, .int .i64 o.f4, .int .i64 o.f5, .int .i64 o.f6, .int .i64 o.f7] (fun _ => True) (fun _ => False) rfl rfl (k40_mkM _ _ _ o) (fun _ hk => hk.elim) (fun _ _ => trivial) (by exact HO5.out) (by exact HBJ5.out) (by exact HBJ5.out.size) ?hl ?_; (case hl => exact Nat.le_trans (Nat.mul_le_mul_right 56 (Nat.succ_le_succ HLL.out)) (by decide)); intro v2 w6 ho hb hg hg2; have HO6 := Lib.hid ho; have HBJ6 := Lib.hid hb; clear ho hb hg hg2 HO5 HBJ5 b0 b1 b2 b3 b4 b5 b6 b7)))
              go_roundw
              case rel => exact ⟨j + 1, by go_num, Lib.hid (by omega), Lib.hid (by rw [HF.out]; exact HO6.out), HBJ6⟩
              case measure => simp only [intOf]; omega
          · obtain rfl : j = l'.length := by omega
            have hlt2 : decide (l'.length < l'.length) = false := decide_eq_false (by omega)
            rw [List.take_length] at HO
            obtain ⟨A6, c6, hv6⟩ := Kd.R_slice HO.out
            subst hv6
            have HC6 := Lib.hid (Kd.R_reads' HO.out).2.2
            have HRB6 := Lib.hid (blk_below HRB3.out HBJ.out)
            have HB6 := Lib.hid (below_then HB3.out HB3.out.size HBJ.out)
            have HLN : Hid (lvls x r (n + 1) l = some (l'.filter fun o => decide (keyN (n + 1) o = vv.id))) := Lib.hid (by
              show (lvls x r n l).bind (lvl x r ((n + 1 : Nat))) = _
              rw [HLV.out]
              show lvl x r (n + 1) l' = _
              unfold lvl
              rw [← HGE.out, show (((n + 1 : Nat)) : Int) = (n : Int) + 1 from by omega, ← HPV.out, if_neg (by omega), show ((i : Nat) : Int).toNat = i from rfl, List.getD_eq_getElem?_getD, HVV.out]
              rfl)
            clear HO HBJ HB3 HC3 HGC3 HRB3 HB4 HC4 HGC4 HRB4
            go_wp2_with fail
            go_roundw
            case rel => exact ⟨n + 1, A6, c6, l'.filter fun o => decide (keyN (n + 1) o = vv.id), rfl, by go_num, Lib.hid (by have := hn3.out; omega), HLN, Lib.hid (HG'.out.filter _), HC6, HRB6, HB6⟩
            case measure => have := hn3.out; simp only [intOf]; omega
    · obtain rfl : n = 3 := by omega
      have hne := lvl_ne (lv := 3) (l := ((lvls x r 2 l).getD [])) (x := x) (r := r) (l' := l') (by
        have e := HLV.out
        cases h2 : lvls x r 2 l with
        | none => rw [show lvls x r 3 l = (lvls x r 2 l).bind (lvl x r 3) from rfl, h2] at e; cases e
        | some m => rw [show lvls x r 3 l = (lvls x r 2 l).bind (lvl x r 3) from rfl, h2] at e; exact e)
      have hpos : 0 < l'.length := List.length_pos_iff.2 hne
      have hlt : decide (((3 : Nat) : Int) + 1 ≤ 3) = false := decide_eq_false (by omega)
      have hlt2 : decide (0 < l'.length) = true := decide_eq_true hpos
      obtain ⟨ad, o, ho, rfl, a0, a1, a2, a3, a4, a5, a6, a7⟩ := at_O HC'.out 0 hpos
      have had : ad.add (0 * 8) = ad := by cases ad; rfl
      rw [had] at a0 a1 a2 a3 a4 a5 a6 a7
      have HO := Lib.hid ho
      obtain ⟨y0, y1, y2, y3, y4, y5, y6, y7⟩ := blkO (o := ⟨0, false, false, 0, 0, 0, 0, 0⟩) HRB.out
      have f0 := blk_frozen HRB.out 0
      have f1 := blk_frozen HRB.out 1
      have f2 := blk_frozen HRB.out 2
      have f3 := blk_frozen HRB.out 3
      have f4 := blk_frozen HRB.out 4
      have f5 := blk_frozen HRB.out 5
      have f6 := blk_frozen HRB.out 6
      have f7 := blk_frozen HRB.out 7
      have HF := Lib.hid (put8_blk HRB.out o)
      have HBF := Lib.hid (put8_below HB.out (Nat.le_refl _) o)
      obtain ⟨wf, hwf⟩ : ∃ wf, wf = put8 wo w.heap.size o := ⟨_, rfl⟩
      rw [← hwf] at HF HBF
      simp only [put8] at hwf
      have HNN := Lib.hid hne
      clear hne ho h
      go_wp2_with fail
      rw [← hwf]
      clear hwf
      refine bodyPost_ret (results_ct rfl _ _ w.heap.size 40 (aggO o) (0, 0) _ rfl HF.out Try.underlying40 rfl (by kernel_rfl)) rfl ?_
      refine ⟨?_, HBF.out⟩
      rw [desc_lvls, HLV.out]
      show _ = Ending.returned (descV l'.head?)
      rw [List.head?_eq_getElem?, HO.out]
      rfl
theorem rDescend_calls (HWE : Weighs) (ep k m p d : Int) (A : Option Addr) (c : Nat) (l : List Od) (x r : Int) (w : World) (hx : kO.C w A l.length l) (hcap : l.length ≤ c) :
    Calls Try.prog 21 #[.agg (boxM ep k m p d A c l), .int .u32 x, .int .u32 r] w fun e w' => e = .returned (.int .i64 (descI (mayB ep k m p d l) x r l)) ∧ Below w.heap.size w w' := by
  have HC1 := Lib.hid (Kd.C_alloc hx (.cells (boxM ep k m p d A c l) 26))
  have HB1 := Lib.hid (below_alloc (Below.refl w.heap.size w) (.cells (boxM ep k m p d A c l) 26))
  have HM1 : Hid ((w.alloc (.cells (boxM ep k m p d A c l) 26)).heap[w.heap.size]? = some (.cells (boxM ep k m p d A c l) 26 (0, 0))) := Lib.hid (blk_new _ _)
  have T := Lib.hid (may_calls ep k m p d A c l (w.alloc (.cells (boxM ep k m p d A c l) 26)) HC1.out hcap)
  obtain ⟨mb, hmb⟩ : ∃ mb, mb = mayB ep k m p d l := ⟨_, rfl⟩
  rw [← hmb] at T ⊢
  have HGL : Hid (mb = true → GoodL l) := Lib.hid (fun h => may_goodL (hmb.symm.trans h))
  have HWX := Lib.hid HWE
  clear hx hcap hmb HWE
  unfold boxM at *
  go_enter Try.func21, Try.ntmps21
  go_wp2_with fail
  refine T.out.mono ?_
  rintro e w1 ⟨rfl, hb⟩
  have HC2 := Lib.hid (Kd.C_below HC1.out hb)
  have HB2 := Lib.hid (below_then HB1.out HB1.out.size hb)
  have HM2 := Lib.hid (blk_below HM1.out hb)
  clear hb T HC1 HB1 HM1
  cases mb with
  | false =>
    go_wp2_with fail
    go_ret
    exact ⟨rfl, HB2.out⟩
  | true =>
    have c5 := blk_cell HM2.out 5
    have T := Lib.hid (rdescend_calls HWX.out A c l x r w1 HC2.out (HGL.out rfl))
    have HDD : Hid (descI true x r l = match desc x r l with | some o => o.f0 | none => -1) := Lib.hid rfl
    go_wp2_with fail
    refine T.out.mono ?_
    rintro e w2 ⟨rfl, hb⟩
    have HB3 := Lib.hid (below_then HB2.out HB2.out.size hb)
    clear hb T
    cases hd : desc x r l with
    | none =>
      rw [hd] at HDD
      unfold descV zeroA
      clear hd
      have HB4 := Lib.hid (below_alloc HB3.out (.cells #[.int .i64 0, .bool false, .bool false, .int .i64 0, .int .i64 0, .int .i64 0, .int .i64 0, .int .i64 0] 40))
      go_wp2_with fail
      go_ret
      exact ⟨by rw [HDD.out]; rfl, HB4.out⟩
    | some o =>
      rw [hd] at HDD
      unfold descV
      clear hd
      have HB4 := Lib.hid (below_alloc HB3.out (.cells (aggO o) 40))
      go_wp2_with fail
      go_ret
      exact ⟨by rw [HDD.out]; rfl, HB4.out⟩
theorem domain_calls (d : Int) (w : World) : Calls Try.prog 45 #[.int .i64 d] w fun e w' => e = .returned (.int .i64 (domL d : Nat)) ∧ Below w.heap.size w w' := by
  have HB := Lib.hid (Below.refl w.heap.size w)
  unfold domL
  by_cases h0 : d = 0
  · subst h0
    go_enter Try.func45, Try.ntmps45
    go_wp2_with fail
    go_ret
    exact ⟨rfl, HB.out⟩
  · by_cases h1 : d = 1
    · subst h1
      go_enter Try.func45, Try.ntmps45
      go_wp2_with fail
      go_ret
      exact ⟨rfl, HB.out⟩
    · have b0 : (d == 0) = false := beq_eq_false_iff_ne.2 h0
      have b1 : (d == 1) = false := beq_eq_false_iff_ne.2 h1
      rw [if_neg h0, if_neg h1]
      clear h0 h1
      go_enter Try.func45, Try.ntmps45
      go_wp2_with fail
      go_ret
      exact ⟨rfl, HB.out⟩
set_option maxHeartbeats 4000000 in
set_option maxRecDepth 100000 in
theorem rRoom_calls (HWE : Weighs) (ep k m p d : Int) (A : Option Addr) (c : Nat) (l : List Od) (dm : Int) (w : World) (hx : kO.C w A l.length l) (hcap : l.length ≤ c) :
    Calls Try.prog 19 #[.agg (boxM ep k m p d A c l), .int .i64 dm] w fun e w' => e = .returned (.int .i64 (roomI (mayB ep k m p d l) dm l)) ∧ Below w.heap.size w w' := by
  have HC1 := Lib.hid (Kd.C_alloc hx (.cells (boxM ep k m p d A c l) 26))
  have HB1 := Lib.hid (below_alloc (Below.refl w.heap.size w) (.cells (boxM ep k m p d A c l) 26))
  have HM1 : Hid ((w.alloc (.cells (boxM ep k m p d A c l) 26)).heap[w.heap.size]? = some (.cells (boxM ep k m p d A c l) 26 (0, 0))) := Lib.hid (blk_new _ _)
  have T := Lib.hid (may_calls ep k m p d A c l (w.alloc (.cells (boxM ep k m p d A c l) 26)) HC1.out hcap)
  have HW := Lib.hid HWE
  obtain ⟨mb, hmb⟩ : ∃ mb, mb = mayB ep k m p d l := ⟨_, rfl⟩
  rw [← hmb] at T ⊢
  have HGL : Hid (mb = true → GoodL l) := Lib.hid (fun h => may_goodL (hmb.symm.trans h))
  clear hx hcap hmb HWE
  unfold boxM at *
  cases mb with
  | false =>
    go_enter Try.func19, Try.ntmps19
    go_wp2_with fail
    refine T.out.mono ?_
    rintro e w1 ⟨rfl, hb⟩
    have HB2 := Lib.hid (below_then HB1.out HB1.out.size hb)
    clear hb
    go_wp2_with fail
    go_ret
    exact ⟨rfl, HB2.out⟩
  | true =>
    by_cases h0 : dm < 0
    · have hd : decide (dm < 0) = true := decide_eq_true h0
      have HR : Hid (roomI true dm l = 0) := Lib.hid (by unfold roomI domB; rw [beq_eq_false_iff_ne.2 (show dm ≠ 0 by omega), beq_eq_false_iff_ne.2 (show dm ≠ 1 by omega), beq_eq_false_iff_ne.2 (show dm ≠ 2 by omega)]; rfl)
      rw [HR.out]
      clear h0
      go_enter Try.func19, Try.ntmps19
      go_wp2_with fail
      refine T.out.mono ?_
      rintro e w1 ⟨rfl, hb⟩
      have HB2 := Lib.hid (below_then HB1.out HB1.out.size hb)
      clear hb
      go_wp2_with fail
      go_ret
      exact ⟨rfl, HB2.out⟩
    · have hd : decide (dm < 0) = false := decide_eq_false h0
      by_cases h3 : 3 ≤ dm
      · have hd3 : decide (3 ≤ dm) = true := decide_eq_true h3
        have HR : Hid (roomI true dm l = 0) := Lib.hid (by unfold roomI domB; rw [beq_eq_false_iff_ne.2 (show dm ≠ 0 by omega), beq_eq_false_iff_ne.2 (show dm ≠ 1 by omega), beq_eq_false_iff_ne.2 (show dm ≠ 2 by omega)]; rfl)
        rw [HR.out]
        clear h0 h3
        go_enter Try.func19, Try.ntmps19
        go_wp2_with fail
        refine T.out.mono ?_
        rintro e w1 ⟨rfl, hb⟩
        have HB2 := Lib.hid (below_then HB1.out HB1.out.size hb)
        clear hb
        go_wp2_with fail
        go_ret
        exact ⟨rfl, HB2.out⟩
      · have hd3 : decide (3 ≤ dm) = false := decide_eq_false h3
        have HR : Hid (roomI true dm l = (room (domL dm) l : Nat)) := Lib.hid (by
          unfold roomI domB
          have h012 : dm = 0 ∨ dm = 1 ∨ dm = 2 := by omega
          rcases h012 with rfl | rfl | rfl <;> rfl)
        rw [HR.out]
        clear h0 h3
        go_enter Try.func19, Try.ntmps19
        go_wp2_with fail
        refine T.out.mono ?_
        rintro e w1 ⟨rfl, hb⟩
        have HB2 := Lib.hid (below_then HB1.out HB1.out.size hb)
        have HC2 := Lib.hid (Kd.C_below HC1.out hb)
        have HM2 := Lib.hid (blk_below HM1.out hb)
        clear hb T HC1 HB1 HM1
        have z5 := cell_regrown (blk_cell HM2.out 5)
        have TD : Hid (∀ dd os, Calls Try.prog 45 #[.int .i64 dm] (Sort.grow (redrawn w1 dd) os) fun e w' => e = .returned (.int .i64 (domL dm : Nat)) ∧ Below (Sort.grow (redrawn w1 dd) os).heap.size (Sort.grow (redrawn w1 dd) os) w') := Lib.hid (fun dd os => domain_calls dm _)
        go_wp2_with fail
        refine QT.wp_region_tail 4 (by kernel_rfl) (by kernel_rfl) ?_
        simp only [List.take_succ_cons, List.take_zero, List.drop_succ_cons, List.drop_zero]
        repeat (go_big_quiet_step ((go_at_call 45; exact Calls.regrown_of (TD.out _ _))))
        refine wpQuiet_nil ?_
        intro _ hw'
        obtain ⟨⟨dq, osq⟩, hw''⟩ := hw'
        subst hw''
        have HB3 := Lib.hid (below_then HB2.out HB2.out.size (below_regrown w1 dq osq))
        have HC3 := Lib.hid (Kd.C_below HC2.out (below_regrown w1 dq osq))
        obtain ⟨w2, hw2⟩ : ∃ w2, w2 = Sort.grow (redrawn w1 dq) osq := ⟨_, rfl⟩
        rw [← hw2] at HB3 HC3 ⊢
        clear hw2 z5 TD HB2 HC2 HM2
        have T := Lib.hid (HW.out (domL dm) A c l w2 (domL_any dm) HC3.out (HGL.out trivial))
        go_wp2_with fail
        refine T.out.mono ?_
        rintro e w3 ⟨v, rfl, hR, hb⟩
        obtain ⟨GA, gc, rfl⟩ := Kd.R_slice hR
        have HGC := Lib.hid (Kd.R_reads' hR).2.2
        have HB4 := Lib.hid (below_then HB3.out HB3.out.size hb)
        obtain ⟨G, hG⟩ : ∃ G, G = group (domL dm) l := ⟨_, rfl⟩
        rw [← hG] at HGC ⊢
        have HE : Hid (room (domL dm) l = (G.filter fun u => decide (0 < u.wt)).length) := Lib.hid (by rw [hG]; rfl)
        have hm : G.length ≤ 9223372036854775807 := HGC.out.2.1
        have HB5 := Lib.hid (Below.refl w3.heap.size w3)
        clear hG hR hb T HC3 HB3
        go_wp2_with fail
        go_loopw [5, 7] (fun c' i' wr => ∃ (i n : Nat), c' = .int .i64 n ∧ i' = .int .i64 i ∧ Hid (i ≤ G.length) ∧ Hid (n = ((G.take i).filter fun u => decide (0 < u.wt)).length ∧ n ≤ i) ∧ Hid (Below w3.heap.size w3 wr)) (fun _ i' _ => (G.length - intOf i').toNat)
        case atStart => exact ⟨0, 0, rfl, rfl, Lib.hid (Nat.zero_le _), Lib.hid ⟨rfl, Nat.le_refl _⟩, HB5⟩
        case round =>
          obtain ⟨i, n, rfl, rfl, HI, HN, HB⟩ := hrel
          clear HB5
          have hi := HI.out
          have hni := HN.out.2
          by_cases h : i < G.length
          · have hlt : decide (i < G.length) = true := decide_eq_true h
            have i0 : (0 : Int) ≤ i := by omega
            obtain ⟨ad, u, hu, rfl, a0, a1⟩ := at_W (Kd.C_below HGC.out HB.out) i h
            have HCS := Lib.hid (cnt_succ hu)
            have kw : IntKind.i64.wrap ((n : Int) + 1) = (n : Int) + 1 := IntWalk.i64_in _ (by omega)
            clear hu
            by_cases hw : 0 < u.wt
            · have HWT := Lib.hid hw
              have hd2 : decide (0 < u.wt) = true := decide_eq_true hw
              clear hw
              go_wp2_with fail
              go_roundw
              case rel => exact ⟨i + 1, n + 1, by go_num, by go_num, Lib.hid (by omega), Lib.hid ⟨by rw [HCS.out, if_pos HWT.out, HN.out.1], by omega⟩, HB⟩
              case measure => simp only [intOf]; omega
            · have HWT := Lib.hid hw
              have hd2 : decide (0 < u.wt) = false := decide_eq_false hw
              clear hw
              go_wp2_with fail
              go_roundw
              case rel => exact ⟨i + 1, n, rfl, by go_num, Lib.hid (by omega), Lib.hid ⟨by rw [HCS.out, if_neg HWT.out, HN.out.1]; rfl, by omega⟩, HB⟩
              case measure => simp only [intOf]; omega
          · obtain rfl : i = G.length := by omega
            have hlt : decide (G.length < G.length) = false := decide_eq_false (by omega)
            go_wp2_with fail
            go_ret
            have hnn := HN.out.1
            rw [List.take_length] at hnn
            refine ⟨?_, below_then HB4.out HB4.out.size HB.out⟩
            have e : ((room (domL dm) l : Nat) : Int) = (n : Int) := by rw [HE.out, hnn]
            show _ = Ending.returned (.int .i64 ((room (domL dm) l : Nat) : Int))
            rw [e]
            rfl
end Go.Proofs.Ytnpphmgibgfjoaa.Rds
namespace Go.Proofs.Ytnpphmgibgfjoaa.WghP
open Go.RowKit Go.Proofs.YtnpphmgibgfjoaaW.PrintWords KW MixP MixW StrP PAll CrP
def Less (g : List Wd) (k : Int) (a : Nat) : Prop := ∀ j u, j < a → g[j]? = some u → u.id < k
theorem Less.tail {u : Wd} {r : List Wd} {k : Int} {a : Nat} (h : Less (u :: r) k (a + 1)) : u.id < k ∧ Less r k a :=
  ⟨h 0 u (Nat.succ_pos _) rfl, fun j v hj hv => h (j + 1) v (by omega) (by simpa using hv)⟩
theorem ins_hit {k w : Int} : ∀ {g : List Wd} {a : Nat} {u : Wd}, Less g k a → g[a]? = some u → u.id = k → ins k w g = g.set a ⟨u.id, u.wt + w⟩
  | [], _, _, _, h, _ => by simp at h
  | v :: r, 0, u, _, h, e => by
    obtain rfl : v = u := by simpa using h
    simp only [ins]
    rw [if_neg (by omega), if_pos e]
    rfl
  | v :: r, a + 1, u, hl, h, e => by
    obtain ⟨h1, h2⟩ := hl.tail
    simp only [ins]
    rw [if_neg (by omega), if_neg (by omega), ins_hit h2 (by simpa using h) e]
    rfl
theorem ins_new {k w : Int} : ∀ {g : List Wd} {a : Nat}, Less g k a → a ≤ g.length → (∀ u, g[a]? = some u → k < u.id) → ins k w g = g.take a ++ ⟨k, w⟩ :: g.drop a
  | [], a, _, h, _ => by
    obtain rfl : a = 0 := by simpa using h
    rfl
  | v :: r, 0, _, _, hn => by
    have := hn v rfl
    simp only [ins]
    rw [if_pos this]
    rfl
  | v :: r, a + 1, hl, h, hn => by
    obtain ⟨h1, h2⟩ := hl.tail
    simp only [ins]
    rw [if_neg (by omega), if_neg (by omega), ins_new h2 (by simpa using h) (fun u hu => hn u (by simpa using hu))]
    rfl
structure Put (g g1 : List Wd) (k : Int) (a : Nat) (wt : Int) : Prop where
  at_ : g1[a]? = some ⟨k, wt⟩
  ins_ : ∀ w, ins k w g = g1.set a ⟨k, wt + w⟩
theorem Put.hit {g : List Wd} {k : Int} {a : Nat} {u : Wd} (hl : Less g k a) (hu : g[a]? = some u) (e : u.id = k) : Put g g k a u.wt :=
  ⟨by rw [hu, ← e], fun w => by rw [ins_hit hl hu e, e]⟩
theorem Put.new {g : List Wd} {k : Int} {a : Nat} (hl : Less g k a) (ha : a ≤ g.length) (hn : ∀ u, g[a]? = some u → k < u.id) : Put g (g.take a ++ [⟨k, 0⟩] ++ g.drop a) k a 0 := by
  have ht : (g.take a).length = a := by rw [List.length_take]; omega
  refine ⟨?_, fun w => ?_⟩
  · rw [List.append_assoc, List.getElem?_append_right (by omega), ht, Nat.sub_self]
    rfl
  · rw [ins_new hl ha hn, List.append_assoc, List.set_append_right _ _ (by omega), ht, Nat.sub_self, Int.zero_add]
    rfl
theorem Put.same {g g1 : List Wd} {k : Int} {a : Nat} {wt : Int} (h : Put g g1 k a wt) : ins k 0 g = g1 := by
  rw [h.ins_, Int.add_zero]
  apply List.ext_getElem?
  intro j
  rw [List.getElem?_set]
  by_cases e : a = j
  · subst e
    rw [if_pos rfl, h.at_, if_pos (List.getElem?_eq_some_iff.1 h.at_).1]
  · rw [if_neg e]
theorem ins_len (k w : Int) : ∀ g : List Wd, (ins k w g).length ≤ g.length + 1
  | [] => Nat.le_refl _
  | u :: r => by
    simp only [ins]
    split
    · simp
    · split
      · simp
      · have := ins_len k w r
        simp only [List.length_cons]
        omega
theorem groupF_len (lv : Nat) : ∀ (l : List Od) (g : List Wd), (groupF lv g l).length ≤ g.length + l.length
  | [], g => by simp [groupF]
  | o :: r, g => by
    have h1 := groupF_len lv r (ins (keyN lv o) (wOf o) g)
    have h2 := ins_len (keyN lv o) (wOf o) g
    show (groupF lv (ins (keyN lv o) (wOf o) g) r).length ≤ _
    simp only [List.length_cons]
    omega
theorem group_len (lv : Nat) (l : List Od) : (group lv l).length ≤ l.length := by
  have := groupF_len lv l []
  simpa [group] using this
theorem put_len {g : List Wd} {k : Int} {a : Nat} (ha : a ≤ g.length) : (g.take a ++ [(⟨k, 0⟩ : Wd)] ++ g.drop a).length = g.length + 1 := by
  simp only [List.length_append, List.length_take, List.length_drop, List.length_cons, List.length_nil]
  omega
end Go.Proofs.Ytnpphmgibgfjoaa.WghP
namespace Go.Proofs.Ytnpphmgibgfjoaa.Wgh
open Go Go.RowKit Go.Proofs.YtnpphmgibgfjoaaW.PrintWords Go.Proofs.YtnpphmgibgfjoaaW.PrintMore Go.Proofs.YtnpphmgibgfjoaaW.PrintLast Mem PAll KW MixP MixW StrP StrW AtA Srt Grp Sl Dsc AtB Roo Rep Cho MayP Awk Rds WghP
open CrP hiding Od
set_option linter.unusedSimpArgs false
set_option maxHeartbeats 8000000 in
set_option maxRecDepth 100000 in
theorem weighed_calls (lv : Nat) (A : Option Addr) (c : Nat) (l : List Od) (w : World) (hlv : lv = 1 ∨ lv = 2 ∨ lv = 3) (hx : kO.C w A l.length l) (hg : GoodL l) :
    Calls Try.prog 47 #[.slice A l.length c, .int .i64 lv] w fun e w' => ∃ v, e = .returned v ∧ kW.R 83 w' w.heap.size (fun _ => True) v (group lv l) ∧ Below w.heap.size w w' := by
  have HC := Lib.hid hx
  have HG := Lib.hid hg
  have HLV := Lib.hid hlv
  have hlen : l.length ≤ 64 := hg.len
  have HB0 := Lib.hid (below_alloc (Below.refl w.heap.size w) (.cells #[] 83))
  have HO0 : Hid (kW.R 83 (w.alloc (.cells #[] 83)) w.heap.size (fun _ => True) (.slice (some ⟨w.heap.size, 0, none⟩) 0 0) []) := Lib.hid ⟨fun _ _ => trivial, OwnRow.lit w w.heap.size (ps := []) (inner := []) (Reps.none _ _) (Nat.le_refl _) (Nat.zero_le _)⟩
  clear hlv hx hg
  go_enter Try.func47, Try.ntmps47
  go_wp2_with fail
  go_loopw [5, 6] (fun v5 i' wr => ∃ i : Nat, i' = .int .i64 i ∧ Hid (i ≤ l.length) ∧ Hid (kW.R 83 wr w.heap.size (fun _ => True) v5 (group lv (l.take i))) ∧ Hid (Below w.heap.size w wr)) (fun _ i' _ => (l.length - intOf i').toNat)
  case atStart => exact ⟨0, rfl, Lib.hid (Nat.zero_le _), HO0, HB0⟩
  case round =>
    obtain ⟨i, rfl, HI, HO, HB⟩ := hrel
    clear HO0 HB0
    have hi := HI.out
    obtain ⟨wo, hwo⟩ : ∃ wo, wo = wr := ⟨_, rfl⟩
    rw [← hwo] at HO HB ⊢
    clear hwo
    by_cases h : i < l.length
    · have hlt : decide (i < l.length) = true := decide_eq_true h
      have i0 : (0 : Int) ≤ i := by omega
      have i1 : (i : Int) < l.length := by omega
      obtain ⟨VA, vc, hv5⟩ := Kd.R_slice HO.out
      subst hv5
      obtain ⟨G, hG⟩ : ∃ G, G = group lv (l.take i) := ⟨_, rfl⟩
      rw [← hG] at HO ⊢
      have HGE := Lib.hid hG
      obtain ⟨ad, o, ho, hA, a0, a1, a2, a3, a4, a5, a6, a7⟩ := at_O (Kd.C_below HC.out HB.out) i h
      subst hA
      have HQ := Lib.hid ho
      have HST := Lib.hid (group_snoc lv l i o ho)
      have hgl : G.length ≤ 9223372036854775807 := (Kd.R_reads' HO.out).2.2.2.1
      obtain ⟨ko, hko⟩ : ∃ ko, ko = keyN lv o := ⟨_, rfl⟩
      have HKO := Lib.hid hko
      have TK : Hid (∀ wq dd os, Calls Try.prog 44 #[.agg (aggO o), .int .i64 lv] (Sort.grow (redrawn wq dd) os) fun e w' => e = .returned (.int .i64 ko) ∧ Below (Sort.grow (redrawn wq dd) os).heap.size (Sort.grow (redrawn wq dd) os) w') := Lib.hid (fun wq dd os => by rw [hko]; exact key_calls lv HLV.out o _)
      clear h ho hG hko
      go_wp2_with fail
      go_loopw [7] (fun v7 wr => ∃ a : Nat, v7 = .int .i64 a ∧ Hid (a ≤ G.length ∧ Less G ko a) ∧ Hid (Below wo.heap.size wo wr)) (fun v7 _ => (G.length - intOf v7).toNat)
      case atStart => exact ⟨0, rfl, Lib.hid ⟨Nat.zero_le _, fun j u hj => absurd hj (Nat.not_lt_zero _)⟩, Lib.hid (Below.refl _ _)⟩
      case round =>
        obtain ⟨a, rfl, HA, HBQ⟩ := hrel
        have ha := HA.out.1
        obtain ⟨ad', o', ho', hA', a0, a1, a2, a3, a4, a5, a6, a7⟩ := at_O (Kd.C_below HC.out (below_then HB.out HB.out.size HBQ.out)) i (by omega)
        injection hA' with hA'
        subst hA'
        obtain rfl : o = o' := Option.some.inj (HQ.out.symm.trans ho')
        have z0 := cell_regrown a0
        have z1 := cell_regrown a1
        have z2 := cell_regrown a2
        have z3 := cell_regrown a3
        have z4 := cell_regrown a4
        have z5 := cell_regrown a5
        have z6 := cell_regrown a6
        have z7 := cell_regrown a7
        have HCG := Lib.hid (Kd.C_below (Kd.R_reads' HO.out).2.2 HBQ.out)
        clear ho' a0 a1 a2 a3 a4 a5 a6 a7
        by_cases h : a < G.length
        · have hla : decide (a < G.length) = true := decide_eq_true h
          have p0 : (0 : Int) ≤ a := by omega
          have p1 : (a : Int) < G.length := by omega
          obtain ⟨gd, u, hu, hGA, g0, _⟩ := at_W HCG.out a h
          obtain ⟨g, cap, hv, hbg, _, _⟩ := Kd.R_form HO.out (by omega)
          have hvA : VA = some ⟨g, 0, none⟩ := by injection hv
          clear hv
          obtain rfl : gd = ⟨g, 0, none⟩ := Option.some.inj (hGA.symm.trans hvA)
          subst hGA
          rw [add_plain] at g0
          have HUQ := Lib.hid hu
          have zg := cell_regrown g0
          have HAL := Lib.hid h
          clear hu g0 h
          by_cases hk : u.id < ko
          · have hkd : decide (u.id < ko) = true := decide_eq_true hk
            have HKK := Lib.hid hk
            clear hk
            go_wp2_with fail
            refine wp_region_quiet_below (by kernel_rfl) (by kernel_rfl) ?_
            repeat (go_big_quiet_step ((first | (go_at_call 44; exact Calls.regrown_of (TK.out _ _ _)))))
            refine wpQuiet_nil ?_
            intro _ hw'
            obtain ⟨⟨dq, osq⟩, hw''⟩ := hw'
            subst hw''
            have HBQ5 := Lib.hid (below_then HBQ.out HBQ.out.size (below_regrown wr dq osq))
            go_wp2_with fail
            go_roundw
            case rel =>
              refine ⟨a + 1, by go_num, Lib.hid ⟨HAL.out, fun j v hj hv => ?_⟩, HBQ5⟩
              rcases Nat.lt_or_ge j a with h2 | h2
              · exact HA.out.2 j v h2 hv
              · obtain rfl : j = a := by omega
                rw [← Option.some.inj (HUQ.out.symm.trans hv)]
                exact HKK.out
            case measure => have := HAL.out; simp only [intOf]; omega
          · have hkd : decide (u.id < ko) = false := decide_eq_false hk
            have HKK := Lib.hid hk
            clear hk
            go_wp2_with fail
            refine wp_region_quiet_below (by kernel_rfl) (by kernel_rfl) ?_
            repeat (go_big_quiet_step ((first | (go_at_call 44; exact Calls.regrown_of (TK.out _ _ _)))))
            refine wpQuiet_nil ?_
            intro _ hw'
            obtain ⟨⟨dq, osq⟩, hw''⟩ := hw'
            subst hw''
            have HBQ5 := Lib.hid (below_then HBQ.out HBQ.out.size (below_regrown wr dq osq))
            have b0 := z0 dq osq
            have b1 := z1 dq osq
            have b2 := z2 dq osq
            have b3 := z3 dq osq
            have b4 := z4 dq osq
            have b5 := z5 dq osq
            have b6 := z6 dq osq
            have b7 := z7 dq osq
            have bg := zg dq osq
            obtain ⟨w5, hw5⟩ : ∃ w5, w5 = Sort.grow (redrawn wr dq) osq := ⟨_, rfl⟩
            rw [← hw5] at HBQ5 b0 b1 b2 b3 b4 b5 b6 b7 bg ⊢
            clear hw5 z0 z1 z2 z3 z4 z5 z6 z7 zg HBQ HCG
            have z0 := cell_regrown b0
            have z1 := cell_regrown b1
            have z2 := cell_regrown b2
            have z3 := cell_regrown b3
            have z4 := cell_regrown b4
            have z5 := cell_regrown b5
            have z6 := cell_regrown b6
            have z7 := cell_regrown b7
            have zg := cell_regrown bg
            clear b0 b1 b2 b3 b4 b5 b6 b7 bg
            have hne : ((a : Int) == (G.length : Int)) = false := beq_eq_false_iff_ne.2 (by have := HAL.out; omega)
            cases hk2 : (u.id == ko) with
            | true =>
              have hk3 : (u.id != ko) = false := by rw [bne, hk2]; rfl
              have HPUT := Lib.hid (Put.hit HA.out.2 HUQ.out (beq_iff_eq.1 hk2))
              have HID : Hid (u.id = ko) := Lib.hid (beq_iff_eq.1 hk2)
              clear hk2
              go_wp2_with fail
              refine wp_region_quiet_below (by kernel_rfl) (by kernel_rfl) ?_
              repeat (go_big_quiet_step ((first | (go_at_call 44; exact Calls.regrown_of (TK.out _ _ _)))))
              refine wpQuiet_nil ?_
              intro _ hw'
              obtain ⟨⟨dq, osq⟩, hw''⟩ := hw'
              subst hw''
              have HBQ6 := Lib.hid (below_then HBQ5.out HBQ5.out.size (below_regrown w5 dq osq))
              have HO6 := Lib.hid (Kd.R_below HO.out HBQ6.out)
              have HB6 := Lib.hid (below_then HB.out HB.out.size HBQ6.out)
              have b2 := z2 dq osq
              have b3 := z3 dq osq
              obtain ⟨w6, hw6⟩ : ∃ w6, w6 = Sort.grow (redrawn w5 dq) osq := ⟨_, rfl⟩
              rw [← hw6] at HO6 HB6 b2 b3 ⊢
              clear hw6 z0 z1 z2 z3 z4 z5 z6 z7 zg HBQ5 HBQ6
              cases hin : o.f2 with
              | false =>
                rw [hin] at b2
                have HWO : Hid (wOf o = 0) := Lib.hid (by unfold wOf; rw [hin]; rfl)
                clear hin
                go_wp2_with fail
                go_roundw
                case rel => exact ⟨i + 1, by go_num, Lib.hid (by omega), Lib.hid (by rw [HST.out, HWO.out, ← HGE.out, ← HKO.out, HPUT.out.same]; exact HO6.out), HB6⟩
                case measure => simp only [intOf]; omega
              | true =>
                rw [hin] at b2
                have HWO : Hid (wOf o = o.f3) := Lib.hid (by unfold wOf; rw [hin]; rfl)
                have hf3 : 0 ≤ o.f3 ∧ o.f3 ≤ 16777216 := by rw [← HWO.out]; exact HG.out.wt o (List.mem_of_getElem? HQ.out)
                have hwt : 0 ≤ u.wt ∧ u.wt ≤ l.length * 16777216 := by
                  have hm := List.mem_of_getElem? HUQ.out
                  rw [HGE.out, group_mem] at hm
                  have h1 := sumK_range (lv := lv) (k := u.id) (l := l.take i) (fun q hq => HG.out.wt q (List.mem_of_mem_take hq))
                  have h2 := List.length_take_le i l
                  rw [hm.2]
                  omega
                have kw : IntKind.i64.wrap (u.wt + o.f3) = u.wt + o.f3 := IntWalk.i64_in _ (by omega)
                obtain ⟨ad3, u3, hu3, hA3, c0, c1⟩ := at_W (Kd.R_reads' HO6.out).2.2 a HAL.out
                injection hA3 with hA3
                subst hA3
                obtain rfl : u = u3 := Option.some.inj (HUQ.out.symm.trans hu3)
                rw [add_plain] at c0 c1
                have hcells : ∀ (jj : Nat) v, [Value.int .i64 u.id, .int .i64 u.wt][jj]? = some v → w6.cell? ⟨g, (a : Int).toNat * kW.sz + jj, none⟩ = some v := by
                  intro jj v hv
                  rw [show (a : Int).toNat * kW.sz + jj = a * 2 + jj from rfl]
                  match jj, hv with
                  | 0, hv => obtain rfl := Option.some.inj hv; exact c0
                  | 1, hv => obtain rfl := Option.some.inj hv; exact c1
                  | jj + 2, hv => cases hv
                have HCE := Lib.hid hcells
                have y3 := cell_regrown b3
                have y1 := cell_regrown c1
                clear hin hcells hu3 c0 c1 b3 hf3 hwt
                go_wp2_with fail
                clear b2
                refine QT.wp_region_tail 15 (by kernel_rfl) (by kernel_rfl) ?_
                simp only [List.take_succ_cons, List.take_zero, List.drop_succ_cons, List.drop_zero]
                repeat (go_big_quiet_step ((fail)))
                refine wpQuiet_nil ?_
                intro _ hw'
                obtain ⟨⟨dq, osq⟩, hw''⟩ := hw'
                subst hw''
                have HO7 := Lib.hid (Kd.R_below HO6.out (below_regrown w6 dq osq))
                have HB7 := Lib.hid (below_then HB6.out HB6.out.size (below_regrown w6 dq osq))
                have HCE7 : Hid (∀ (jj : Nat) v, [Value.int .i64 u.id, .int .i64 u.wt][jj]? = some v → (Sort.grow (redrawn w6 dq) osq).cell? ⟨g, (a : Int).toNat * kW.sz + jj, none⟩ = some v) := Lib.hid (fun jj v hv => cell_regrown (HCE.out jj v hv) dq osq)
                obtain ⟨w7, hw7⟩ : ∃ w7, w7 = Sort.grow (redrawn w6 dq) osq := ⟨_, rfl⟩
                rw [← hw7] at HO7 HB7 HCE7 ⊢
                clear hw7 y1 y3 HO6 HB6 HCE
                go_wp2_with (first | ((with_reducible refine gate_store (t := 3) (p := 90) (v := .tmp 88) rfl ?_); go_must (refine Kd.R_store kW (w0 := w) w.heap.size rfl rfl 3 _ _ rfl 83 (a : Int) 1 G ⟨u.id, u.wt + o.f3⟩ (.int .i64 (u.wt + o.f3)) [.int .i64 (u.wt + o.f3)] [.int .i64 u.id, .int .i64 u.wt] (fun _ => True) (fun _ => False) rfl rfl rfl rfl (by kernel_rfl) (by simp [Value.oneCell']) HO7.out p0 p1 rfl HCE7.out (by show 1 + 1 ≤ 2; decide) (kW_mkM _ _ _ ⟨u.id, u.wt + o.f3⟩) (fun _ hk => hk.elim) HB7.out ?_; intro w8 ho hb hg; have HO8 := Lib.hid (show kW.R 83 w8 w.heap.size (fun _ => True) (.slice (some ⟨g, 0, none⟩) G.length vc) (G.set a ⟨u.id, u.wt + o.f3⟩) from ho); have HB8 := Lib.hid hb; clear ho hb hg HO7 HB7 HCE7)))
                go_roundw
                case rel => exact ⟨i + 1, by go_num, Lib.hid (by omega), Lib.hid (by rw [HST.out, HWO.out, ← HGE.out, ← HKO.out, HPUT.out.ins_, ← HID.out]; exact HO8.out), HB8⟩
                case measure => simp only [intOf]; omega
            | false =>
              have hk3 : (u.id != ko) = true := by rw [bne, hk2]; rfl
              have HPUT := Lib.hid (Put.new HA.out.2 HA.out.1 (fun v hv => by
                have e := Option.some.inj (HUQ.out.symm.trans hv)
                have := beq_eq_false_iff_ne.1 hk2
                have := HKK.out
                subst e
                omega))
              clear hk2
              go_wp2_with fail
              refine wp_region_quiet_below (by kernel_rfl) (by kernel_rfl) ?_
              repeat (go_big_quiet_step ((first | (go_at_call 44; exact Calls.regrown_of (TK.out _ _ _)))))
              refine wpQuiet_nil ?_
              intro _ hw'
              obtain ⟨⟨dq, osq⟩, hw''⟩ := hw'
              subst hw''
              have HBQ6 := Lib.hid (below_then HBQ5.out HBQ5.out.size (below_regrown w5 dq osq))
              have HOb := Lib.hid (Kd.R_below HO.out HBQ6.out)
              have HBb := Lib.hid (below_then HB.out HB.out.size HBQ6.out)
              have b0 := z0 dq osq
              have b1 := z1 dq osq
              have b2 := z2 dq osq
              have b3 := z3 dq osq
              have b4 := z4 dq osq
              have b5 := z5 dq osq
              have b6 := z6 dq osq
              have b7 := z7 dq osq
              obtain ⟨wb, hwb⟩ : ∃ wb, wb = Sort.grow (redrawn w5 dq) osq := ⟨_, rfl⟩
              rw [← hwb] at HOb HBb b0 b1 b2 b3 b4 b5 b6 b7 ⊢
              clear hwb z0 z1 z2 z3 z4 z5 z6 z7 HBQ5 HBQ6
              have hgl2 : G.length ≤ 64 := Nat.le_trans (by rw [HGE.out]; exact group_len lv _) (Nat.le_trans (List.length_take_le i l) (by omega))
              have HGL := Lib.hid hgl2
              have hrc := Kd.R_reads' HOb.out
              have Y0 := ad.add (i * 8)
              obtain ⟨Y1, hY1⟩ : ∃ Y1, Y1 = G.take a := ⟨_, rfl⟩
              obtain ⟨Y2, hY2⟩ : ∃ Y2, Y2 = G.drop a := ⟨_, rfl⟩
              have hl1 : Y1.length = a := by rw [hY1, List.length_take]; have := HA.out.1; omega
              have hl2 : Y2.length = G.length - a := by rw [hY2, List.length_drop]
              have hc1 : kW.C wb (some ⟨g, 0, none⟩ : Option Addr) Y1.length Y1 := by rw [hY1]; exact Kd.C_take hrc.2.2 HA.out.1
              obtain ⟨A2, hA2⟩ : ∃ A2, A2 = (if vc = a then (some ⟨g, 0, none⟩ : Option Addr) else ((some ⟨g, 0, none⟩ : Option Addr)).map (·.add (a * 2))) := ⟨_, rfl⟩
              have hc2 : kW.C wb A2 Y2.length Y2 := by rw [hY2, hA2]; exact Kd.C_drop hrc.2.2 HA.out.1 hrc.2.1
              have hcut1 : ∀ W : World, (Instr.slice 80 (.slice (some ⟨g, 0, none⟩ : Option Addr) G.length vc) none (some (.int .i64 (a : Int))) none).run Try.prog W = .ok (.slice (some ⟨g, 0, none⟩ : Option Addr) Y1.length vc) W := by
                intro W
                rw [hl1]
                obtain ⟨i0, hi0, _, _, _⟩ := info_parts infoW
                exact cut_to (P := Try.prog) 80 83 .i64 Try.underlying80 hi0 (some ⟨g, 0, none⟩ : Option Addr) G.length vc (a : Int) (by omega) (by have := HA.out.1; omega) hrc.2.1 W
              have hcut2 : ∀ W : World, (Instr.slice 80 (.slice (some ⟨g, 0, none⟩ : Option Addr) G.length vc) (some (.int .i64 (a : Int))) none none).run Try.prog W = .ok (.slice A2 Y2.length (vc - a)) W := by
                intro W
                rw [hl2, hA2]
                obtain ⟨i0, hi0, _, hs0, _⟩ := info_parts infoW
                exact cut_from (P := Try.prog) 80 83 .i64 Try.underlying80 hi0 2 hs0 (some ⟨g, 0, none⟩ : Option Addr) G.length vc (a : Int) (by omega) (by have := HA.out.1; omega) W
              have HL1 := Lib.hid hl1
              have HL2 := Lib.hid hl2
              have HY1 := Lib.hid hY1
              have HY2 := Lib.hid hY2
              have HC1 := Lib.hid hc1
              have HC2 := Lib.hid hc2
              have hB0 := Lib.hid (below_drew (Below.refl wb.heap.size wb))
              clear hgl2 hrc Y0 hl1 hl2 hc1 hc2 hY1 hY2 hA2
              go_wp2_with fail
              refine start_ (n := 19) (S := fun w' => Below wb.heap.size wb w') (ds := []) #[false, false, false, false, false, false, false, false, false, false, false, false, false, false, false, false, false, false, false] (by kernel_rfl) rfl rfl hB0.out (fun hHeld => ?_)
              generalize wb.drew = wd at hB0 hHeld ⊢
              refine pure_ (i := 1) (N := some 54) (v := ?_) (a' := ?_) #[false, true, false, false, false, false, false, false, false, false, false, false, false, false, false, false, false, false, false] rfl rfl (by kernel_rfl) (fun _ _ _ h => h) (Or.inl ⟨by rfl, ?_⟩) ?_ ?_
              rotate_left
              · intro w'
                go_simp
                with_reducible rfl
              rotate_left
              · simp only [Act.put, List.setIfInBounds_toArray, List.set_cons_zero, List.set_cons_succ, i64_w, i32_w]
                rfl
              refine pure_ (i := 2) (N := some 55) (v := ?_) (a' := ?_) #[false, true, true, false, false, false, false, false, false, false, false, false, false, false, false, false, false, false, false] rfl rfl (by kernel_rfl) (fun _ _ _ h => h) (Or.inl ⟨by rfl, ?_⟩) ?_ ?_
              rotate_left
              · intro w'
                go_simp
                with_reducible rfl
              rotate_left
              · simp only [Act.put, List.setIfInBounds_toArray, List.set_cons_zero, List.set_cons_succ, i64_w, i32_w]
                rfl
              refine pure_ (i := 3) (N := some 56) (v := ?_) (a' := ?_) #[false, true, true, true, false, false, false, false, false, false, false, false, false, false, false, false, false, false, false] rfl rfl (by kernel_rfl) (fun _ _ _ h => h) (Or.inl ⟨by rfl, ?_⟩) ?_ ?_
              rotate_left
              · intro w'
                go_simp
                with_reducible rfl
              rotate_left
              · simp only [Act.put, List.setIfInBounds_toArray, List.set_cons_zero, List.set_cons_succ, i64_w, i32_w]
                rfl
              refine pure_ (i := 5) (N := some 58) (v := ?_) (a' := ?_) #[false, true, true, true, false, true, false, false, false, false, false, false, false, false, false, false, false, false, false] rfl rfl (by kernel_rfl) (fun _ _ _ h => h) (Or.inl ⟨by rfl, ?_⟩) ?_ ?_
              rotate_left
              · intro w'
                go_simp
                with_reducible rfl
              rotate_left
              · simp only [Act.put, List.setIfInBounds_toArray, List.set_cons_zero, List.set_cons_succ, i64_w, i32_w]
                rfl
              refine pure_ (i := 6) (N := some 59) (v := ?_) (a' := ?_) #[false, true, true, true, false, true, true, false, false, false, false, false, false, false, false, false, false, false, false] rfl rfl (by kernel_rfl) (fun _ _ _ h => h) (Or.inl ⟨by rfl, ?_⟩) ?_ ?_
              rotate_left
              · intro w'
                go_simp
                with_reducible rfl
              rotate_left
              · simp only [Act.put, List.setIfInBounds_toArray, List.set_cons_zero, List.set_cons_succ, i64_w, i32_w]
                rfl
              refine pure_ (i := 7) (N := some 60) (v := ?_) (a' := ?_) #[false, true, true, true, false, true, true, true, false, false, false, false, false, false, false, false, false, false, false] rfl rfl (by kernel_rfl) (fun _ _ _ h => h) (Or.inl ⟨by rfl, ?_⟩) ?_ ?_
              rotate_left
              · intro w'
                go_simp
                with_reducible rfl
              rotate_left
              · simp only [Act.put, List.setIfInBounds_toArray, List.set_cons_zero, List.set_cons_succ, i64_w, i32_w]
                rfl
              refine pure_ (i := 9) (N := some 62) (v := ?_) (a' := ?_) #[false, true, true, true, false, true, true, true, false, true, false, false, false, false, false, false, false, false, false] rfl rfl (by kernel_rfl) (fun _ _ _ h => h) (Or.inl ⟨by rfl, ?_⟩) ?_ ?_
              rotate_left
              · intro w'
                go_simp
                with_reducible rfl
              rotate_left
              · simp only [Act.put, List.setIfInBounds_toArray, List.set_cons_zero, List.set_cons_succ, i64_w, i32_w]
                rfl
              refine pure_ (i := 14) (N := some 67) (v := ?_) (a' := ?_) #[false, true, true, true, false, true, true, true, false, true, false, false, false, false, true, false, false, false, false] rfl rfl (by kernel_rfl) (fun _ _ _ h => h) (Or.inl ⟨by rfl, ?_⟩) ?_ ?_
              rotate_left
              · intro w'
                go_simp
                with_reducible rfl
              rotate_left
              · simp only [Act.put, List.setIfInBounds_toArray, List.set_cons_zero, List.set_cons_succ, i64_w, i32_w]
                rfl
              refine pure_ (i := 15) (N := some 68) (v := ?_) (a' := ?_) #[false, true, true, true, false, true, true, true, false, true, false, false, false, false, true, true, false, false, false] rfl rfl (by kernel_rfl) (fun _ _ _ h => h) (Or.inl ⟨by rfl, ?_⟩) ?_ ?_
              rotate_left
              · intro w'
                go_simp
                with_reducible rfl
              rotate_left
              · simp only [Act.put, List.setIfInBounds_toArray, List.set_cons_zero, List.set_cons_succ, i64_w, i32_w]
                rfl
              refine pure_ (i := 16) (N := some 69) (v := ?_) (a' := ?_) #[false, true, true, true, false, true, true, true, false, true, false, false, false, false, true, true, true, false, false] rfl rfl (by kernel_rfl) (fun _ _ _ h => h) (Or.inl ⟨by rfl, ?_⟩) ?_ ?_
              rotate_left
              · intro w'
                go_simp
                with_reducible rfl
              rotate_left
              · simp only [Act.put, List.setIfInBounds_toArray, List.set_cons_zero, List.set_cons_succ, i64_w, i32_w]
                rfl
              refine take_ (i := 8) (N := some 61) (v := ?_) (a' := ?_) #[false, true, true, true, false, true, true, true, true, true, false, false, false, false, true, true, true, false, false] rfl rfl (by kernel_rfl) (fun _ _ _ h => h) (Or.inl ⟨by rfl, ?_⟩) hHeld ?_ ?_
              rotate_left
              · rintro w' hS
                have y0 := (hS.cell (World.block_lt_of_cell? _ _ b0)).trans b0
                have y1 := (hS.cell (World.block_lt_of_cell? _ _ b1)).trans b1
                have y2 := (hS.cell (World.block_lt_of_cell? _ _ b2)).trans b2
                have y3 := (hS.cell (World.block_lt_of_cell? _ _ b3)).trans b3
                have y4 := (hS.cell (World.block_lt_of_cell? _ _ b4)).trans b4
                have y5 := (hS.cell (World.block_lt_of_cell? _ _ b5)).trans b5
                have y6 := (hS.cell (World.block_lt_of_cell? _ _ b6)).trans b6
                have y7 := (hS.cell (World.block_lt_of_cell? _ _ b7)).trans b7
                go_simp
                with_reducible rfl
              rotate_left
              · simp only [Act.put, List.setIfInBounds_toArray, List.set_cons_zero, List.set_cons_succ, i64_w, i32_w]
                rfl
              refine one_ (i := 0) (N := some 53) #[true, true, true, true, false, true, true, true, true, true, false, false, false, false, true, true, true, false, false] rfl rfl (by kernel_rfl) (by decide) (fun K hK => ?_)
              refine Kd.R_lit_step kW (w0 := wb) wb.heap.size 83 ?hg (N := 53) ?hd (xs := ([] : List Wd)) (inner := []) (ok := fun _ => True) (okp := fun _ => True) ?hr ?hp (fun _ hk => hk) trivial hB0.out hB0.out.size (by simp) ?_; (case hd => rfl); (case hg => rfl); (case hr => first | (go_simp; done) | (go_simp; rfl)); (case hp => exact (Reps.none _ _))
              intro v53 w53 ho hb hg hnew
              have HE1 := Lib.hid ho
              have hB1 := Lib.hid hb
              clear ho hb hg hnew hB0
              refine hK.out _ _ hB1.out (fun hHeld => ?_)
              clear hK K
              refine norm_ (a' := ?_) ?_ ?_
              rotate_left
              · show Act.put _ (some 53) _ = _
                simp only [Act.put, List.setIfInBounds_toArray, List.set_cons_zero, List.set_cons_succ, i64_w, i32_w]
                rfl
              refine one_ (i := 4) (N := some 57) #[true, true, true, true, true, true, true, true, true, true, false, false, false, false, true, true, true, false, false] rfl rfl (by kernel_rfl) (by decide) (fun K hK => ?_)
              refine Kd.R_append_rows_step kW (w0 := wb) wb.heap.size (by rfl) (.tmp 53) (.tmp 56) 80 83 (.agg #[(.int .i64 0), (.int .i64 0)]) 16 rfl Try.underlying80 infoW rfl (by decide) (by omega) v53 [] Y1 _ _ _ (fun _ => True) (fun _ => False) rfl rfl HE1.out (Kd.C_below HC1.out (hB1.out)) (fun y cs hk => by rw [kW_open hk]; exact kW_mkM _ _ _ y) (fun _ h => h.elim) (fun _ _ => trivial) hB1.out hB1.out.size ?aL ?_
              (case aL => have := HL1.out; have := HGL.out; have := HA.out.1; simp only [List.length_nil]; omega)
              intro v57 w57 ho hb hg hat
              rw [List.nil_append] at ho
              have HE2 := Lib.hid ho
              have hB2 := Lib.hid hb
              clear ho hb hg hat hB1 HE1
              refine hK.out _ _ hB2.out (fun hHeld => ?_)
              clear hK K
              refine norm_ (a' := ?_) ?_ ?_
              rotate_left
              · show Act.put _ (some 57) _ = _
                simp only [Act.put, List.setIfInBounds_toArray, List.set_cons_zero, List.set_cons_succ, i64_w, i32_w]
                rfl
              refine one_ (i := 10) (N := some 63) #[true, true, true, true, true, true, true, true, true, true, true, false, false, false, true, true, true, false, false] rfl rfl (by kernel_rfl) (by decide) (fun K hK => ?_)
              refine goes_ Try.func44 (by kernel_rfl) rfl #[.agg #[.int .i64 o.f0, .bool o.f1, .bool o.f2, .int .i64 o.f3, .int .i64 o.f4, .int .i64 o.f5, .int .i64 o.f6, .int .i64 o.f7], .int .i64 lv] (by rfl) rfl rfl (by (try simp only [List.map_toArray, List.map_cons, List.map_nil]); first | done | rfl | (go_simp; done) | (go_simp; rfl)) ?_
              refine (key_calls lv HLV.out o w57).mono ?_
              rintro e w63 ⟨rfl, hb⟩
              refine ⟨_, rfl, ?_⟩
              rw [← HKO.out]
              have hB3 := Lib.hid (below_then hB2.out hB2.out.size hb)
              have HE3 := Lib.hid (Kd.R_below HE2.out hb)
              clear hb hB2 HE2
              refine hK.out _ _ hB3.out (fun hHeld => ?_)
              clear hK K
              refine norm_ (a' := ?_) ?_ ?_
              rotate_left
              · show Act.put _ (some 63) _ = _
                simp only [Act.put, List.setIfInBounds_toArray, List.set_cons_zero, List.set_cons_succ, i64_w, i32_w]
                rfl
              refine pure_ (i := 11) (N := some 64) (v := ?_) (a' := ?_) #[true, true, true, true, true, true, true, true, true, true, true, true, false, false, true, true, true, false, false] rfl rfl (by kernel_rfl) (fun _ _ _ h => h) (Or.inl ⟨by rfl, ?_⟩) ?_ ?_
              rotate_left
              · intro w'
                go_simp
                with_reducible rfl
              rotate_left
              · simp only [Act.put, List.setIfInBounds_toArray, List.set_cons_zero, List.set_cons_succ, i64_w, i32_w]
                rfl
              refine one_ (i := 12) (N := some 65) #[true, true, true, true, true, true, true, true, true, true, true, true, true, false, true, true, true, false, false] rfl rfl (by kernel_rfl) (by decide) (fun K hK => ?_)
              refine value_ (w1 := ?_) (v := ?_) (by rfl) rfl ?_ ?_
              rotate_left 2
              · go_simp
                constructor
                · rfl
                · rfl
              refine hK.out _ _ (below_alloc hB3.out _) (fun hHeld => ?_)
              clear hK K
              refine norm_ (a' := ?_) ?_ ?_
              rotate_left
              · show Act.put _ (some 65) _ = _
                simp only [Act.put, List.setIfInBounds_toArray, List.set_cons_zero, List.set_cons_succ, i64_w, i32_w]
                rfl
              refine one_ (i := 13) (N := some 66) #[true, true, true, true, true, true, true, true, true, true, true, true, true, true, true, true, true, false, false] rfl rfl (by kernel_rfl) (by decide) (fun K hK => ?_)
              refine Kd.R_append_step kW (w0 := wb) wb.heap.size (by rfl) (.tmp 57) (.tmp 65) 80 83 (.agg #[(.int .i64 0), (.int .i64 0)]) 16 rfl Try.underlying80 infoW rfl (by decide) (by omega) v57 Y1 (⟨ko, 0⟩ : Wd) [.int .i64 ko, .int .i64 0] (fun _ => True) (fun _ => False) rfl rfl (kW_mkM _ _ _ (⟨ko, 0⟩ : Wd)) (fun _ hk => hk.elim) (fun _ _ => trivial) HE3.out hB3.out hB3.out.size ?aL ?_
              (case aL => have := HL1.out; have := HGL.out; have := HA.out.1; omega)
              intro v66 w66 ho hb hg hat
              have HE4 := Lib.hid ho
              have hB4 := Lib.hid hb
              clear ho hb hg hat hB3 HE3
              refine hK.out _ _ hB4.out (fun hHeld => ?_)
              clear hK K
              refine norm_ (a' := ?_) ?_ ?_
              rotate_left
              · show Act.put _ (some 66) _ = _
                simp only [Act.put, List.setIfInBounds_toArray, List.set_cons_zero, List.set_cons_succ, i64_w, i32_w]
                rfl
              refine one_ (i := 17) (N := some 70) #[true, true, true, true, true, true, true, true, true, true, true, true, true, true, true, true, true, true, false] rfl rfl (by kernel_rfl) (by decide) (fun K hK => ?_)
              refine Kd.R_append_rows_step kW (w0 := wb) wb.heap.size (by rfl) (.tmp 66) (.tmp 69) 80 83 (.agg #[(.int .i64 0), (.int .i64 0)]) 16 rfl Try.underlying80 infoW rfl (by decide) (by omega) v66 (Y1 ++ [⟨ko, 0⟩]) Y2 _ _ _ (fun _ => True) (fun _ => False) rfl rfl HE4.out (Kd.C_below HC2.out (hB4.out)) (fun y cs hk => by rw [kW_open hk]; exact kW_mkM _ _ _ y) (fun _ h => h.elim) (fun _ _ => trivial) hB4.out hB4.out.size ?aL ?_
              (case aL => have := HL1.out; have := HL2.out; have := HGL.out; have := HA.out.1; simp only [List.length_append, List.length_cons, List.length_nil]; omega)
              intro v70 w70 ho hb hg hat
              have HE5 := Lib.hid ho
              have hB5 := Lib.hid hb
              clear ho hb hg hat hB4 HE4
              refine hK.out _ _ hB5.out (fun hHeld => ?_)
              clear hK K
              refine norm_ (a' := ?_) ?_ ?_
              rotate_left
              · show Act.put _ (some 70) _ = _
                simp only [Act.put, List.setIfInBounds_toArray, List.set_cons_zero, List.set_cons_succ, i64_w, i32_w]
                rfl
              refine pure_ (i := 18) (N := some 5) (v := ?_) (a' := ?_) #[true, true, true, true, true, true, true, true, true, true, true, true, true, true, true, true, true, true, true] rfl rfl (by kernel_rfl) (fun _ _ _ h => h) (Or.inl ⟨by rfl, ?_⟩) ?_ ?_
              rotate_left
              · intro w'
                go_simp
                with_reducible rfl
              rotate_left
              · simp only [Act.put, List.setIfInBounds_toArray, List.set_cons_zero, List.set_cons_succ, i64_w, i32_w]
                rfl
              refine done_ (by kernel_rfl) ?_
              clear hcut1 hcut2 hHeld
              obtain ⟨G1, hG1⟩ : ∃ G1, G1 = G.take a ++ [(⟨ko, 0⟩ : Wd)] ++ G.drop a := ⟨_, rfl⟩
              have HLEN1 : Hid (G1.length = G.length + 1) := Lib.hid (by rw [hG1]; exact put_len HA.out.1)
              have HE6 : Hid (kW.R 83 w70 wb.heap.size (fun _ => True) v70 G1) := Lib.hid (by rw [hG1, ← HY1.out, ← HY2.out]; exact HE5.out)
              rw [← hG1] at HPUT
              obtain ⟨u, hu⟩ : ∃ u : Wd, u = ⟨ko, 0⟩ := ⟨_, rfl⟩
              have HUQ : Hid (G1[a]? = some u) := Lib.hid (by rw [hu]; exact HPUT.out.at_)
              have HID : Hid (u.id = ko) := Lib.hid (by rw [hu])
              have HU0 : Hid (u.wt = 0) := Lib.hid (by rw [hu])
              have HWT : Hid (0 ≤ u.wt ∧ u.wt ≤ l.length * 16777216) := Lib.hid (by rw [HU0.out]; omega)
              rw [← HU0.out] at HPUT
              obtain ⟨g, vc', hv, _⟩ := Kd.R_form HE6.out (by have := HLEN1.out; omega)
              subst hv
              have HAL : Hid (a < G1.length) := Lib.hid (by have := HA.out.1; have := HLEN1.out; omega)
              have hla' : decide (a < G1.length) = true := decide_eq_true HAL.out
              have p0 : (0 : Int) ≤ a := by omega
              have p1 : (a : Int) < G1.length := by have := HAL.out; omega
              have HBQ6 := hB5
              have HO6 := Lib.hid (Kd.R_lower HE6.out HBb.out.size)
              have HB6 := Lib.hid (below_then HBb.out HBb.out.size hB5.out)
              replace b2 := (hB5.out.cell (World.block_lt_of_cell? _ _ b2)).trans b2
              replace b3 := (hB5.out.cell (World.block_lt_of_cell? _ _ b3)).trans b3
              obtain ⟨w6, hw6⟩ : ∃ w6, w6 = w70 := ⟨_, rfl⟩
              rw [← hw6] at HO6 HB6 b2 b3 ⊢
              obtain ⟨vc2, hvc2⟩ : ∃ vc2, vc2 = vc' := ⟨_, rfl⟩
              rw [← hvc2] at HO6 ⊢
              clear hw6 hvc2 HE6 HE5 hB5 HC1 HC2 HY1 HY2 HL1 HL2 HOb HBb b0 b1 b4 b5 b6 b7 hG1 hu HBQ6
              cases hin : o.f2 with
              | false =>
                rw [hin] at b2
                have HWO : Hid (wOf o = 0) := Lib.hid (by unfold wOf; rw [hin]; rfl)
                clear hin
                go_wp2_with fail
                go_roundw
                case rel => exact ⟨i + 1, by go_num, Lib.hid (by omega), Lib.hid (by rw [HST.out, HWO.out, ← HGE.out, ← HKO.out, HPUT.out.same]; exact HO6.out), HB6⟩
                case measure => simp only [intOf]; omega
              | true =>
                rw [hin] at b2
                have HWO : Hid (wOf o = o.f3) := Lib.hid (by unfold wOf; rw [hin]; rfl)
                have hf3 : 0 ≤ o.f3 ∧ o.f3 ≤ 16777216 := by rw [← HWO.out]; exact HG.out.wt o (List.mem_of_getElem? HQ.out)
                have hwt : 0 ≤ u.wt ∧ u.wt ≤ l.length * 16777216 := HWT.out
                have kw : IntKind.i64.wrap (u.wt + o.f3) = u.wt + o.f3 := IntWalk.i64_in _ (by omega)
                obtain ⟨ad3, u3, hu3, hA3, c0, c1⟩ := at_W (Kd.R_reads' HO6.out).2.2 a HAL.out
                injection hA3 with hA3
                subst hA3
                obtain rfl : u = u3 := Option.some.inj (HUQ.out.symm.trans hu3)
                rw [add_plain] at c0 c1
                have hcells : ∀ (jj : Nat) v, [Value.int .i64 u.id, .int .i64 u.wt][jj]? = some v → w6.cell? ⟨g, (a : Int).toNat * kW.sz + jj, none⟩ = some v := by
                  intro jj v hv
                  rw [show (a : Int).toNat * kW.sz + jj = a * 2 + jj from rfl]
                  match jj, hv with
                  | 0, hv => obtain rfl := Option.some.inj hv; exact c0
                  | 1, hv => obtain rfl := Option.some.inj hv; exact c1
                  | jj + 2, hv => cases hv
                have HCE := Lib.hid hcells
                have y3 := cell_regrown b3
                have y1 := cell_regrown c1
                clear hin hcells hu3 c0 c1 b3 hf3 hwt
                go_wp2_with fail
                clear b2
                refine QT.wp_region_tail 15 (by kernel_rfl) (by kernel_rfl) ?_
                simp only [List.take_succ_cons, List.take_zero, List.drop_succ_cons, List.drop_zero]
                repeat (go_big_quiet_step ((fail)))
                refine wpQuiet_nil ?_
                intro _ hw'
                obtain ⟨⟨dq, osq⟩, hw''⟩ := hw'
                subst hw''
                have HO7 := Lib.hid (Kd.R_below HO6.out (below_regrown w6 dq osq))
                have HB7 := Lib.hid (below_then HB6.out HB6.out.size (below_regrown w6 dq osq))
                have HCE7 : Hid (∀ (jj : Nat) v, [Value.int .i64 u.id, .int .i64 u.wt][jj]? = some v → (Sort.grow (redrawn w6 dq) osq).cell? ⟨g, (a : Int).toNat * kW.sz + jj, none⟩ = some v) := Lib.hid (fun jj v hv => cell_regrown (HCE.out jj v hv) dq osq)
                obtain ⟨w7, hw7⟩ : ∃ w7, w7 = Sort.grow (redrawn w6 dq) osq := ⟨_, rfl⟩
                rw [← hw7] at HO7 HB7 HCE7 ⊢
                clear hw7 y1 y3 HO6 HB6 HCE
                go_wp2_with (first | ((with_reducible refine gate_store (t := 3) (p := 90) (v := .tmp 88) rfl ?_); go_must (refine Kd.R_store kW (w0 := w) w.heap.size rfl rfl 3 _ _ rfl 83 (a : Int) 1 G1 ⟨u.id, u.wt + o.f3⟩ (.int .i64 (u.wt + o.f3)) [.int .i64 (u.wt + o.f3)] [.int .i64 u.id, .int .i64 u.wt] (fun _ => True) (fun _ => False) rfl rfl rfl rfl (by kernel_rfl) (by simp [Value.oneCell']) HO7.out p0 p1 rfl HCE7.out (by show 1 + 1 ≤ 2; decide) (kW_mkM _ _ _ ⟨u.id, u.wt + o.f3⟩) (fun _ hk => hk.elim) HB7.out ?_; intro w8 ho hb hg; have HO8 := Lib.hid (show kW.R 83 w8 w.heap.size (fun _ => True) (.slice (some ⟨g, 0, none⟩) G1.length vc2) (G1.set a ⟨u.id, u.wt + o.f3⟩) from ho); have HB8 := Lib.hid hb; clear ho hb hg HO7 HB7 HCE7)))
                go_roundw
                case rel => exact ⟨i + 1, by go_num, Lib.hid (by omega), Lib.hid (by rw [HST.out, HWO.out, ← HGE.out, ← HKO.out, HPUT.out.ins_, ← HID.out]; exact HO8.out), HB8⟩
                case measure => simp only [intOf]; omega
        · obtain rfl : a = G.length := by omega
          have hla : decide (G.length < G.length) = false := decide_eq_false (by omega)
          have hla2 : decide ((G.length : Int) < (G.length : Int)) = false := decide_eq_false (by omega)
          clear h
          go_wp2_with fail
          refine wp_region_quiet_below (by kernel_rfl) (by kernel_rfl) ?_
          repeat (go_big_quiet_step ((first | (go_at_call 44; exact Calls.regrown_of (TK.out _ _ _)))))
          refine wpQuiet_nil ?_
          intro _ hw'
          obtain ⟨⟨dq, osq⟩, hw''⟩ := hw'
          subst hw''
          have HBQ5 := Lib.hid (below_then HBQ.out HBQ.out.size (below_regrown wr dq osq))
          have b0 := z0 dq osq
          have b1 := z1 dq osq
          have b2 := z2 dq osq
          have b3 := z3 dq osq
          have b4 := z4 dq osq
          have b5 := z5 dq osq
          have b6 := z6 dq osq
          have b7 := z7 dq osq
          obtain ⟨w5, hw5⟩ : ∃ w5, w5 = Sort.grow (redrawn wr dq) osq := ⟨_, rfl⟩
          rw [← hw5] at HBQ5 b0 b1 b2 b3 b4 b5 b6 b7 ⊢
          clear hw5 z0 z1 z2 z3 z4 z5 z6 z7 HBQ HCG
          have z0 := cell_regrown b0
          have z1 := cell_regrown b1
          have z2 := cell_regrown b2
          have z3 := cell_regrown b3
          have z4 := cell_regrown b4
          have z5 := cell_regrown b5
          have z6 := cell_regrown b6
          have z7 := cell_regrown b7
          clear b0 b1 b2 b3 b4 b5 b6 b7
          have hne : ((G.length : Int) == (G.length : Int)) = true := beq_self_eq_true _
          have HPUT := Lib.hid (Put.new HA.out.2 HA.out.1 (fun v hv => by rw [List.getElem?_eq_none (Nat.le_refl _)] at hv; cases hv))
          go_wp2_with fail
          refine wp_region_quiet_below (by kernel_rfl) (by kernel_rfl) ?_
          repeat (go_big_quiet_step ((first | (go_at_call 44; exact Calls.regrown_of (TK.out _ _ _)))))
          refine wpQuiet_nil ?_
          intro _ hw'
          obtain ⟨⟨dq, osq⟩, hw''⟩ := hw'
          subst hw''
          have HBQ6 := Lib.hid (below_then HBQ5.out HBQ5.out.size (below_regrown w5 dq osq))
          have HOb := Lib.hid (Kd.R_below HO.out HBQ6.out)
          have HBb := Lib.hid (below_then HB.out HB.out.size HBQ6.out)
          have b0 := z0 dq osq
          have b1 := z1 dq osq
          have b2 := z2 dq osq
          have b3 := z3 dq osq
          have b4 := z4 dq osq
          have b5 := z5 dq osq
          have b6 := z6 dq osq
          have b7 := z7 dq osq
          obtain ⟨wb, hwb⟩ : ∃ wb, wb = Sort.grow (redrawn w5 dq) osq := ⟨_, rfl⟩
          rw [← hwb] at HOb HBb b0 b1 b2 b3 b4 b5 b6 b7 ⊢
          clear hwb z0 z1 z2 z3 z4 z5 z6 z7 HBQ5 HBQ6
          have hgl2 : G.length ≤ 64 := Nat.le_trans (by rw [HGE.out]; exact group_len lv _) (Nat.le_trans (List.length_take_le i l) (by omega))
          have HGL := Lib.hid hgl2
          have hrc := Kd.R_reads' HOb.out
          have Y0 := ad.add (i * 8)
          obtain ⟨Y1, hY1⟩ : ∃ Y1, Y1 = G.take G.length := ⟨_, rfl⟩
          obtain ⟨Y2, hY2⟩ : ∃ Y2, Y2 = G.drop G.length := ⟨_, rfl⟩
          have hl1 : Y1.length = G.length := by rw [hY1, List.length_take]; have := HA.out.1; omega
          have hl2 : Y2.length = G.length - G.length := by rw [hY2, List.length_drop]
          have hc1 : kW.C wb VA Y1.length Y1 := by rw [hY1]; exact Kd.C_take hrc.2.2 HA.out.1
          obtain ⟨A2, hA2⟩ : ∃ A2, A2 = (if vc = G.length then VA else (VA).map (·.add (G.length * 2))) := ⟨_, rfl⟩
          have hc2 : kW.C wb A2 Y2.length Y2 := by rw [hY2, hA2]; exact Kd.C_drop hrc.2.2 HA.out.1 hrc.2.1
          have hcut1 : ∀ W : World, (Instr.slice 80 (.slice VA G.length vc) none (some (.int .i64 (G.length : Int))) none).run Try.prog W = .ok (.slice VA Y1.length vc) W := by
            intro W
            rw [hl1]
            obtain ⟨i0, hi0, _, _, _⟩ := info_parts infoW
            exact cut_to (P := Try.prog) 80 83 .i64 Try.underlying80 hi0 VA G.length vc (G.length : Int) (by omega) (by have := HA.out.1; omega) hrc.2.1 W
          have hcut2 : ∀ W : World, (Instr.slice 80 (.slice VA G.length vc) (some (.int .i64 (G.length : Int))) none none).run Try.prog W = .ok (.slice A2 Y2.length (vc - G.length)) W := by
            intro W
            rw [hl2, hA2]
            obtain ⟨i0, hi0, _, hs0, _⟩ := info_parts infoW
            exact cut_from (P := Try.prog) 80 83 .i64 Try.underlying80 hi0 2 hs0 VA G.length vc (G.length : Int) (by omega) (by have := HA.out.1; omega) W
          have HL1 := Lib.hid hl1
          have HL2 := Lib.hid hl2
          have HY1 := Lib.hid hY1
          have HY2 := Lib.hid hY2
          have HC1 := Lib.hid hc1
          have HC2 := Lib.hid hc2
          have hB0 := Lib.hid (below_drew (Below.refl wb.heap.size wb))
          clear hgl2 hrc Y0 hl1 hl2 hc1 hc2 hY1 hY2 hA2
          go_wp2_with fail
          refine start_ (n := 19) (S := fun w' => Below wb.heap.size wb w') (ds := []) #[false, false, false, false, false, false, false, false, false, false, false, false, false, false, false, false, false, false, false] (by kernel_rfl) rfl rfl hB0.out (fun hHeld => ?_)
          generalize wb.drew = wd at hB0 hHeld ⊢
          refine pure_ (i := 1) (N := some 54) (v := ?_) (a' := ?_) #[false, true, false, false, false, false, false, false, false, false, false, false, false, false, false, false, false, false, false] rfl rfl (by kernel_rfl) (fun _ _ _ h => h) (Or.inl ⟨by rfl, ?_⟩) ?_ ?_
          rotate_left
          · intro w'
            go_simp
            with_reducible rfl
          rotate_left
          · simp only [Act.put, List.setIfInBounds_toArray, List.set_cons_zero, List.set_cons_succ, i64_w, i32_w]
            rfl
          refine pure_ (i := 2) (N := some 55) (v := ?_) (a' := ?_) #[false, true, true, false, false, false, false, false, false, false, false, false, false, false, false, false, false, false, false] rfl rfl (by kernel_rfl) (fun _ _ _ h => h) (Or.inl ⟨by rfl, ?_⟩) ?_ ?_
          rotate_left
          · intro w'
            go_simp
            with_reducible rfl
          rotate_left
          · simp only [Act.put, List.setIfInBounds_toArray, List.set_cons_zero, List.set_cons_succ, i64_w, i32_w]
            rfl
          refine pure_ (i := 3) (N := some 56) (v := ?_) (a' := ?_) #[false, true, true, true, false, false, false, false, false, false, false, false, false, false, false, false, false, false, false] rfl rfl (by kernel_rfl) (fun _ _ _ h => h) (Or.inl ⟨by rfl, ?_⟩) ?_ ?_
          rotate_left
          · intro w'
            go_simp
            with_reducible rfl
          rotate_left
          · simp only [Act.put, List.setIfInBounds_toArray, List.set_cons_zero, List.set_cons_succ, i64_w, i32_w]
            rfl
          refine pure_ (i := 5) (N := some 58) (v := ?_) (a' := ?_) #[false, true, true, true, false, true, false, false, false, false, false, false, false, false, false, false, false, false, false] rfl rfl (by kernel_rfl) (fun _ _ _ h => h) (Or.inl ⟨by rfl, ?_⟩) ?_ ?_
          rotate_left
          · intro w'
            go_simp
            with_reducible rfl
          rotate_left
          · simp only [Act.put, List.setIfInBounds_toArray, List.set_cons_zero, List.set_cons_succ, i64_w, i32_w]
            rfl
          refine pure_ (i := 6) (N := some 59) (v := ?_) (a' := ?_) #[false, true, true, true, false, true, true, false, false, false, false, false, false, false, false, false, false, false, false] rfl rfl (by kernel_rfl) (fun _ _ _ h => h) (Or.inl ⟨by rfl, ?_⟩) ?_ ?_
          rotate_left
          · intro w'
            go_simp
            with_reducible rfl
          rotate_left
          · simp only [Act.put, List.setIfInBounds_toArray, List.set_cons_zero, List.set_cons_succ, i64_w, i32_w]
            rfl
          refine pure_ (i := 7) (N := some 60) (v := ?_) (a' := ?_) #[false, true, true, true, false, true, true, true, false, false, false, false, false, false, false, false, false, false, false] rfl rfl (by kernel_rfl) (fun _ _ _ h => h) (Or.inl ⟨by rfl, ?_⟩) ?_ ?_
          rotate_left
          · intro w'
            go_simp
            with_reducible rfl
          rotate_left
          · simp only [Act.put, List.setIfInBounds_toArray, List.set_cons_zero, List.set_cons_succ, i64_w, i32_w]
            rfl
          refine pure_ (i := 9) (N := some 62) (v := ?_) (a' := ?_) #[false, true, true, true, false, true, true, true, false, true, false, false, false, false, false, false, false, false, false] rfl rfl (by kernel_rfl) (fun _ _ _ h => h) (Or.inl ⟨by rfl, ?_⟩) ?_ ?_
          rotate_left
          · intro w'
            go_simp
            with_reducible rfl
          rotate_left
          · simp only [Act.put, List.setIfInBounds_toArray, List.set_cons_zero, List.set_cons_succ, i64_w, i32_w]
            rfl
          refine pure_ (i := 14) (N := some 67) (v := ?_) (a' := ?_) #[false, true, true, true, false, true, true, true, false, true, false, false, false, false, true, false, false, false, false] rfl rfl (by kernel_rfl) (fun _ _ _ h => h) (Or.inl ⟨by rfl, ?_⟩) ?_ ?_
          rotate_left
          · intro w'
            go_simp
            with_reducible rfl
          rotate_left
          · simp only [Act.put, List.setIfInBounds_toArray, List.set_cons_zero, List.set_cons_succ, i64_w, i32_w]
            rfl
          refine pure_ (i := 15) (N := some 68) (v := ?_) (a' := ?_) #[false, true, true, true, false, true, true, true, false, true, false, false, false, false, true, true, false, false, false] rfl rfl (by kernel_rfl) (fun _ _ _ h => h) (Or.inl ⟨by rfl, ?_⟩) ?_ ?_
          rotate_left
          · intro w'
            go_simp
            with_reducible rfl
          rotate_left
          · simp only [Act.put, List.setIfInBounds_toArray, List.set_cons_zero, List.set_cons_succ, i64_w, i32_w]
            rfl
          refine pure_ (i := 16) (N := some 69) (v := ?_) (a' := ?_) #[false, true, true, true, false, true, true, true, false, true, false, false, false, false, true, true, true, false, false] rfl rfl (by kernel_rfl) (fun _ _ _ h => h) (Or.inl ⟨by rfl, ?_⟩) ?_ ?_
          rotate_left
          · intro w'
            go_simp
            with_reducible rfl
          rotate_left
          · simp only [Act.put, List.setIfInBounds_toArray, List.set_cons_zero, List.set_cons_succ, i64_w, i32_w]
            rfl
          refine take_ (i := 8) (N := some 61) (v := ?_) (a' := ?_) #[false, true, true, true, false, true, true, true, true, true, false, false, false, false, true, true, true, false, false] rfl rfl (by kernel_rfl) (fun _ _ _ h => h) (Or.inl ⟨by rfl, ?_⟩) hHeld ?_ ?_
          rotate_left
          · rintro w' hS
            have y0 := (hS.cell (World.block_lt_of_cell? _ _ b0)).trans b0
            have y1 := (hS.cell (World.block_lt_of_cell? _ _ b1)).trans b1
            have y2 := (hS.cell (World.block_lt_of_cell? _ _ b2)).trans b2
            have y3 := (hS.cell (World.block_lt_of_cell? _ _ b3)).trans b3
            have y4 := (hS.cell (World.block_lt_of_cell? _ _ b4)).trans b4
            have y5 := (hS.cell (World.block_lt_of_cell? _ _ b5)).trans b5
            have y6 := (hS.cell (World.block_lt_of_cell? _ _ b6)).trans b6
            have y7 := (hS.cell (World.block_lt_of_cell? _ _ b7)).trans b7
            go_simp
            with_reducible rfl
          rotate_left
          · simp only [Act.put, List.setIfInBounds_toArray, List.set_cons_zero, List.set_cons_succ, i64_w, i32_w]
            rfl
          refine one_ (i := 0) (N := some 53) #[true, true, true, true, false, true, true, true, true, true, false, false, false, false, true, true, true, false, false] rfl rfl (by kernel_rfl) (by decide) (fun K hK => ?_)
          refine Kd.R_lit_step kW (w0 := wb) wb.heap.size 83 ?hg (N := 53) ?hd (xs := ([] : List Wd)) (inner := []) (ok := fun _ => True) (okp := fun _ => True) ?hr ?hp (fun _ hk => hk) trivial hB0.out hB0.out.size (by simp) ?_; (case hd => rfl); (case hg => rfl); (case hr => first | (go_simp; done) | (go_simp; rfl)); (case hp => exact (Reps.none _ _))
          intro v53 w53 ho hb hg hnew
          have HE1 := Lib.hid ho
          have hB1 := Lib.hid hb
          clear ho hb hg hnew hB0
          refine hK.out _ _ hB1.out (fun hHeld => ?_)
          clear hK K
          refine norm_ (a' := ?_) ?_ ?_
          rotate_left
          · show Act.put _ (some 53) _ = _
            simp only [Act.put, List.setIfInBounds_toArray, List.set_cons_zero, List.set_cons_succ, i64_w, i32_w]
            rfl
          refine one_ (i := 4) (N := some 57) #[true, true, true, true, true, true, true, true, true, true, false, false, false, false, true, true, true, false, false] rfl rfl (by kernel_rfl) (by decide) (fun K hK => ?_)
          refine Kd.R_append_rows_step kW (w0 := wb) wb.heap.size (by rfl) (.tmp 53) (.tmp 56) 80 83 (.agg #[(.int .i64 0), (.int .i64 0)]) 16 rfl Try.underlying80 infoW rfl (by decide) (by omega) v53 [] Y1 _ _ _ (fun _ => True) (fun _ => False) rfl rfl HE1.out (Kd.C_below HC1.out (hB1.out)) (fun y cs hk => by rw [kW_open hk]; exact kW_mkM _ _ _ y) (fun _ h => h.elim) (fun _ _ => trivial) hB1.out hB1.out.size ?aL ?_
          (case aL => have := HL1.out; have := HGL.out; have := HA.out.1; simp only [List.length_nil]; omega)
          intro v57 w57 ho hb hg hat
          rw [List.nil_append] at ho
          have HE2 := Lib.hid ho
          have hB2 := Lib.hid hb
          clear ho hb hg hat hB1 HE1
          refine hK.out _ _ hB2.out (fun hHeld => ?_)
          clear hK K
          refine norm_ (a' := ?_) ?_ ?_
          rotate_left
          · show Act.put _ (some 57) _ = _
            simp only [Act.put, List.setIfInBounds_toArray, List.set_cons_zero, List.set_cons_succ, i64_w, i32_w]
            rfl
          refine one_ (i := 10) (N := some 63) #[true, true, true, true, true, true, true, true, true, true, true, false, false, false, true, true, true, false, false] rfl rfl (by kernel_rfl) (by decide) (fun K hK => ?_)
          refine goes_ Try.func44 (by kernel_rfl) rfl #[.agg #[.int .i64 o.f0, .bool o.f1, .bool o.f2, .int .i64 o.f3, .int .i64 o.f4, .int .i64 o.f5, .int .i64 o.f6, .int .i64 o.f7], .int .i64 lv] (by rfl) rfl rfl (by (try simp only [List.map_toArray, List.map_cons, List.map_nil]); first | done | rfl | (go_simp; done) | (go_simp; rfl)) ?_
          refine (key_calls lv HLV.out o w57).mono ?_
          rintro e w63 ⟨rfl, hb⟩
          refine ⟨_, rfl, ?_⟩
          rw [← HKO.out]
          have hB3 := Lib.hid (below_then hB2.out hB2.out.size hb)
          have HE3 := Lib.hid (Kd.R_below HE2.out hb)
          clear hb hB2 HE2
          refine hK.out _ _ hB3.out (fun hHeld => ?_)
          clear hK K
          refine norm_ (a' := ?_) ?_ ?_
          rotate_left
          · show Act.put _ (some 63) _ = _
            simp only [Act.put, List.setIfInBounds_toArray, List.set_cons_zero, List.set_cons_succ, i64_w, i32_w]
            rfl
          refine pure_ (i := 11) (N := some 64) (v := ?_) (a' := ?_) #[true, true, true, true, true, true, true, true, true, true, true, true, false, false, true, true, true, false, false] rfl rfl (by kernel_rfl) (fun _ _ _ h => h) (Or.inl ⟨by rfl, ?_⟩) ?_ ?_
          rotate_left
          · intro w'
            go_simp
            with_reducible rfl
          rotate_left
          · simp only [Act.put, List.setIfInBounds_toArray, List.set_cons_zero, List.set_cons_succ, i64_w, i32_w]
            rfl
          refine one_ (i := 12) (N := some 65) #[true, true, true, true, true, true, true, true, true, true, true, true, true, false, true, true, true, false, false] rfl rfl (by kernel_rfl) (by decide) (fun K hK => ?_)
          refine value_ (w1 := ?_) (v := ?_) (by rfl) rfl ?_ ?_
          rotate_left 2
          · go_simp
            constructor
            · rfl
            · rfl
          refine hK.out _ _ (below_alloc hB3.out _) (fun hHeld => ?_)
          clear hK K
          refine norm_ (a' := ?_) ?_ ?_
          rotate_left
          · show Act.put _ (some 65) _ = _
            simp only [Act.put, List.setIfInBounds_toArray, List.set_cons_zero, List.set_cons_succ, i64_w, i32_w]
            rfl
          refine one_ (i := 13) (N := some 66) #[true, true, true, true, true, true, true, true, true, true, true, true, true, true, true, true, true, false, false] rfl rfl (by kernel_rfl) (by decide) (fun K hK => ?_)
          refine Kd.R_append_step kW (w0 := wb) wb.heap.size (by rfl) (.tmp 57) (.tmp 65) 80 83 (.agg #[(.int .i64 0), (.int .i64 0)]) 16 rfl Try.underlying80 infoW rfl (by decide) (by omega) v57 Y1 (⟨ko, 0⟩ : Wd) [.int .i64 ko, .int .i64 0] (fun _ => True) (fun _ => False) rfl rfl (kW_mkM _ _ _ (⟨ko, 0⟩ : Wd)) (fun _ hk => hk.elim) (fun _ _ => trivial) HE3.out hB3.out hB3.out.size ?aL ?_
          (case aL => have := HL1.out; have := HGL.out; have := HA.out.1; omega)
          intro v66 w66 ho hb hg hat
          have HE4 := Lib.hid ho
          have hB4 := Lib.hid hb
          clear ho hb hg hat hB3 HE3
          refine hK.out _ _ hB4.out (fun hHeld => ?_)
          clear hK K
          refine norm_ (a' := ?_) ?_ ?_
          rotate_left
          · show Act.put _ (some 66) _ = _
            simp only [Act.put, List.setIfInBounds_toArray, List.set_cons_zero, List.set_cons_succ, i64_w, i32_w]
            rfl
          refine one_ (i := 17) (N := some 70) #[true, true, true, true, true, true, true, true, true, true, true, true, true, true, true, true, true, true, false] rfl rfl (by kernel_rfl) (by decide) (fun K hK => ?_)
          refine Kd.R_append_rows_step kW (w0 := wb) wb.heap.size (by rfl) (.tmp 66) (.tmp 69) 80 83 (.agg #[(.int .i64 0), (.int .i64 0)]) 16 rfl Try.underlying80 infoW rfl (by decide) (by omega) v66 (Y1 ++ [⟨ko, 0⟩]) Y2 _ _ _ (fun _ => True) (fun _ => False) rfl rfl HE4.out (Kd.C_below HC2.out (hB4.out)) (fun y cs hk => by rw [kW_open hk]; exact kW_mkM _ _ _ y) (fun _ h => h.elim) (fun _ _ => trivial) hB4.out hB4.out.size ?aL ?_
          (case aL => have := HL1.out; have := HL2.out; have := HGL.out; have := HA.out.1; simp only [List.length_append, List.length_cons, List.length_nil]; omega)
          intro v70 w70 ho hb hg hat
          have HE5 := Lib.hid ho
          have hB5 := Lib.hid hb
          clear ho hb hg hat hB4 HE4
          refine hK.out _ _ hB5.out (fun hHeld => ?_)
          clear hK K
          refine norm_ (a' := ?_) ?_ ?_
          rotate_left
          · show Act.put _ (some 70) _ = _
            simp only [Act.put, List.setIfInBounds_toArray, List.set_cons_zero, List.set_cons_succ, i64_w, i32_w]
            rfl
          refine pure_ (i := 18) (N := some 5) (v := ?_) (a' := ?_) #[true, true, true, true, true, true, true, true, true, true, true, true, true, true, true, true, true, true, true] rfl rfl (by kernel_rfl) (fun _ _ _ h => h) (Or.inl ⟨by rfl, ?_⟩) ?_ ?_
          rotate_left
          · intro w'
            go_simp
            with_reducible rfl
          rotate_left
          · simp only [Act.put, List.setIfInBounds_toArray, List.set_cons_zero, List.set_cons_succ, i64_w, i32_w]
            rfl
          refine done_ (by kernel_rfl) ?_
          clear hcut1 hcut2 hHeld
          obtain ⟨G1, hG1⟩ : ∃ G1, G1 = G.take G.length ++ [(⟨ko, 0⟩ : Wd)] ++ G.drop G.length := ⟨_, rfl⟩
          have HLEN1 : Hid (G1.length = G.length + 1) := Lib.hid (by rw [hG1]; exact put_len HA.out.1)
          have HE6 : Hid (kW.R 83 w70 wb.heap.size (fun _ => True) v70 G1) := Lib.hid (by rw [hG1, ← HY1.out, ← HY2.out]; exact HE5.out)
          rw [← hG1] at HPUT
          obtain ⟨u, hu⟩ : ∃ u : Wd, u = ⟨ko, 0⟩ := ⟨_, rfl⟩
          have HUQ : Hid (G1[G.length]? = some u) := Lib.hid (by rw [hu]; exact HPUT.out.at_)
          have HID : Hid (u.id = ko) := Lib.hid (by rw [hu])
          have HU0 : Hid (u.wt = 0) := Lib.hid (by rw [hu])
          have HWT : Hid (0 ≤ u.wt ∧ u.wt ≤ l.length * 16777216) := Lib.hid (by rw [HU0.out]; omega)
          rw [← HU0.out] at HPUT
          obtain ⟨g, vc', hv, _⟩ := Kd.R_form HE6.out (by have := HLEN1.out; omega)
          subst hv
          have HAL : Hid (G.length < G1.length) := Lib.hid (by have := HA.out.1; have := HLEN1.out; omega)
          have hla' : decide (G.length < G1.length) = true := decide_eq_true HAL.out
          have p0 : (0 : Int) ≤ G.length := by omega
          have p1 : (G.length : Int) < G1.length := by have := HAL.out; omega
          have HBQ6 := hB5
          have HO6 := Lib.hid (Kd.R_lower HE6.out HBb.out.size)
          have HB6 := Lib.hid (below_then HBb.out HBb.out.size hB5.out)
          replace b2 := (hB5.out.cell (World.block_lt_of_cell? _ _ b2)).trans b2
          replace b3 := (hB5.out.cell (World.block_lt_of_cell? _ _ b3)).trans b3
          obtain ⟨w6, hw6⟩ : ∃ w6, w6 = w70 := ⟨_, rfl⟩
          rw [← hw6] at HO6 HB6 b2 b3 ⊢
          obtain ⟨vc2, hvc2⟩ : ∃ vc2, vc2 = vc' := ⟨_, rfl⟩
          rw [← hvc2] at HO6 ⊢
          clear hw6 hvc2 HE6 HE5 hB5 HC1 HC2 HY1 HY2 HL1 HL2 HOb HBb b0 b1 b4 b5 b6 b7 hG1 hu HBQ6
          cases hin : o.f2 with
          | false =>
            rw [hin] at b2
            have HWO : Hid (wOf o = 0) := Lib.hid (by unfold wOf; rw [hin]; rfl)
            clear hin
            go_wp2_with fail
            go_roundw
            case rel => exact ⟨i + 1, by go_num, Lib.hid (by omega), Lib.hid (by rw [HST.out, HWO.out, ← HGE.out, ← HKO.out, HPUT.out.same]; exact HO6.out), HB6⟩
            case measure => simp only [intOf]; omega
          | true =>
            rw [hin] at b2
            have HWO : Hid (wOf o = o.f3) := Lib.hid (by unfold wOf; rw [hin]; rfl)
            have hf3 : 0 ≤ o.f3 ∧ o.f3 ≤ 16777216 := by rw [← HWO.out]; exact HG.out.wt o (List.mem_of_getElem? HQ.out)
            have hwt : 0 ≤ u.wt ∧ u.wt ≤ l.length * 16777216 := HWT.out
            have kw : IntKind.i64.wrap (u.wt + o.f3) = u.wt + o.f3 := IntWalk.i64_in _ (by omega)
            obtain ⟨ad3, u3, hu3, hA3, c0, c1⟩ := at_W (Kd.R_reads' HO6.out).2.2 G.length HAL.out
            injection hA3 with hA3
            subst hA3
            obtain rfl : u = u3 := Option.some.inj (HUQ.out.symm.trans hu3)
            rw [add_plain] at c0 c1
            have hcells : ∀ (jj : Nat) v, [Value.int .i64 u.id, .int .i64 u.wt][jj]? = some v → w6.cell? ⟨g, (G.length : Int).toNat * kW.sz + jj, none⟩ = some v := by
              intro jj v hv
              rw [show (G.length : Int).toNat * kW.sz + jj = G.length * 2 + jj from rfl]
              match jj, hv with
              | 0, hv => obtain rfl := Option.some.inj hv; exact c0
              | 1, hv => obtain rfl := Option.some.inj hv; exact c1
              | jj + 2, hv => cases hv
            have HCE := Lib.hid hcells
            have y3 := cell_regrown b3
            have y1 := cell_regrown c1
            clear hin hcells hu3 c0 c1 b3 hf3 hwt
            go_wp2_with fail
            clear b2
            refine QT.wp_region_tail 15 (by kernel_rfl) (by kernel_rfl) ?_
            simp only [List.take_succ_cons, List.take_zero, List.drop_succ_cons, List.drop_zero]
            repeat (go_big_quiet_step ((fail)))
            refine wpQuiet_nil ?_
            intro _ hw'
            obtain ⟨⟨dq, osq⟩, hw''⟩ := hw'
            subst hw''
            have HO7 := Lib.hid (Kd.R_below HO6.out (below_regrown w6 dq osq))
            have HB7 := Lib.hid (below_then HB6.out HB6.out.size (below_regrown w6 dq osq))
            have HCE7 : Hid (∀ (jj : Nat) v, [Value.int .i64 u.id, .int .i64 u.wt][jj]? = some v → (Sort.grow (redrawn w6 dq) osq).cell? ⟨g, (G.length : Int).toNat * kW.sz + jj, none⟩ = some v) := Lib.hid (fun jj v hv => cell_regrown (HCE.out jj v hv) dq osq)
            obtain ⟨w7, hw7⟩ : ∃ w7, w7 = Sort.grow (redrawn w6 dq) osq := ⟨_, rfl⟩
            rw [← hw7] at HO7 HB7 HCE7 ⊢
            clear hw7 y1 y3 HO6 HB6 HCE
            go_wp2_with (first | ((with_reducible refine gate_store (t := 3) (p := 90) (v := .tmp 88) rfl ?_); go_must (refine Kd.R_store kW (w0 := w) w.heap.size rfl rfl 3 _ _ rfl 83 (G.length : Int) 1 G1 ⟨u.id, u.wt + o.f3⟩ (.int .i64 (u.wt + o.f3)) [.int .i64 (u.wt + o.f3)] [.int .i64 u.id, .int .i64 u.wt] (fun _ => True) (fun _ => False) rfl rfl rfl rfl (by kernel_rfl) (by simp [Value.oneCell']) HO7.out p0 p1 rfl HCE7.out (by show 1 + 1 ≤ 2; decide) (kW_mkM _ _ _ ⟨u.id, u.wt + o.f3⟩) (fun _ hk => hk.elim) HB7.out ?_; intro w8 ho hb hg; have HO8 := Lib.hid (show kW.R 83 w8 w.heap.size (fun _ => True) (.slice (some ⟨g, 0, none⟩) G1.length vc2) (G1.set G.length ⟨u.id, u.wt + o.f3⟩) from ho); have HB8 := Lib.hid hb; clear ho hb hg HO7 HB7 HCE7)))
            go_roundw
            case rel => exact ⟨i + 1, by go_num, Lib.hid (by omega), Lib.hid (by rw [HST.out, HWO.out, ← HGE.out, ← HKO.out, HPUT.out.ins_, ← HID.out]; exact HO8.out), HB8⟩
            case measure => simp only [intOf]; omega
    · obtain rfl : i = l.length := by omega
      have hlt : decide (l.length < l.length) = false := decide_eq_false (by omega)
      rw [List.take_length] at HO
      go_wp2_with fail
      go_ret
      exact ⟨_, rfl, HO.out, HB.out⟩
end Go.Proofs.Ytnpphmgibgfjoaa.Wgh
