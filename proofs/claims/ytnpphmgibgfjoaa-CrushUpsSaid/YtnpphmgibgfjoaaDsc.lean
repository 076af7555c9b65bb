import Derived.Test.YtnpphmgibgfjoaaSl
import Derived.Test.YtnpphmgibgfjoaaGrp
import Derived.Test.YtnpphmgibgfjoaaStrC
import Derived.Laws.EntriesVeiled
/- Descents: the walk of crush.descend. -/
namespace Go.Proofs.Ytnpphmgibgfjoaa.Dsc
open Go Go.RowKit Go.Proofs.YtnpphmgibgfjoaaW.PrintWords Go.Proofs.YtnpphmgibgfjoaaW.PrintMore Mem PAll KW MixP MixW StrP StrW AtA Srt Grp Sl
open CrP hiding Od
theorem cell_alloc {W : World} {a : Addr} {v : Value} (h : W.cell? a = some v) (o : Obj) : (W.alloc o).cell? a = some v := Lib.cell?_alloc_some o h
set_option maxHeartbeats 1600000 in
theorem tells1 (W : World) (p q r : Nat) (A : Option Addr) (c n : Nat) (g : List Wd) (v : Wd) (o : Od) (hp : W.cell? ⟨p, 0, none⟩ = some (.func (.func 69) #[] #[])) (hq : W.cell? ⟨q, 0, none⟩ = some (.slice A g.length c)) (hr : W.cell? ⟨r, 0, none⟩ = some (.int .i64 n)) (hg : kW.C W A g.length g) (hv : g[n]? = some v) :
    Calls Try.prog 77 #[.agg (aggO o), .pointer (some ⟨p, 0, none⟩), .pointer (some ⟨q, 0, none⟩), .pointer (some ⟨r, 0, none⟩)] W fun e w' => e = .returned (.bool (!decide (keyN 1 o = v.id))) ∧ Below W.heap.size W w' := by
  have hn := (List.getElem?_eq_some_iff.1 hv).1
  have hm : g.length ≤ 9223372036854775807 := hg.2.1
  have HB1 := Lib.hid (below_alloc (Below.refl W.heap.size W) (.cells (aggO o) 40))
  have HO1 : Hid ((W.alloc (.cells (aggO o) 40)).heap[W.heap.size]? = some (.cells (aggO o) 40 (0, 0))) := Lib.hid (blk_new _ _)
  obtain ⟨ad, u, hu, rfl, a0, a1⟩ := at_W (Kd.C_alloc hg (.cells (aggO o) 40)) n hn
  obtain rfl : v = u := Option.some.inj (hv.symm.trans hu)
  have hp1 := cell_alloc hp (.cells (aggO o) 40)
  have hq1 := cell_alloc hq (.cells (aggO o) 40)
  have hr1 := cell_alloc hr (.cells (aggO o) 40)
  have hlt : decide (n < g.length) = true := decide_eq_true hn
  have i0 : (0 : Int) ≤ n := by omega
  have i1 : (n : Int) < g.length := by omega
  clear hu hv hg hp hq hr
  obtain ⟨y0, y1, y2, y3, y4, y5, y6, y7⟩ := blkO HO1.out
  obtain ⟨w1, hw1⟩ : ∃ w1, w1 = W.alloc (.cells (aggO o) 40) := ⟨_, rfl⟩
  go_enter Try.func77, Try.ntmps77
  go_wp2_with fail
  rw [← hw1] at y0 y1 y2 y3 y4 y5 y6 y7 hp1 hq1 hr1 a0 a1 HB1 ⊢
  have z0 := cell_regrown y0
  have z1 := cell_regrown y1
  have z2 := cell_regrown y2
  have z3 := cell_regrown y3
  have z4 := cell_regrown y4
  have z5 := cell_regrown y5
  have z6 := cell_regrown y6
  have z7 := cell_regrown y7
  have zp := cell_regrown hp1
  have zq := cell_regrown hq1
  have zr := cell_regrown hr1
  have za := cell_regrown a0
  have T : Hid (∀ dd os, Calls Try.prog 69 #[.agg (aggO o)] (Sort.grow (redrawn w1 dd) os) fun e w' => e = .returned (.int .i64 (keyN 1 o)) ∧ Below (Sort.grow (redrawn w1 dd) os).heap.size (Sort.grow (redrawn w1 dd) os) w') := Lib.hid (fun dd os => rack_calls o _)
  clear y0 y1 y2 y3 y4 y5 y6 y7 hp1 hq1 hr1 a0 a1 hw1 HO1
  obtain ⟨ko, hko⟩ : ∃ ko, ko = keyN 1 o := ⟨_, rfl⟩
  rw [← hko] at T
  have HK := Lib.hid hko
  clear hko
  refine wp_region_quiet_below (by kernel_rfl) (by kernel_rfl) ?_
  repeat (go_big_quiet_step ((go_at_call 69; exact Calls.regrown_of (T.out _ _))))
  refine wpQuiet_nil ?_
  intro _ hw'
  obtain ⟨⟨dq, osq⟩, hw''⟩ := hw'
  subst hw''
  have HB2 := Lib.hid (below_then HB1.out HB1.out.size (below_regrown w1 dq osq))
  go_wp2_with fail
  go_ret
  refine ⟨?_, HB2.out⟩
  rw [← HK.out]
  exact congrArg (fun b => Ending.returned (.bool b)) (by rw [bne]; cases h : (ko == v.id) <;> simp at h <;> simp [h])
set_option maxHeartbeats 1600000 in
theorem tells2 (W : World) (p q r : Nat) (A : Option Addr) (c n : Nat) (g : List Wd) (v : Wd) (o : Od) (hp : W.cell? ⟨p, 0, none⟩ = some (.func (.func 68) #[] #[])) (hq : W.cell? ⟨q, 0, none⟩ = some (.slice A g.length c)) (hr : W.cell? ⟨r, 0, none⟩ = some (.int .i64 n)) (hg : kW.C W A g.length g) (hv : g[n]? = some v) :
    Calls Try.prog 77 #[.agg (aggO o), .pointer (some ⟨p, 0, none⟩), .pointer (some ⟨q, 0, none⟩), .pointer (some ⟨r, 0, none⟩)] W fun e w' => e = .returned (.bool (!decide (keyN 2 o = v.id))) ∧ Below W.heap.size W w' := by
  have hn := (List.getElem?_eq_some_iff.1 hv).1
  have hm : g.length ≤ 9223372036854775807 := hg.2.1
  have HB1 := Lib.hid (below_alloc (Below.refl W.heap.size W) (.cells (aggO o) 40))
  have HO1 : Hid ((W.alloc (.cells (aggO o) 40)).heap[W.heap.size]? = some (.cells (aggO o) 40 (0, 0))) := Lib.hid (blk_new _ _)
  obtain ⟨ad, u, hu, rfl, a0, a1⟩ := at_W (Kd.C_alloc hg (.cells (aggO o) 40)) n hn
  obtain rfl : v = u := Option.some.inj (hv.symm.trans hu)
  have hp1 := cell_alloc hp (.cells (aggO o) 40)
  have hq1 := cell_alloc hq (.cells (aggO o) 40)
  have hr1 := cell_alloc hr (.cells (aggO o) 40)
  have hlt : decide (n < g.length) = true := decide_eq_true hn
  have i0 : (0 : Int) ≤ n := by omega
  have i1 : (n : Int) < g.length := by omega
  clear hu hv hg hp hq hr
  obtain ⟨y0, y1, y2, y3, y4, y5, y6, y7⟩ := blkO HO1.out
  obtain ⟨w1, hw1⟩ : ∃ w1, w1 = W.alloc (.cells (aggO o) 40) := ⟨_, rfl⟩
  go_enter Try.func77, Try.ntmps77
  go_wp2_with fail
  rw [← hw1] at y0 y1 y2 y3 y4 y5 y6 y7 hp1 hq1 hr1 a0 a1 HB1 ⊢
  have z0 := cell_regrown y0
  have z1 := cell_regrown y1
  have z2 := cell_regrown y2
  have z3 := cell_regrown y3
  have z4 := cell_regrown y4
  have z5 := cell_regrown y5
  have z6 := cell_regrown y6
  have z7 := cell_regrown y7
  have zp := cell_regrown hp1
  have zq := cell_regrown hq1
  have zr := cell_regrown hr1
  have za := cell_regrown a0
  have T : Hid (∀ dd os, Calls Try.prog 68 #[.agg (aggO o)] (Sort.grow (redrawn w1 dd) os) fun e w' => e = .returned (.int .i64 (keyN 2 o)) ∧ Below (Sort.grow (redrawn w1 dd) os).heap.size (Sort.grow (redrawn w1 dd) os) w') := Lib.hid (fun dd os => host_calls o _)
  clear y0 y1 y2 y3 y4 y5 y6 y7 hp1 hq1 hr1 a0 a1 hw1 HO1
  obtain ⟨ko, hko⟩ : ∃ ko, ko = keyN 2 o := ⟨_, rfl⟩
  rw [← hko] at T
  have HK := Lib.hid hko
  clear hko
  refine wp_region_quiet_below (by kernel_rfl) (by kernel_rfl) ?_
  repeat (go_big_quiet_step ((go_at_call 68; exact Calls.regrown_of (T.out _ _))))
  refine wpQuiet_nil ?_
  intro _ hw'
  obtain ⟨⟨dq, osq⟩, hw''⟩ := hw'
  subst hw''
  have HB2 := Lib.hid (below_then HB1.out HB1.out.size (below_regrown w1 dq osq))
  go_wp2_with fail
  go_ret
  refine ⟨?_, HB2.out⟩
  rw [← HK.out]
  exact congrArg (fun b => Ending.returned (.bool b)) (by rw [bne]; cases h : (ko == v.id) <;> simp at h <;> simp [h])
set_option maxHeartbeats 1600000 in
theorem tells3 (W : World) (p q r : Nat) (A : Option Addr) (c n : Nat) (g : List Wd) (v : Wd) (o : Od) (hp : W.cell? ⟨p, 0, none⟩ = some (.func (.func 67) #[] #[])) (hq : W.cell? ⟨q, 0, none⟩ = some (.slice A g.length c)) (hr : W.cell? ⟨r, 0, none⟩ = some (.int .i64 n)) (hg : kW.C W A g.length g) (hv : g[n]? = some v) :
    Calls Try.prog 77 #[.agg (aggO o), .pointer (some ⟨p, 0, none⟩), .pointer (some ⟨q, 0, none⟩), .pointer (some ⟨r, 0, none⟩)] W fun e w' => e = .returned (.bool (!decide (keyN 3 o = v.id))) ∧ Below W.heap.size W w' := by
  have hn := (List.getElem?_eq_some_iff.1 hv).1
  have hm : g.length ≤ 9223372036854775807 := hg.2.1
  have HB1 := Lib.hid (below_alloc (Below.refl W.heap.size W) (.cells (aggO o) 40))
  have HO1 : Hid ((W.alloc (.cells (aggO o) 40)).heap[W.heap.size]? = some (.cells (aggO o) 40 (0, 0))) := Lib.hid (blk_new _ _)
  obtain ⟨ad, u, hu, rfl, a0, a1⟩ := at_W (Kd.C_alloc hg (.cells (aggO o) 40)) n hn
  obtain rfl : v = u := Option.some.inj (hv.symm.trans hu)
  have hp1 := cell_alloc hp (.cells (aggO o) 40)
  have hq1 := cell_alloc hq (.cells (aggO o) 40)
  have hr1 := cell_alloc hr (.cells (aggO o) 40)
  have hlt : decide (n < g.length) = true := decide_eq_true hn
  have i0 : (0 : Int) ≤ n := by omega
  have i1 : (n : Int) < g.length := by omega
  clear hu hv hg hp hq hr
  obtain ⟨y0, y1, y2, y3, y4, y5, y6, y7⟩ := blkO HO1.out
  obtain ⟨w1, hw1⟩ : ∃ w1, w1 = W.alloc (.cells (aggO o) 40) := ⟨_, rfl⟩
  go_enter Try.func77, Try.ntmps77
  go_wp2_with fail
  rw [← hw1] at y0 y1 y2 y3 y4 y5 y6 y7 hp1 hq1 hr1 a0 a1 HB1 ⊢
  have z0 := cell_regrown y0
  have z1 := cell_regrown y1
  have z2 := cell_regrown y2
  have z3 := cell_regrown y3
  have z4 := cell_regrown y4
  have z5 := cell_regrown y5
  have z6 := cell_regrown y6
  have z7 := cell_regrown y7
  have zp := cell_regrown hp1
  have zq := cell_regrown hq1
  have zr := cell_regrown hr1
  have za := cell_regrown a0
  have T : Hid (∀ dd os, Calls Try.prog 67 #[.agg (aggO o)] (Sort.grow (redrawn w1 dd) os) fun e w' => e = .returned (.int .i64 (keyN 3 o)) ∧ Below (Sort.grow (redrawn w1 dd) os).heap.size (Sort.grow (redrawn w1 dd) os) w') := Lib.hid (fun dd os => self_calls o _)
  clear y0 y1 y2 y3 y4 y5 y6 y7 hp1 hq1 hr1 a0 a1 hw1 HO1
  obtain ⟨ko, hko⟩ : ∃ ko, ko = keyN 3 o := ⟨_, rfl⟩
  rw [← hko] at T
  have HK := Lib.hid hko
  clear hko
  refine wp_region_quiet_below (by kernel_rfl) (by kernel_rfl) ?_
  repeat (go_big_quiet_step ((go_at_call 67; exact Calls.regrown_of (T.out _ _))))
  refine wpQuiet_nil ?_
  intro _ hw'
  obtain ⟨⟨dq, osq⟩, hw''⟩ := hw'
  subst hw''
  have HB2 := Lib.hid (below_then HB1.out HB1.out.size (below_regrown w1 dq osq))
  go_wp2_with fail
  go_ret
  refine ⟨?_, HB2.out⟩
  rw [← HK.out]
  exact congrArg (fun b => Ending.returned (.bool b)) (by rw [bne]; cases h : (ko == v.id) <;> simp at h <;> simp [h])

def fnL (lv : Nat) : Nat := if lv = 1 then 69 else if lv = 2 then 68 else 67
abbrev fvL (lv : Nat) : Value := .func (.func (fnL lv)) #[] #[]
theorem group_any (lv : Nat) (h : lv = 1 ∨ lv = 2 ∨ lv = 3) (A : Option Addr) (c : Nat) (l : List Od) (w : World) (hx : kO.C w A l.length l) (hg : GoodL l) :
    Calls Try.prog 48 #[.slice A l.length c, fvL lv] w fun e w' => ∃ v, e = .returned v ∧ kW.R 83 w' w.heap.size (fun _ => True) v (group lv l) ∧ Below w.heap.size w w' := by
  rcases h with rfl | rfl | rfl
  · exact group_calls1 A c l w hx hg
  · exact group_calls2 A c l w hx hg
  · exact group_calls3 A c l w hx hg
theorem tells_any (lv : Nat) (h : lv = 1 ∨ lv = 2 ∨ lv = 3) (W : World) (p q r : Nat) (A : Option Addr) (c n : Nat) (g : List Wd) (v : Wd) (o : Od) (hp : W.cell? ⟨p, 0, none⟩ = some (fvL lv)) (hq : W.cell? ⟨q, 0, none⟩ = some (.slice A g.length c)) (hr : W.cell? ⟨r, 0, none⟩ = some (.int .i64 n)) (hg : kW.C W A g.length g) (hv : g[n]? = some v) :
    Calls Try.prog 77 #[.agg (aggO o), .pointer (some ⟨p, 0, none⟩), .pointer (some ⟨q, 0, none⟩), .pointer (some ⟨r, 0, none⟩)] W fun e w' => e = .returned (.bool (!decide (keyN lv o = v.id))) ∧ Below W.heap.size W w' := by
  rcases h with rfl | rfl | rfl
  · exact tells1 W p q r A c n g v o hp hq hr hg hv
  · exact tells2 W p q r A c n g v o hp hq hr hg hv
  · exact tells3 W p q r A c n g v o hp hq hr hg hv
def lvls (x r : Int) : Nat → List Od → Option (List Od)
  | 0, l => some l
  | n + 1, l => (lvls x r n l).bind (lvl x r ((n + 1 : Nat)))
theorem lvl_ne {x r : Int} {lv : Nat} {l l' : List Od} (h : lvl x r lv l = some l') : l' ≠ [] := by
  obtain ⟨v, hv, _, rfl⟩ := lvl_some h
  obtain ⟨⟨o, ho, e⟩, _⟩ := (group_mem lv l v).1 hv
  exact List.ne_nil_of_mem (List.mem_filter.2 ⟨ho, decide_eq_true e⟩)
theorem lvls_none {x r : Int} {l l' : List Od} {n : Nat} (h : lvls x r n l = some l') (hn : lvl x r (n + 1) l' = none) (h3 : n < 3) : lvls x r 3 l = none := by
  have e : lvls x r (n + 1) l = none := by
    show (lvls x r n l).bind (lvl x r ((n + 1 : Nat))) = none
    rw [h]; exact hn
  have e2 : ∀ k, lvls x r (n + 1 + k) l = none := by
    intro k
    induction k with
    | zero => exact e
    | succ k ih =>
      show (lvls x r (n + 1 + k) l).bind _ = none
      rw [ih]; rfl
  have := e2 (2 - n)
  rwa [show n + 1 + (2 - n) = 3 by omega] at this
def put8 (w : World) (g : Nat) (o : Od) : World := (((((((w.setCell ⟨g, 0, none⟩ (.int .i64 o.f0)).setCell ⟨g, 1, none⟩ (.bool o.f1)).setCell ⟨g, 2, none⟩ (.bool o.f2)).setCell ⟨g, 3, none⟩ (.int .i64 o.f3)).setCell ⟨g, 4, none⟩ (.int .i64 o.f4)).setCell ⟨g, 5, none⟩ (.int .i64 o.f5)).setCell ⟨g, 6, none⟩ (.int .i64 o.f6)).setCell ⟨g, 7, none⟩ (.int .i64 o.f7)
theorem put8_arr (q o : Od) : ((((((((aggO q).setIfInBounds 0 (.int .i64 o.f0)).setIfInBounds 1 (.bool o.f1)).setIfInBounds 2 (.bool o.f2)).setIfInBounds 3 (.int .i64 o.f3)).setIfInBounds 4 (.int .i64 o.f4)).setIfInBounds 5 (.int .i64 o.f5)).setIfInBounds 6 (.int .i64 o.f6)).setIfInBounds 7 (.int .i64 o.f7) = aggO o := by
  simp [aggO]
theorem put8_blk {w : World} {g : Nat} {q : Od} (h : w.heap[g]? = some (.cells (aggO q) 40 (0, 0))) (o : Od) : (put8 w g o).heap[g]? = some (.cells (aggO o) 40 (0, 0)) := by
  rw [← put8_arr q o]
  exact blk_set (blk_set (blk_set (blk_set (blk_set (blk_set (blk_set (blk_set h 0 _) 1 _) 2 _) 3 _) 4 _) 5 _) 6 _) 7 _
theorem put8_below {B g : Nat} {w0 w : World} (h : Below B w0 w) (hg : B ≤ g) (o : Od) : Below B w0 (put8 w g o) :=
  (((((((h.setCell hg _).setCell hg _).setCell hg _).setCell hg _).setCell hg _).setCell hg _).setCell hg _).setCell hg _
theorem desc_lvls (x r : Int) (l : List Od) : desc x r l = (lvls x r 3 l).bind List.head? := rfl
def zeroA : Array Value := #[.int .i64 0, .bool false, .bool false, .int .i64 0, .int .i64 0, .int .i64 0, .int .i64 0, .int .i64 0]
def descV : Option Od → Value
  | some o => .tuple #[.agg (aggO o), .bool true]
  | none => .tuple #[.agg zeroA, .bool false]
set_option maxHeartbeats 4000000 in
set_option maxRecDepth 100000 in
theorem descend_calls (A : Option Addr) (c : Nat) (l : List Od) (x r : Int) (w : World) (hx : kO.C w A l.length l) (hg : GoodL l) :
    Calls Try.prog 42 #[.slice A l.length c, .int .u32 x, .int .u32 r] w fun e w' => e = .returned (descV (desc x r l)) ∧ Below w.heap.size w w' := by
  have HC := Lib.hid hx
  have HG := Lib.hid hg
  have HB0 := Lib.hid (below_alloc (below_alloc (Below.refl w.heap.size w) (.cells zeroA 40)) (.cells #[fvL 1, fvL 2, fvL 3] 72))
  clear hx hg
  go_enter Try.func42, Try.ntmps42
  go_wp2_with fail
  go_loopw [0, 14] (fun l0' i' wr => ∃ (n : Nat) (A' : Option Addr) (c' : Nat) (l' : List Od), l0' = .slice A' l'.length c' ∧ i' = .int .i64 n ∧ Hid (n ≤ 3) ∧ Hid (lvls x r n l = some l') ∧ Hid (GoodL l') ∧ Hid (kO.C wr A' l'.length l') ∧ Hid (wr.heap[w.heap.size]? = some (.cells (aggO ⟨0, false, false, 0, 0, 0, 0, 0⟩) 40 (0, 0))) ∧ Hid (wr.heap[w.heap.size + 1]? = some (.cells #[fvL 1, fvL 2, fvL 3] 72 (0, 0))) ∧ Hid (Below w.heap.size w wr)) (fun _ i' _ => (3 - intOf i').toNat)
  case atStart => exact ⟨0, A, c, l, rfl, rfl, Lib.hid (by omega), Lib.hid rfl, HG, Lib.hid (Kd.C_alloc (Kd.C_alloc HC.out _) _), Lib.hid (blk_below (blk_new _ _) (below_alloc (Below.refl _ _) _)), Lib.hid (by have h := blk_new (w.alloc (.cells zeroA 40)) (.cells #[fvL 1, fvL 2, fvL 3] 72); simp only [World.alloc, Array.size_push] at h ⊢; exact h), HB0⟩
  case round =>
    obtain ⟨n, A', c', l', rfl, rfl, HN, HLV, HG', HC', HRB, HFB, HB⟩ := hrel
    clear HC HG HB0
    have hn := HN.out
    by_cases h : n < 3
    · have hlt : decide ((n : Int) < 3) = true := decide_eq_true (by omega)
      have i0 : (0 : Int) ≤ n := by omega
      have i1 : (n : Int) < 3 := by omega
      have hlv : n + 1 = 1 ∨ n + 1 = 2 ∨ n + 1 = 3 := by omega
      have HLV3 := Lib.hid hlv
      have hn3 : Hid (n < 3) := Lib.hid h
      obtain ⟨kf, hfv⟩ : ∃ kf, kf = fnL (n + 1) := ⟨_, rfl⟩
      have hcf : wr.cell? ⟨w.heap.size + 1, n, none⟩ = some (.func (.func kf) #[] #[]) := by
        rw [blk_cell HFB.out, hfv]
        rcases hlv with h1 | h1 | h1
        · obtain rfl : n = 0 := by omega
          rfl
        · obtain rfl : n = 1 := by omega
          rfl
        · obtain rfl : n = 2 := by omega
          rfl
      have HFV := Lib.hid hfv
      have HBA := Lib.hid (below_alloc (Below.refl wr.heap.size wr) (.cells #[.func (.func kf) #[] #[]] 72))
      have HP1 : Hid ((wr.alloc (.cells #[.func (.func kf) #[] #[]] 72)).heap[wr.heap.size]? = some (.cells #[.func (.func kf) #[] #[]] 72 (0, 0))) := Lib.hid (blk_new _ _)
      have HB1 := Lib.hid (below_then HB.out HB.out.size HBA.out)
      have HC1 := Lib.hid (Kd.C_below HC'.out HBA.out)
      have HRB1 := Lib.hid (blk_below HRB.out HBA.out)
      have HFB1 := Lib.hid (blk_below HFB.out HBA.out)
      obtain ⟨w1, hw1⟩ : ∃ w1, w1 = wr.alloc (.cells #[.func (.func kf) #[] #[]] 72) := ⟨_, rfl⟩
      have T := Lib.hid (group_any (n + 1) hlv A' c' l' w1 (by rw [hw1]; exact HC1.out) HG'.out)
      rw [show fvL (n + 1) = .func (.func kf) #[] #[] by rw [hfv]] at T
      clear hfv hlv h
      go_wp2_with fail
      rw [← hw1] at HP1 HB1 HC1 HRB1 HFB1 ⊢
      obtain ⟨p, hp⟩ : ∃ p, p = wr.heap.size := ⟨_, rfl⟩
      rw [← hp] at HP1 ⊢
      clear hw1 hp hcf HBA HB HC' HRB HFB
      refine T.out.mono ?_
      rintro e w2 ⟨v, rfl, hR, hb⟩
      obtain ⟨GA, gc, rfl⟩ := Kd.R_slice hR
      have HGC := Lib.hid (Kd.R_reads' hR).2.2
      have HP2 := Lib.hid (blk_below HP1.out hb)
      have HB2 := Lib.hid (below_then HB1.out HB1.out.size hb)
      have HC2 := Lib.hid (Kd.C_below HC1.out hb)
      have HRB2 := Lib.hid (blk_below HRB1.out hb)
      have HFB2 := Lib.hid (blk_below HFB1.out hb)
      clear hR hb T HP1 HB1 HC1 HRB1 HFB1
      obtain ⟨G, hG⟩ : ∃ G, G = group (n + 1) l' := ⟨_, rfl⟩
      rw [← hG] at HGC ⊢
      have HGE := Lib.hid hG
      clear hG
      have HBA := Lib.hid (below_alloc (Below.refl w2.heap.size w2) (.cells #[.slice GA G.length gc] 80))
      have HQ3 : Hid ((w2.alloc (.cells #[.slice GA G.length gc] 80)).heap[w2.heap.size]? = some (.cells #[.slice GA G.length gc] 80 (0, 0))) := Lib.hid (blk_new _ _)
      have HP3 := Lib.hid (blk_below HP2.out HBA.out)
      have HB3 := Lib.hid (below_then HB2.out HB2.out.size HBA.out)
      have HC3 := Lib.hid (Kd.C_below HC2.out HBA.out)
      have HGC3 := Lib.hid (Kd.C_below HGC.out HBA.out)
      have HRB3 := Lib.hid (blk_below HRB2.out HBA.out)
      have HFB3 := Lib.hid (blk_below HFB2.out HBA.out)
      obtain ⟨w3, hw3⟩ : ∃ w3, w3 = w2.alloc (.cells #[.slice GA G.length gc] 80) := ⟨_, rfl⟩
      go_upto_region 5 with fail
      rw [← hw3] at HQ3 HP3 HB3 HC3 HGC3 HRB3 HFB3 ⊢
      obtain ⟨q, hq⟩ : ∃ q, q = w2.heap.size := ⟨_, rfl⟩
      rw [← hq] at HQ3 ⊢
      clear hw3 hq HBA HP2 HB2 HC2 HGC HRB2 HFB2
      go_cut [11] from 15 to 37 (fun s11 wx => ∃ R, s11 = .pointer (some ⟨R, 0, none⟩) ∧ wx.heap[R]? = some (.cells #[.int .i64 (pick (h2I x ((n : Int) + 1)) r G)] 3 (0, 0)) ∧ Below w3.heap.size w3 wx)
      case first =>
        have hcq := blk_cell HQ3.out 0
        have hcq2 := cell_alloc hcq (.cells #[.int .i64 0] 3)
        have kw : IntKind.i64.wrap ((n : Int) + 1) = (n : Int) + 1 := IntWalk.i64_in _ (by omega)
        have ku : IntKind.u32.wrap ((n : Int) + 1) = (n : Int) + 1 := by
          have h1 : (n : Int) + 1 = 1 ∨ (n : Int) + 1 = 2 ∨ (n : Int) + 1 = 3 := by omega
          rcases h1 with h | h | h <;> rw [h] <;> rfl
        go_region_with (first | (go_at_call 65; refine (hash2_calls _ _ _).mono ?_; rintro e w5 ⟨rfl, rfl⟩) | (go_at_call 74; refine (choose_calls GA gc G _ _ _ (by first | exact HGC3.out | exact Kd.C_alloc HGC3.out _)).mono ?_; rintro e w5 ⟨rfl, hb⟩; (first | (have HW5 : Hid (Below w3.heap.size w3 w5) := Lib.hid (below_then (below_drew (Below.refl _ _)) (Nat.le_refl _) hb)) | (have hz : w5.heap[w3.heap.size]? = some (.cells #[.int .i64 0] 3 (0, 0)) := blk_below (by exact blk_new w3 (.cells #[.int .i64 0] 3)) hb; have HZ := Lib.hid hz; have hzc := blk_cell hz 0; have hzf := blk_frozen hz 0; have HW5 : Hid (Below w3.heap.size w3 w5) := Lib.hid (below_then (below_drew (below_alloc (Below.refl _ _) _)) (below_drew (below_alloc (Below.refl _ _) _)).size hb); clear hz)); clear hb))
        all_goals (go_wp2_with fail; go_meet; (first | exact ⟨w3.heap.size, rfl, blk_put HZ.out 0 _ rfl, HW5.out.setCell (Nat.le_refl _) _⟩ | exact ⟨w5.heap.size, rfl, blk_new _ _, below_alloc HW5.out _⟩))
      case rest =>
        obtain ⟨R, rfl, hR, hb⟩ := hcut
        have HR4 := Lib.hid hR
        have HQ4 := Lib.hid (blk_below HQ3.out hb)
        have HP4 := Lib.hid (blk_below HP3.out hb)
        have HB4 := Lib.hid (below_then HB3.out HB3.out.size hb)
        have HC4 := Lib.hid (Kd.C_below HC3.out hb)
        have HGC4 := Lib.hid (Kd.C_below HGC3.out hb)
        have HRB4 := Lib.hid (blk_below HRB3.out hb)
        have HFB4 := Lib.hid (blk_below HFB3.out hb)
        clear hR hb HQ3 HP3 HB3 HC3 HGC3 HRB3 HFB3
        have hcr := blk_cell HR4.out 0
        obtain ⟨pv, hpv⟩ : ∃ pv, pv = pick (h2I x ((n : Int) + 1)) r G := ⟨_, rfl⟩
        have HBE := Lib.hid (pick_best (h2I x ((n : Int) + 1)) r G)
        rw [← hpv] at HR4 hcr HBE
        have HPV := Lib.hid hpv
        clear hpv
        by_cases hneg : pv < 0
        · have hd : decide (pv < 0) = true := decide_eq_true hneg
          have HNE := Lib.hid hneg
          obtain ⟨y0, y1, y2, y3, y4, y5, y6, y7⟩ := blkO (o := ⟨0, false, false, 0, 0, 0, 0, 0⟩) HRB4.out
          have f0 := blk_frozen HRB4.out 0
          have f1 := blk_frozen HRB4.out 1
          have f2 := blk_frozen HRB4.out 2
          have f3 := blk_frozen HRB4.out 3
          have f4 := blk_frozen HRB4.out 4
          have f5 := blk_frozen HRB4.out 5
          have f6 := blk_frozen HRB4.out 6
          have f7 := blk_frozen HRB4.out 7
          clear hneg
          have HF := Lib.hid (put8_blk HRB4.out ⟨0, false, false, 0, 0, 0, 0, 0⟩)
          have HBF := Lib.hid (put8_below HB4.out (Nat.le_refl _) ⟨0, false, false, 0, 0, 0, 0, 0⟩)
          obtain ⟨wf, hwf⟩ : ∃ wf, wf = put8 wc w.heap.size ⟨0, false, false, 0, 0, 0, 0, 0⟩ := ⟨_, rfl⟩
          rw [← hwf] at HF HBF
          simp only [put8] at hwf
          go_wp2_with fail
          rw [← hwf]
          clear hwf
          clear y0 y1 y2 y3 y4 y5 y6 y7 f0 f1 f2 f3 f4 f5 f6 f7
          refine bodyPost_ret (results_ct rfl _ _ w.heap.size 40 (aggO ⟨0, false, false, 0, 0, 0, 0, 0⟩) (0, 0) _ rfl HF.out Try.underlying40 rfl (by kernel_rfl)) rfl ?_
          refine ⟨?_, HBF.out⟩
          rw [desc_lvls, lvls_none HLV.out (by unfold lvl; rw [← HGE.out, if_pos]; rw [show (((n + 1 : Nat)) : Int) = (n : Int) + 1 from by omega, ← HPV.out]; exact HNE.out) hn3.out]
          rfl
        · have hd : decide (pv < 0) = false := decide_eq_false hneg
          have HNE := Lib.hid hneg
          clear hneg
          have T := Lib.hid (clone_calls A' c' l' wc HC4.out HG'.out.len)
          go_wp2_with fail
          refine T.out.mono ?_
          rintro e w5 ⟨v5, rfl, hR5, hb5⟩
          have HT : Hid (∃ i : Nat, ∃ vv, pv = i ∧ G[i]? = some vv) := Lib.hid (by
            have := best_range HBE.out
            have := HNE.out
            obtain ⟨i, hi⟩ := Int.eq_ofNat_of_zero_le (show 0 ≤ pv by omega)
            exact ⟨i, G[i]'(by omega), hi, List.getElem?_eq_getElem _⟩)
          obtain ⟨i, vv, hi, hvv⟩ := HT.out
          subst hi
          have HT2 : Hid (Tells wc p q R fun o => !decide (keyN (n + 1) o = vv.id)) := Lib.hid (fun W o hb => tells_any (n + 1) HLV3.out W p q R GA gc i G vv o (by rw [blk_cell (blk_below HP4.out hb) 0, HFV.out]; rfl) (by rw [blk_cell (blk_below HQ4.out hb) 0]; rfl) (by rw [blk_cell (blk_below HR4.out hb) 0]; rfl) (Kd.C_below HGC4.out hb) hvv)
          have T2 := Lib.hid (delete_calls p q R _ v5 l' wc w5 HT2.out hR5 hb5 HG'.out.len)
          clear T HT hR5 hb5
          go_wp2_with fail
          refine T2.out.mono ?_
          rintro e w6 ⟨v6, rfl, hR6, hb6⟩
          simp only [Bool.not_not] at hR6
          obtain ⟨A6, c6, rfl⟩ := Kd.R_slice hR6
          have HC6 := Lib.hid (Kd.R_reads' hR6).2.2
          have HRB6 := Lib.hid (blk_below HRB4.out hb6)
          have HFB6 := Lib.hid (blk_below HFB4.out hb6)
          have HB6 := Lib.hid (below_then HB4.out HB4.out.size hb6)
          have HLN : Hid (lvls x r (n + 1) l = some (l'.filter fun o => decide (keyN (n + 1) o = vv.id))) := Lib.hid (by
            show (lvls x r n l).bind (lvl x r ((n + 1 : Nat))) = _
            rw [HLV.out]
            show lvl x r (n + 1) l' = _
            unfold lvl
            rw [← HGE.out, show (((n + 1 : Nat)) : Int) = (n : Int) + 1 from by omega, ← HPV.out, if_neg (by omega), show ((i : Nat) : Int).toNat = i from rfl, List.getD_eq_getElem?_getD, hvv]
            rfl)
          clear hR6 hb6 T2 HT2 HP4 HQ4 HR4 HB4 HC4 HGC4 HRB4 HFB4 hcr
          go_wp2_with fail
          go_roundw
          case rel =>
            exact ⟨n + 1, A6, c6, l'.filter fun o => decide (keyN (n + 1) o = vv.id), rfl, by go_num, Lib.hid (by omega), HLN, Lib.hid (HG'.out.filter _), HC6, HRB6, HFB6, HB6⟩
          case measure => simp only [intOf]; omega
    · obtain rfl : n = 3 := by omega
      have hne := lvl_ne (lv := 3) (l := ((lvls x r 2 l).getD [])) (x := x) (r := r) (l' := l') (by
        have e := HLV.out
        cases h2 : lvls x r 2 l with
        | none => rw [show lvls x r 3 l = (lvls x r 2 l).bind (lvl x r 3) from rfl, h2] at e; cases e
        | some m => rw [show lvls x r 3 l = (lvls x r 2 l).bind (lvl x r 3) from rfl, h2] at e; exact e)
      have hpos : 0 < l'.length := List.length_pos_iff.2 hne
      have hlt : decide ((3 : Int) < 3) = false := decide_eq_false (by omega)
      have hlt2 : decide (0 < l'.length) = true := decide_eq_true hpos
      obtain ⟨ad, o, ho, rfl, a0, a1, a2, a3, a4, a5, a6, a7⟩ := at_O HC'.out 0 hpos
      have had : ad.add (0 * 8) = ad := by cases ad; rfl
      rw [had] at a0 a1 a2 a3 a4 a5 a6 a7
      have HO := Lib.hid ho
      obtain ⟨y0, y1, y2, y3, y4, y5, y6, y7⟩ := blkO (o := ⟨0, false, false, 0, 0, 0, 0, 0⟩) HRB.out
      have f0 := blk_frozen HRB.out 0
      have f1 := blk_frozen HRB.out 1
      have f2 := blk_frozen HRB.out 2
      have f3 := blk_frozen HRB.out 3
      have f4 := blk_frozen HRB.out 4
      have f5 := blk_frozen HRB.out 5
      have f6 := blk_frozen HRB.out 6
      have f7 := blk_frozen HRB.out 7
      have HF := Lib.hid (put8_blk HRB.out o)
      have HBF := Lib.hid (put8_below HB.out (Nat.le_refl _) o)
      obtain ⟨wf, hwf⟩ : ∃ wf, wf = put8 wr w.heap.size o := ⟨_, rfl⟩
      rw [← hwf] at HF HBF
      simp only [put8] at hwf
      have HNN := Lib.hid hne
      clear hne ho h
      go_wp2_with fail
      rw [← hwf]
      clear hwf
      refine bodyPost_ret (results_ct rfl _ _ w.heap.size 40 (aggO o) (0, 0) _ rfl HF.out Try.underlying40 rfl (by kernel_rfl)) rfl ?_
      refine ⟨?_, HBF.out⟩
      rw [desc_lvls, HLV.out]
      show _ = Ending.returned (descV l'.head?)
      rw [List.head?_eq_getElem?, HO.out]
      rfl
end Go.Proofs.Ytnpphmgibgfjoaa.Dsc
