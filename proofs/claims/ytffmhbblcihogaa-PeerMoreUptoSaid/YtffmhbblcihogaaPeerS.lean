import Derived.Test.YtffmhbblcihogaaPeerF
import Derived.Test.YtffmhbblcihogaaShelf
import Derived.Sort.OwnSortedInts
import Derived.RegionTactic
import Derived.IntWalk
import Derived.Outline
/- The choice of an interval: the walk of peer.state. -/
namespace Go.Proofs.Ytffmhbblcihogaa.PeerS
open Go.RowKit Go.Proofs.YtffmhbblcihogaaW.PrintWords PAll PeerP Opns Mem PeerK
theorem sort_calls {w : World} {base : Nat} {v : Value} {xs : List Int} (h : Ow .i64 3 w base v xs) (hp : 0 < xs.length) (hs : xs.length ≤ 140737488355328) :
    Calls Try.prog 22 #[v] w fun e w' => e = .returned (.tuple #[]) ∧ Ow .i64 3 w' base v (sorted xs) ∧ w.grownBy w' v.ownBlock := by
  obtain ⟨g, cap, rfl, hb, hlt, _⟩ := Kd.R_form h hp
  obtain ⟨inner, ho⟩ := Kd.R_own h
  have ho' := Kd.own_of_R (e := 3) h
  have ho2 : w.ownsRow base 3 1 (.slice (some ⟨g, 0, none⟩) xs.length cap) xs.length (encs (Value.int .i64) xs) := ho'
  rcases ho2.2 with ⟨h0, _⟩ | ⟨g', cap', cur, hv, hg, hh, hn, hcap, hsz, ht⟩
  · cases h0
  cases hv
  rw [Nat.mul_one] at ht
  have ht' : cur.toList.take xs.length = xs.map (Value.int .i64) := ht
  have hH := holds_of_blockI hh ht'
  refine (Try.slices_Sort_int g 0 cap xs w hH hlt (by omega)).mono ?_
  rintro e w' ⟨rfl, n, os, rfl⟩
  refine ⟨rfl, ?_, grownBy_sortedI _⟩
  have hl : (xs.mergeSort fun x y => decide (x ≤ y)).length = xs.length := sorted_len xs
  have := ownsRow_sortedI (n := n) (os := os) (ts := xs.mergeSort fun x y => decide (x ≤ y)) hl hb hh hn hcap hsz
  refine Kd.R_of_own (enc := Value.int .i64) (h1 := fun _ => rfl) ?_ (fun _ _ => trivial)
  show World.ownsRow _ base 3 1 _ (sorted xs).length (encs (Value.int .i64) (sorted xs))
  rw [sorted_len]
  exact this
theorem E_away {w w1 : World} {base g : Nat} {tv : Value} {t : List Ie} {cur : Array Value} (h : kE.R 38 w base (fun _ => True) tv t) (hb : w.heap[g]? = some (.cells cur 3 (0, 0))) (hg : w.grownBy w1 (some g)) : kE.R 38 w1 base (fun _ => True) tv t :=
  Kd.R_mono (Kd.R_grown (Kd.R_types h hb (by decide)) hg (fun k hk e => by injection e with e; exact hk.2 e)) (fun _ _ => trivial)
theorem ow_block {w : World} {base : Nat} {v : Value} {xs : List Int} (h : Ow .i64 3 w base v xs) (hp : 0 < xs.length) : ∃ g cur, v.ownBlock = some g ∧ base ≤ g ∧ w.heap[g]? = some (.cells cur 3 (0, 0)) := by
  have ho' := Kd.own_of_R (e := 3) h
  have ho2 : w.ownsRow base 3 1 v xs.length (encs (Value.int .i64) xs) := ho'
  rcases ho2.2 with ⟨h0, h1⟩ | ⟨g', cap', cur, hv, hg, hh, _⟩
  · omega
  · subst hv; exact ⟨g', cur, rfl, hg, hh⟩
theorem ow_at {w : World} {base g : Nat} {v : Value} {xs : List Int} (h : Ow .i64 3 w base v xs) (hg : v.ownBlock = some g) : base ≤ g ∧ ∃ cur, w.heap[g]? = some (.cells cur 3 (0, 0)) := by
  have ho' := Kd.own_of_R (e := 3) h
  have ho2 : w.ownsRow base 3 1 v xs.length (encs (Value.int .i64) xs) := ho'
  rcases ho2.2 with ⟨h0, h1⟩ | ⟨g', cap', cur, hv, hb, hh, _⟩
  · subst h0; cases hg
  · subst hv
    injection hg with hg
    have hg : g' = g := hg
    subst hg
    exact ⟨hb, cur, hh⟩
theorem E_other {w w1 : World} {base base' : Nat} {tv v : Value} {t : List Ie} {xs : List Int} (h : kE.R 38 w base (fun _ => True) tv t) (hv : Ow .i64 3 w base' v xs) (hg : w.grownBy w1 v.ownBlock) : kE.R 38 w1 base (fun _ => True) tv t := by
  cases hb : v.ownBlock with
  | none => rw [hb] at hg; exact Kd.R_grown h hg (fun k _ => by simp)
  | some g =>
    rw [hb] at hg
    obtain ⟨_, cur, hc⟩ := ow_at hv hb
    exact E_away h hc hg
theorem infoI : (Try.prog.info? 3).map (fun i => (i.zero, i.size, i.bytes)) = some (some (.int .i64 0), (Kd.int .i64).sz, 8) := by kernel_rfl
theorem reach_step (x : Iv) (H : Int) (t : List Ie) (n : Nat) (q : Ie) (hq : t[n]? = some q) : ((t.take (n + 1)).filter (reach x H)).length = ((t.take n).filter (reach x H)).length + (if reach x H q = true then 1 else 0) := by
  have hn := (List.getElem?_eq_some_iff.1 hq).1
  have e : t[n] = q := (List.getElem?_eq_some_iff.1 hq).2
  rw [List.take_succ_eq_append_getElem hn, e, List.filter_append, List.length_append]
  cases h : reach x H q <;> simp [h]
theorem reach_eq {x : Iv} {H : Int} {q : Ie} {r1 : Int} {r2 : Bool} (h : hasV (hasO x q.x) = (r1, r2)) : reach x H q = (r2 && decide (H ≤ r1)) := by
  unfold reach
  cases hh : hasO x q.x with
  | none => rw [hh] at h; obtain ⟨rfl, rfl⟩ := Prod.mk.inj h; rfl
  | some z => rw [hh] at h; obtain ⟨rfl, rfl⟩ := Prod.mk.inj h; rfl
theorem below_up {w0 w w2 x : World} (h : Below w0.heap.size w0 w2) (hle : w0.heap.size ≤ w.heap.size) (k : Below w.heap.size w2 x) : Below w0.heap.size w0 x :=
  ⟨k.os.trans h.os, k.tape.trans h.tape, k.output.trans h.output, Nat.le_trans h.size k.size, fun i hi => (k.block i (Nat.lt_of_lt_of_le hi hle)).trans (h.block i hi)⟩
theorem grown_then {w w2 x : World} {row : Option Nat} (h : w.grownBy w2 row) (k : Below w.heap.size w2 x) : w.grownBy x row :=
  ⟨k.os.trans h.os, k.tape.trans h.tape, k.output.trans h.output, Nat.le_trans h.size k.size, fun i hi hr => (k.block i hi).trans (h.block i hi hr)⟩
theorem grown_from {w w1 w2 : World} {row : Option Nat} (k : Below w.heap.size w w1) (h : w1.grownBy w2 row) : w.grownBy w2 row :=
  ⟨h.os.trans k.os, h.tape.trans k.tape, h.output.trans k.output, Nat.le_trans k.size h.size, fun i hi hr => (h.block i (Nat.lt_of_lt_of_le hi k.size) hr).trans (k.block i hi)⟩
set_option maxHeartbeats 1600000 in
set_option maxRecDepth 100000 in
theorem state_calls (p : Xe) (A : Option Addr) (c : Nat) (t : List Ie) (v : Value) (k : Nat) (w0 w : World) (hp : GoodX w0 p) (hg : ∀ i ∈ t, GoodE w0 i) (ht : kE.R 38 w w0.heap.size (fun _ => True) (.slice A t.length c) t)
    (hv : Ow .i64 3 w w0.heap.size v (heads p.x t)) (hk1 : 1 ≤ k) (hk : k ≤ (heads p.x t).length) (hl : t.length ≤ 17592186044416) (hB : Below w0.heap.size w0 w) :
    Calls Try.prog 16 #[.agg (aggX p), .slice A t.length c, v, .int .i64 k] w fun e w' => ∃ Aw cw, e = .returned (.agg #[.int .i64 3, .int .i64 p.x.fr, .int .i64 (headOf p.x t k), .slice Aw (t.filter (reach p.x (headOf p.x t k))).length cw]) ∧ w.grownBy w' v.ownBlock := by
  have hhl := heads_len p.x t
  obtain ⟨gv, curv, hgv, hgb, hblk⟩ := ow_block hv (by omega)
  have HP := Lib.hid hp
  have HG := Lib.hid hg
  have HL := Lib.hid hl
  have HK := Lib.hid (And.intro hk1 hk)
  have HW0 : Hid (w0.heap.size ≤ w.heap.size) := Lib.hid hB.size
  have HB1 : Hid (Below w0.heap.size w0 ((w.alloc (.cells (aggX p) 33)).alloc (.cells #[.int .i64 0, .int .i64 0, .int .i64 0, .slice none 0 0] 27))) := Lib.hid (below_alloc (below_alloc hB _) _)
  have HT1 : Hid (kE.R 38 ((w.alloc (.cells (aggX p) 33)).alloc (.cells #[.int .i64 0, .int .i64 0, .int .i64 0, .slice none 0 0] 27)) w0.heap.size (fun _ => True) (.slice A t.length c) t) := Lib.hid (Kd.R_alloc (Kd.R_alloc ht _) _)
  have HV1 : Hid (Ow .i64 3 ((w.alloc (.cells (aggX p) 33)).alloc (.cells #[.int .i64 0, .int .i64 0, .int .i64 0, .slice none 0 0] 27)) w0.heap.size v (heads p.x t)) := Lib.hid (Kd.R_alloc (Kd.R_alloc hv _) _)
  have HX1 : Hid (((w.alloc (.cells (aggX p) 33)).alloc (.cells #[.int .i64 0, .int .i64 0, .int .i64 0, .slice none 0 0] 27)).heap[w.heap.size]? = some (.cells (aggX p) 33 (0, 0))) := Lib.hid (blk_alloc (blk_new _ _) _)
  have HR1 : Hid (((w.alloc (.cells (aggX p) 33)).alloc (.cells #[.int .i64 0, .int .i64 0, .int .i64 0, .slice none 0 0] 27)).heap[w.heap.size + 1]? = some (.cells #[.int .i64 0, .int .i64 0, .int .i64 0, .slice none 0 0] 27 (0, 0))) := Lib.hid (by have := blk_new (w.alloc (.cells (aggX p) 33)) (.cells #[.int .i64 0, .int .i64 0, .int .i64 0, .slice none 0 0] 27); simpa using this)
  have HV : Hid (v.ownBlock = some gv ∧ w0.heap.size ≤ gv ∧ ((w.alloc (.cells (aggX p) 33)).alloc (.cells #[.int .i64 0, .int .i64 0, .int .i64 0, .slice none 0 0] 27)).heap[gv]? = some (.cells curv 3 (0, 0))) := Lib.hid ⟨hgv, hgb, blk_alloc (blk_alloc hblk _) _⟩
  have hlt := (heads p.x t).length
  clear hp hg ht hv hk1 hk hl hB hgv hgb hblk hhl hlt
  go_enter Try.func16, Try.ntmps16
  go_wp2_with fail
  refine (sort_calls HV1.out (by have := HK.out; omega) (by have := HL.out; have := heads_len p.x t; omega)).mono ?_
  rintro e w2 ⟨rfl, hs, hg⟩
  rw [HV.out.1] at hg
  have HT2 := Lib.hid (E_away HT1.out HV.out.2.2 hg)
  have HB2 := Lib.hid (HB1.out.grown hg HB1.out.size (fun k hk => by injection hk with hk; have := HV.out.2.1; omega))
  have hne : ∀ {g ty : Nat} {cs : Array Value}, ((w.alloc (.cells (aggX p) 33)).alloc (.cells #[.int .i64 0, .int .i64 0, .int .i64 0, .slice none 0 0] 27)).heap[g]? = some (.cells cs ty (0, 0)) → ty ≠ 3 → some g ≠ some gv := fun h hn e => by
    injection e with e
    exact blk_ne h HV.out.2.2 hn e
  have HG2 : Hid (w.grownBy w2 (some gv)) := Lib.hid (grown_from (below_alloc (below_alloc (Below.refl _ _) _) _) hg)
  have HX2 := Lib.hid (blk_grown HX1.out hg (hne HX1.out (by decide)))
  have HR2 := Lib.hid (blk_grown HR1.out hg (hne HR1.out (by decide)))
  have HS2 := Lib.hid hs
  clear hs hg hne HT1 HB1 HX1 HR1 HV1
  obtain ⟨gs, cap, rfl, hcap, hgs, hgs2, hcell⟩ := HS2.out.cells (by rw [sorted_len]; have := HK.out; omega)
  have hk1 : (1 : Int) ≤ k := by have := HK.out; omega
  have hk2 : (k : Int) ≤ (heads p.x t).length := by have := HK.out; omega
  have hm2 : (heads p.x t).length ≤ 9223372036854775807 := by have := heads_len p.x t; have := HL.out; omega
  have e0 : (sorted (heads p.x t)).length = (heads p.x t).length := sorted_len _
  have hH : w2.cell? ⟨gs, (heads p.x t).length - k, none⟩ = some (.int .i64 (headOf p.x t k)) := by
    refine hcell _ _ ?_
    have hlt : (heads p.x t).length - k < (sorted (heads p.x t)).length := by rw [e0]; have := HK.out; omega
    unfold headOf
    rw [List.getD_eq_getElem?_getD, List.getElem?_eq_getElem hlt]; rfl
  rw [e0] at HS2 ⊢
  clear e0 hcell
  have hH2 : w2.cell? ⟨gs, ((heads p.x t).length - (k : Int)).toNat, none⟩ = some (.int .i64 (headOf p.x t k)) := by
    rw [show ((heads p.x t).length - (k : Int)).toNat = (heads p.x t).length - k by omega]; exact hH
  obtain ⟨c0, c1, c2, c3, c4, c5⟩ := blkX HX2.out
  have hz : w.heap.size < w2.heap.size := blk_lt HX2.out
  go_wp2_with fail
  have k0 : (0 : Int) ≤ (heads p.x t).length - (k : Int) := by omega
  have k1 : ((heads p.x t).length : Int) - (k : Int) < (heads p.x t).length := by omega
  have kw : IntKind.i64.wrap ((heads p.x t).length - (k : Int)) = (heads p.x t).length - (k : Int) := IntWalk.i64_in _ (by omega)
  go_region
  clear k0 k1 kw c0 c1 c2 c3 c4 c5 hH hH2 hk1 hk2
  go_wp2_with fail
  have HW4 : Hid (w.heap.size ≤ w2.heap.size) := Lib.hid (Nat.le_of_lt hz)
  have HW3 : Hid (Below w2.heap.size w2 (w2.alloc (.cells #[.int .i64 3, .int .i64 p.x.fr, .int .i64 (headOf p.x t k), .slice none 0 0] 27)).drew) := Lib.hid (below_drew (below_alloc (Below.refl _ _) _))
  have HC3 : Hid ((w2.alloc (.cells #[.int .i64 3, .int .i64 p.x.fr, .int .i64 (headOf p.x t k), .slice none 0 0] 27)).drew.heap[w2.heap.size]? = some (.cells #[.int .i64 3, .int .i64 p.x.fr, .int .i64 (headOf p.x t k), .slice none 0 0] 27 (0, 0))) := Lib.hid (blk_drew (blk_new w2 _))
  have hml : t.length ≤ 9223372036854775807 := by have := HL.out; omega
  go_loopw [28] (fun i' wr => ∃ (n : Nat) (wv : Value) (ws : List Int), i' = .int .i64 n ∧ Hid (n ≤ t.length ∧ ws.length = ((t.take n).filter (reach p.x (headOf p.x t k))).length) ∧ Hid (Ow .i64 3 wr w.heap.size wv ws) ∧ Hid (wr.heap[w2.heap.size]? = some (.cells #[.int .i64 3, .int .i64 p.x.fr, .int .i64 (headOf p.x t k), wv] 27 (0, 0))) ∧ Hid (wr.heap[w.heap.size]? = some (.cells (aggX p) 33 (0, 0))) ∧ Hid (wr.heap[w.heap.size + 1]? = some (.cells #[.int .i64 0, .int .i64 0, .int .i64 0, .slice none 0 0] 27 (0, 0))) ∧ Hid (kE.R 38 wr w0.heap.size (fun _ => True) (.slice A t.length c) t) ∧ Hid (Below w.heap.size w2 wr)) (fun i' _ => (t.length - intOf i').toNat)
  case atStart => exact ⟨0, _, [], rfl, Lib.hid ⟨Nat.zero_le _, rfl⟩, Lib.hid (Ow.nil _ _ _ _), HC3, Lib.hid (blk_below HX2.out HW3.out), Lib.hid (blk_below HR2.out HW3.out), Lib.hid (Kd.R_below HT2.out HW3.out), Lib.hid (below_then ⟨rfl, rfl, rfl, Nat.le_refl _, fun _ _ => rfl⟩ HW4.out HW3.out)⟩
  case round =>
    obtain ⟨n, wv, ws, rfl, HN, HO, HC, HX, HR, HT, HBB⟩ := hrel
    have HB := Lib.hid (below_up HB2.out HW0.out HBB.out)
    have HSW : Hid (w.heap.size ≤ wr.heap.size) := Lib.hid (Nat.le_trans HW4.out HBB.out.size)
    have hn := HN.out.1
    obtain ⟨_, _, hC⟩ := Kd.R_reads' HT.out
    by_cases h : n < t.length
    · have hlt : decide (n < t.length) = true := decide_eq_true h
      have i0 : (0 : Int) ≤ n := by omega
      obtain ⟨ad, q, hq, hA, a0, a1, a2, a3, a4⟩ := at_E hC n h
      subst hA
      have HQ := Lib.hid hq
      have HBA := Lib.hid (below_alloc (Below.refl wr.heap.size wr) (.cells (aggE q) 38))
      have T := has_calls p q (wr.alloc (.cells (aggE q) 38)) ((HP.out.below HB.out).below HBA.out) (((HG.out q (List.mem_of_getElem? hq)).below HB.out).below HBA.out)
      obtain ⟨r1, r2, hr⟩ : ∃ r1 r2, hasV (hasO p.x q.x) = (r1, r2) := ⟨_, _, rfl⟩
      rw [hr] at T
      have HRE := Lib.hid (reach_eq (H := headOf p.x t k) hr)
      have T := Lib.hid T
      clear hr
      have HBQ : Hid ((wr.alloc (.cells (aggE q) 38)).heap[wr.heap.size]? = some (.cells (aggE q) 38 (0, 0))) := Lib.hid (blk_new wr _)
      have HX1 := Lib.hid (blk_alloc HX.out (.cells (aggE q) 38))
      have HR1 := Lib.hid (blk_alloc HR.out (.cells (aggE q) 38))
      have HC1 := Lib.hid (blk_alloc HC.out (.cells (aggE q) 38))
      have HT1 := Lib.hid (Kd.R_alloc HT.out (.cells (aggE q) 38))
      have HO1 := Lib.hid (Kd.R_alloc HO.out (.cells (aggE q) 38))
      have HB1 : Hid (Below w.heap.size w2 (wr.alloc (.cells (aggE q) 38))) := Lib.hid (HBB.out.alloc HSW.out _)
      obtain ⟨c0, c1, c2, c3, c4, c5⟩ := blkX HX1.out
      have HST := Lib.hid (reach_step p.x (headOf p.x t k) t n q hq)
      clear hq HX HR HC HT HO HB HBB HBA hC
      go_wp2_with fail
      refine T.out.mono ?_
      rintro e w5 ⟨rfl, hb⟩
      clear c0 c1 c2 c3 c4 c5 T a0 a1 a2 a3 a4
      have HX5 := Lib.hid (blk_below HX1.out hb)
      have HR5 := Lib.hid (blk_below HR1.out hb)
      have HC5 := Lib.hid (blk_below HC1.out hb)
      have HT5 := Lib.hid (Kd.R_below HT1.out hb)
      have HO5 := Lib.hid (Kd.R_below HO1.out hb)
      have HB5 := Lib.hid (below_then HB1.out (Nat.le_trans HW4.out HB1.out.size) hb)
      have HQ5 := Lib.hid (blk_below HBQ.out hb)
      clear hb HX1 HR1 HC1 HT1 HO1 HB1 HBQ
      obtain ⟨c0, c1, c2, c3, c4⟩ := blkE HQ5.out
      have d2 : w5.cell? ⟨w2.heap.size, 2, none⟩ = some (.int .i64 (headOf p.x t k)) := blk_cell HC5.out 2
      have d3 : w5.cell? ⟨w2.heap.size, 3, none⟩ = some wv := blk_cell HC5.out 3
      cases r2
      · have HRE2 : Hid (reach p.x (headOf p.x t k) q = false) := Lib.hid HRE.out
        clear HRE
        go_wp2_with fail
        go_roundw
        case rel => exact ⟨n + 1, wv, ws, by go_num, Lib.hid ⟨by omega, by rw [HST.out, HRE2.out]; exact HN.out.2⟩, HO5, HC5, HX5, HR5, HT5, HB5⟩
        case measure => simp only [intOf]; omega
      · cases hd : decide (headOf p.x t k ≤ r1)
        · have HRE2 : Hid (reach p.x (headOf p.x t k) q = false) := Lib.hid (by rw [HRE.out, hd]; rfl)
          clear HRE
          go_wp2_with fail
          go_roundw
          case rel => exact ⟨n + 1, wv, ws, by go_num, Lib.hid ⟨by omega, by rw [HST.out, HRE2.out]; exact HN.out.2⟩, HO5, HC5, HX5, HR5, HT5, HB5⟩
          case measure => simp only [intOf]; omega
        · have HRE2 : Hid (reach p.x (headOf p.x t k) q = true) := Lib.hid (by rw [HRE.out, hd]; rfl)
          have HLW : Hid (ws.length < t.length) := Lib.hid (by rw [HN.out.2]; have := List.length_filter_le (reach p.x (headOf p.x t k)) (t.take n); have := List.length_take_le n t; omega)
          clear HRE
          go_wp2_with (first | (at_builtin; go_must (refine Kd.R_append (Kd.int .i64) (w0 := w2) w.heap.size rfl _ _ 25 3 (.int .i64 0) 8 rfl Try.underlying25 infoI rfl (by decide) (by decide) _ ws q.x.osd [.int .i64 q.x.osd] (fun _ => True) (fun _ => False) rfl rfl rfl (fun _ hk => hk.elim) (fun _ _ => trivial) (by exact HO5.out) (by exact HB5.out) (by exact Nat.le_trans HW4.out HB5.out.size) ?hl ?_; (case hl => have := HLW.out; have := HL.out; omega)); intro v7 w7 ho hb hg hg2; obtain ⟨A7, k7, rfl⟩ := Kd.R_slice ho; have HC7 := Lib.hid (blk_grown HC5.out hg (Kd.R_ne HO5.out HC5.out (by decide))); have HX7 := Lib.hid (blk_grown HX5.out hg (Kd.R_ne HO5.out HX5.out (by decide))); have HR7 := Lib.hid (blk_grown HR5.out hg (Kd.R_ne HO5.out HR5.out (by decide))); have HT7 := Lib.hid (E_other HT5.out HO5.out hg); have HO7 := Lib.hid ho; have HB7 := Lib.hid hb; clear ho hb hg hg2 HC5 HX5 HR5 HT5 HO5 HB5 d2 d3 c0 c1 c2 c3 c4; have d3 := blk_cell HC7.out 3; have f3 := blk_frozen HC7.out 3))
          have HC8 := Lib.hid (blk_set HC7.out 3 (.slice A7 (ws ++ [q.x.osd]).length k7))
          have HX8 := Lib.hid (blk_far HX7.out (p := ⟨w2.heap.size, 3, none⟩) (blk_ne HX7.out HC7.out (by decide)) (.slice A7 (ws ++ [q.x.osd]).length k7))
          have HR8 := Lib.hid (blk_far HR7.out (p := ⟨w2.heap.size, 3, none⟩) (Nat.ne_of_lt (blk_lt HR2.out)) (.slice A7 (ws ++ [q.x.osd]).length k7))
          have HT8 := Lib.hid (Kd.R_set HT7.out HC7.out (by decide) 3 (.slice A7 (ws ++ [q.x.osd]).length k7))
          have HO8 := Lib.hid (Kd.R_set HO7.out HC7.out (by decide) 3 (.slice A7 (ws ++ [q.x.osd]).length k7))
          have HB8 := Lib.hid (HB7.out.setCell (p := ⟨w2.heap.size, 3, none⟩) HW4.out (.slice A7 (ws ++ [q.x.osd]).length k7))
          simp only [List.length_append, List.length_singleton] at HC8 HX8 HR8 HT8 HO8 HB8
          go_roundw
          case rel => exact ⟨n + 1, _, _, by go_num, Lib.hid ⟨by omega, by rw [HST.out, HRE2.out, List.length_append, HN.out.2]; rfl⟩, HO8, HC8, HX8, HR8, HT8, HB8⟩
          case measure => simp only [intOf]; omega
    · obtain rfl : n = t.length := by omega
      have hlt : decide (t.length < t.length) = false := decide_eq_false (by omega)
      have hw := HN.out.2
      rw [List.take_length] at hw
      have hpos : 0 < ws.length := by rw [hw]; exact reach_some p.x t k HK.out.1 HK.out.2
      have hbig : ws.length ≤ 140737488355328 := by rw [hw]; have := List.length_filter_le (reach p.x (headOf p.x t k)) t; have := HL.out; omega
      obtain ⟨gw, curw, hgw, hgb, hgl⟩ := ow_block HO.out hpos
      obtain ⟨A9, c9, rfl⟩ := Kd.R_slice HO.out
      have d3 : wr.cell? ⟨w2.heap.size, 3, none⟩ = some (.slice A9 ws.length c9) := blk_cell HC.out 3
      have HW := Lib.hid hw
      have T := Lib.hid (sort_calls HO.out hpos hbig)
      have HGW := Lib.hid (And.intro hgw (And.intro hgb hgl))
      clear hw hpos hbig hgw hgb hgl hC
      go_wp2_with fail
      refine T.out.mono ?_
      rintro e w6 ⟨rfl, hs, hg⟩
      rw [HGW.out.1] at hg
      have HC6 := Lib.hid (blk_grown HC.out hg (by intro e; injection e with e; exact blk_ne HC.out HGW.out.2.2 (by decide) e))
      have HR6 := Lib.hid (blk_grown HR.out hg (by intro e; injection e with e; exact blk_ne HR.out HGW.out.2.2 (by decide) e))
      have HB6 := Lib.hid (HBB.out.grown hg HSW.out (fun k hk => by injection hk with hk; have := HGW.out.2.1; omega))
      clear hs hg d3 T
      have b0 := blk_cell HC6.out 0
      have b1 := blk_cell HC6.out 1
      have b2 := blk_cell HC6.out 2
      have b3 := blk_cell HC6.out 3
      have e0 := blk_cell HR6.out 0
      have e1 := blk_cell HR6.out 1
      have e2 := blk_cell HR6.out 2
      have e3 := blk_cell HR6.out 3
      have f0 := blk_frozen HR6.out 0
      have f1 := blk_frozen HR6.out 1
      have f2 := blk_frozen HR6.out 2
      have f3 := blk_frozen HR6.out 3
      go_wp2_with fail
      refine bodyPost_ret (v := .agg #[.int .i64 3, .int .i64 p.x.fr, .int .i64 (headOf p.x t k), .slice A9 ws.length c9]) (by simp [results, Try.results16, go_sem, e0, e1, e2, e3]) rfl ⟨A9, c9, by rw [HW.out], ?_⟩
      rw [HV.out.1]
      refine grown_then HG2.out ?_
      have hle : w.heap.size ≤ w.heap.size + 1 := by omega
      exact (((HB6.out.setCell (p := ⟨w.heap.size + 1, 0, none⟩) hle _).setCell (p := ⟨w.heap.size + 1, 1, none⟩) hle _).setCell (p := ⟨w.heap.size + 1, 2, none⟩) hle _).setCell (p := ⟨w.heap.size + 1, 3, none⟩) hle _
end Go.Proofs.Ytffmhbblcihogaa.PeerS
