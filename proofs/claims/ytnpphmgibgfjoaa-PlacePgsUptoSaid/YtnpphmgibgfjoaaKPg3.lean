import Derived.Test.YtnpphmgibgfjoaaKPg2
import Derived.Test.YtnpphmgibgfjoaaRows
import Derived.WalkKit
import Derived.ProofKit
import Derived.OpenShut
import Derived.ShutString
import Derived.ChangeOld
import Derived.Below
import Derived.SizedLaws
import Derived.JoinedCond
import Derived.Deep.CondSized
namespace Go.Proofs.Ytnpphmgibgfjoaa.Chr
open Go Go.RowKit Go.Proofs.YtnpphmgibgfjoaaW.PrintWords Go.Proofs.YtnpphmgibgfjoaaW.PrintMore Go.Proofs.YtnpphmgibgfjoaaW.PrintLast Mem PAll KW MixP MixW StrP StrW AtA Srt Grp Sl Dsc AtB Roo Rep Cho MayP Awk Rds WghP Wgh
open CrP hiding Od
abbrev kI : Kd Int := Kd.int .i64
theorem infoI : (Try.prog.info? 3).map (fun i => (i.zero, i.size, i.bytes)) = some (some (.int .i64 0), kI.sz, 8) := by kernel_rfl
def I2 (w : World) (base : Nat) (u : Value) (xs : List Int) (v : Value) (ys : List Int) : Prop :=
  kI.R 3 w base (fun k => True ∧ some k ≠ v.ownBlock) u xs ∧ kI.R 3 w base (fun k => True ∧ some k ≠ u.ownBlock) v ys
theorem I2.below {w w1 : World} {base : Nat} {u v : Value} {xs ys : List Int} (h : I2 w base u xs v ys) (hb : Below w.heap.size w w1) : I2 w1 base u xs v ys := ⟨Kd.R_below h.1 hb, Kd.R_below h.2 hb⟩
theorem I2.more2 {W w1 : World} {base : Nat} {u v v1 : Value} {xs ys : List Int} (h : I2 W base u xs v ys) {zs : List Int} (hg : W.grownBy w1 v.ownBlock) (hat : v1.ownBlock = v.ownBlock ∨ ∃ b, v1.ownBlock = some b ∧ W.heap.size ≤ b) (hv : kI.R 3 w1 base (fun k => True ∧ some k ≠ u.ownBlock) v1 zs) : I2 w1 base u xs v1 zs :=
  ⟨Kd.R_after h.1 hg hat, hv⟩
theorem I2.more1 {W w1 : World} {base : Nat} {u v u1 : Value} {xs ys : List Int} (h : I2 W base u xs v ys) {zs : List Int} (hg : W.grownBy w1 u.ownBlock) (hat : u1.ownBlock = u.ownBlock ∨ ∃ b, u1.ownBlock = some b ∧ W.heap.size ≤ b) (hu : kI.R 3 w1 base (fun k => True ∧ some k ≠ v.ownBlock) u1 zs) : I2 w1 base u1 zs v ys :=
  ⟨hu, Kd.R_after h.2 hg hat⟩
theorem own_fresh {w : World} {base : Nat} {ok : Nat → Prop} {v : Value} {ys : List Int} (h : kI.R 3 w base ok v ys) : ∀ k, w.heap.size ≤ k → True ∧ some k ≠ v.ownBlock := fun k hk => ⟨trivial, fun e => by have := Kd.R_lt h k e.symm; omega⟩
theorem I2.start (w : World) (base : Nat) (hb : base ≤ w.heap.size) : I2 ((w.alloc (.cells #[] 3)).alloc (.cells #[] 3)) base (.slice (some ⟨w.heap.size, 0, none⟩) 0 0) [] (.slice (some ⟨w.heap.size + 1, 0, none⟩) 0 0) [] := by
  have e : (w.alloc (.cells #[] 3)).heap.size = w.heap.size + 1 := by simp only [World.alloc, Array.size_push]
  have h1 : OwnRow (fun x cs => kI.M w base (fun k => True ∧ some k ≠ (none : Option Nat)) x cs) 3 kI.sz (w.alloc (.cells #[] 3)) base (.slice (some ⟨w.heap.size, 0, none⟩) 0 0) [] := OwnRow.lit w base (ps := []) (inner := []) (Reps.none _ _) hb (Nat.zero_le _)
  have h2 : OwnRow (fun x cs => kI.M w base (fun k => True ∧ some k ≠ (none : Option Nat)) x cs) 3 kI.sz ((w.alloc (.cells #[] 3)).alloc (.cells #[] 3)) base (.slice (some ⟨(w.alloc (.cells #[] 3)).heap.size, 0, none⟩) 0 0) [] := OwnRow.lit _ base (ps := []) (inner := []) (Reps.none _ _) (by rw [e]; omega) (Nat.zero_le _)
  rw [e] at h2
  refine ⟨⟨fun k hk => ⟨trivial, ?_⟩, (h1.below (below_alloc (Below.refl _ _) _)).imp_ (fun _ _ h => h)⟩, ⟨fun k hk => ⟨trivial, ?_⟩, h2.imp_ (fun _ _ h => h)⟩⟩
  · have hk' : w.heap.size = k := by simpa [Value.ownBlock] using hk
    subst hk'
    simp [Value.ownBlock]
  · have hk' : w.heap.size + 1 = k := by simpa [Value.ownBlock] using hk
    subst hk'
    simp [Value.ownBlock]
theorem at_kI {w : World} {base g n cap : Nat} {ok : Nat → Prop} {xs : List Int} (h : kI.R 3 w base ok (.slice (some ⟨g, 0, none⟩) n cap) xs) (i : Nat) (x : Int) (hi : xs[i]? = some x) : w.cell? ⟨g, i, none⟩ = some (.int .i64 x) := by
  have hC := (Kd.R_reads' h).2.2
  have hl : i < xs.length := (List.getElem?_eq_some_iff.1 hi).1
  obtain ⟨ad, e, hc⟩ := hC.2.2 (by omega)
  injection e with e
  subst e
  obtain ⟨cs, _, hK, hcell⟩ := hc i x hi
  have hcs : cs = [.int .i64 x] := hK
  subst hcs
  have := hcell 0 _ rfl
  rw [show i * kI.sz + 0 = i from Nat.mul_one i, add_plain] at this
  exact this
set_option linter.unusedSimpArgs false
end Go.Proofs.Ytnpphmgibgfjoaa.Chr
namespace Go.Proofs.Ytnpphmgibgfjoaa.IntG
open Go Go.RowKit Go.Proofs.YtnpphmgibgfjoaaW.PrintWords Go.Proofs.YtnpphmgibgfjoaaW.PrintLast Go.Proofs.YtnpphmgibgfjoaaW.PrintMore PAll Chr UpsP MayP Cho
theorem rd_get {l : List Int} {i : Nat} (h : i < l.length) : rd l (i : Int) = l[i] := by
  unfold rd
  simp [List.getD_eq_getElem?_getD, List.getElem?_eq_getElem h]
end Go.Proofs.Ytnpphmgibgfjoaa.IntG
namespace Go.Proofs.Ytnpphmgibgfjoaa.Ups
open Go Go.RowKit Go.Proofs.YtnpphmgibgfjoaaW.PrintWords Go.Proofs.YtnpphmgibgfjoaaW.PrintMore Mem PAll KW MixP MixW StrP StrW AtA Srt Grp Sl Dsc AtB Roo Rep Cho MayP Awk UpsP
open CrP hiding Od
end Go.Proofs.Ytnpphmgibgfjoaa.Ups
namespace Go.Proofs.Ytnpphmgibgfjoaa.UpsO
open Go Go.RowKit Go.Proofs.YtnpphmgibgfjoaaW.PrintWords Opns PAll KW AtA Grp AtB Ups
instance : Inhabited S40 := ⟨⟨0, false, false, 0, 0, 0, 0, 0⟩⟩
structure Ru where
  f0 : Int
  f1 : Int
  deriving Inhabited
end Go.Proofs.Ytnpphmgibgfjoaa.UpsO
namespace Go.Proofs.Ytnpphmgibgfjoaa.LDe
open Go Go.RowKit Go.Proofs.YtnpphmgibgfjoaaW.PrintWords Go.Proofs.YtnpphmgibgfjoaaW.PrintMore Mem PAll KW MixP MixW StrP StrW AtA Srt Grp Sl Dsc AtB Roo Rep Cho MayP Awk Rds
open CrP hiding Od
set_option maxHeartbeats 4000000 in
set_option maxRecDepth 100000 in
theorem law_calls (HWE : Weighs) (ep k m p d : Int) (A : Option Addr) (c : Nat) (l : List Od) (x r0 r1 : Int) (w : World) (hx : kO.C w A l.length l) (hcap : l.length ≤ c) (hwf : WfL l) :
    Calls Try.prog 6 #[.agg (boxM ep k m p d A c l), .int .u32 x, .agg #[.int .i64 r0, .int .i64 r1]] w fun e w' => e = .returned (.bool true) ∧ Below w.heap.size w w' := by
  have HBA := Lib.hid (below_alloc (below_alloc (Below.refl w.heap.size w) (.cells (boxM ep k m p d A c l) 26)) (.cells #[.int .i64 r0, .int .i64 r1] 44))
  have HC1 := Lib.hid (Kd.C_below hx HBA.out)
  have HM1 : Hid (((w.alloc (.cells (boxM ep k m p d A c l) 26)).alloc (.cells #[.int .i64 r0, .int .i64 r1] 44)).heap[w.heap.size]? = some (.cells (boxM ep k m p d A c l) 26 (0, 0))) := Lib.hid (blk_below (blk_new _ _) (below_alloc (Below.refl _ _) _))
  have HU1 : Hid (((w.alloc (.cells (boxM ep k m p d A c l) 26)).alloc (.cells #[.int .i64 r0, .int .i64 r1] 44)).heap[w.heap.size + 1]? = some (.cells #[.int .i64 r0, .int .i64 r1] 44 (0, 0))) := Lib.hid (by have h := blk_new (w.alloc (.cells (boxM ep k m p d A c l) 26)) (.cells #[.int .i64 r0, .int .i64 r1] 44); simp only [World.alloc, Array.size_push] at h ⊢; exact h)
  obtain ⟨w1, hw1⟩ : ∃ w1, w1 = (w.alloc (.cells (boxM ep k m p d A c l) 26)).alloc (.cells #[.int .i64 r0, .int .i64 r1] 44) := ⟨_, rfl⟩
  have HWN := Lib.hid hw1
  rw [← hw1] at HBA HC1 HM1 HU1
  clear hw1
  obtain ⟨a, ha⟩ : ∃ a, a = descI (mayB ep k m p d l) x (r0 % 4294967296) l := ⟨_, rfl⟩
  obtain ⟨b, hb⟩ : ∃ b, b = roomI (mayB ep k m p d l) r1 l := ⟨_, rfl⟩
  have T1 : Hid (∀ dd os, Calls Try.prog 20 #[.agg (boxM ep k m p d A c l), .int .u32 x, .int .u32 (r0 % 4294967296)] (Sort.grow (redrawn w1 dd) os) fun e w' => e = .returned (.int .i64 a) ∧ Below (Sort.grow (redrawn w1 dd) os).heap.size (Sort.grow (redrawn w1 dd) os) w') := Lib.hid (fun dd os => by rw [ha]; exact Descend_calls ep k m p d A c l x _ _ (Kd.C_below HC1.out (below_regrown w1 dd os)) hwf)
  have T2 : Hid (∀ dd os, Calls Try.prog 21 #[.agg (boxM ep k m p d A c l), .int .u32 x, .int .u32 (r0 % 4294967296)] (Sort.grow (redrawn w1 dd) os) fun e w' => e = .returned (.int .i64 a) ∧ Below (Sort.grow (redrawn w1 dd) os).heap.size (Sort.grow (redrawn w1 dd) os) w') := Lib.hid (fun dd os => by rw [ha]; exact rDescend_calls HWE ep k m p d A c l x _ _ (Kd.C_below HC1.out (below_regrown w1 dd os)) hcap)
  have T3 : Hid (∀ dd os, Calls Try.prog 22 #[.agg (boxM ep k m p d A c l), .int .i64 r1] (Sort.grow (redrawn w1 dd) os) fun e w' => e = .returned (.int .i64 b) ∧ Below (Sort.grow (redrawn w1 dd) os).heap.size (Sort.grow (redrawn w1 dd) os) w') := Lib.hid (fun dd os => by rw [hb]; exact Room_calls ep k m p d A c l r1 _ (Kd.C_below HC1.out (below_regrown w1 dd os)) hwf)
  have T4 : Hid (∀ dd os, Calls Try.prog 19 #[.agg (boxM ep k m p d A c l), .int .i64 r1] (Sort.grow (redrawn w1 dd) os) fun e w' => e = .returned (.int .i64 b) ∧ Below (Sort.grow (redrawn w1 dd) os).heap.size (Sort.grow (redrawn w1 dd) os) w') := Lib.hid (fun dd os => by rw [hb]; exact rRoom_calls HWE ep k m p d A c l r1 _ (Kd.C_below HC1.out (below_regrown w1 dd os)) hcap)
  have T5 : Hid (∀ dd os, Calls Try.prog 14 #[] (Sort.grow (redrawn w1 dd) os) fun e w' => e = .returned (.bool true) ∧ Below (Sort.grow (redrawn w1 dd) os).heap.size (Sort.grow (redrawn w1 dd) os) w') := Lib.hid (fun dd os => awake_calls _)
  unfold boxM at *
  have z0 := cell_regrown (blk_cell HM1.out 0)
  have z1 := cell_regrown (blk_cell HM1.out 1)
  have z2 := cell_regrown (blk_cell HM1.out 2)
  have z3 := cell_regrown (blk_cell HM1.out 3)
  have z4 := cell_regrown (blk_cell HM1.out 4)
  have z5 := cell_regrown (blk_cell HM1.out 5)
  have v0 := cell_regrown (blk_cell HU1.out 0)
  have v1 := cell_regrown (blk_cell HU1.out 1)
  clear hx hcap hwf ha hb HC1 HM1 HU1
  go_enter Try.func6, Try.ntmps6
  go_wp2_with fail
  rw [← HWN.out]
  refine wp_region_quiet_below (by kernel_rfl) (by kernel_rfl) ?_
  repeat (go_big_quiet_step ((first | (go_at_call 20; exact Calls.regrown_of (T1.out _ _)) | (go_at_call 21; exact Calls.regrown_of (T2.out _ _)) | (go_at_call 22; exact Calls.regrown_of (T3.out _ _)) | (go_at_call 19; exact Calls.regrown_of (T4.out _ _)) | (go_at_call 14; exact Calls.regrown_of (T5.out _ _)))))
  refine wpQuiet_nil ?_
  intro _ hw'
  obtain ⟨⟨dq, osq⟩, hw''⟩ := hw'
  subst hw''
  have HB2 := Lib.hid (below_then HBA.out HBA.out.size (below_regrown w1 dq osq))
  go_wp2_with fail
  go_ret
  exact ⟨rfl, HB2.out⟩
end Go.Proofs.Ytnpphmgibgfjoaa.LDe
namespace Go.Proofs.Ytnpphmgibgfjoaa.DeO
open Go Go.RowKit Go.Proofs.YtnpphmgibgfjoaaW.PrintWords Opns PAll AtA AtB Rds Wgh UpsO
theorem weighs : Weighs := fun lv A c l w hlv hx hg => weighed_calls lv A c l w hlv hx hg
end Go.Proofs.Ytnpphmgibgfjoaa.DeO
namespace Go.Proofs.Ytnpphmgibgfjoaa.LAp
open Go Go.RowKit Go.Proofs.YtnpphmgibgfjoaaW.PrintWords Go.Proofs.YtnpphmgibgfjoaaW.PrintMore Mem PAll KW MixP MixW StrP StrW AtA Srt Grp Sl Dsc AtB Roo Rep Cho MayP Awk Ups UpsP Rds Wgh Chr IntG UpsO DeO ApP Fnd
open CrP hiding Od
theorem outA_at {n : Nat} {ps : List Int} {i : Nat} {v : Int} (h : ps[i]? = some v) : (outA n ps)[i]? = some (.int .i64 v) := by
  have hi := (List.getElem?_eq_some_iff.1 h).1
  rw [List.getElem?_toArray, List.getElem?_append_left (by rw [List.length_map]; exact hi), List.getElem?_map, h]
  rfl
theorem some_succ {cs : List (Option Od)} {i : Nat} {c : Option Od} (h : cs[i]? = some c) : some_ (cs.take (i + 1)) = some_ (cs.take i) + (if c.isSome = true then 1 else 0) := by
  obtain ⟨hi, e⟩ := List.getElem?_eq_some_iff.1 h
  unfold some_
  rw [List.take_succ_eq_append_getElem hi, e, List.filterMap_append, List.length_append]
  cases c <;> rfl
theorem some_take_le (cs : List (Option Od)) (i : Nat) : some_ (cs.take i) ≤ i := by
  have h1 := List.length_filterMap_le id (cs.take i)
  have h2 := List.length_take_le i cs
  unfold some_
  omega
theorem weight_pos {o : Od} (h : 0 < wOf o) : o.f2 = true ∧ 0 < o.f3 := by
  unfold wOf at h
  split at h
  · rename_i e; exact ⟨e, h⟩
  · omega
set_option maxHeartbeats 8000000 in
set_option maxRecDepth 100000 in
theorem law_calls (ep k m p d : Int) (A : Option Addr) (c : Nat) (l : List Od) (dm want x : Int) (w : World) (hx : kO.C w A l.length l) (hcap : l.length ≤ c) (hwf : WfL l) :
    Calls Try.prog 4 #[.agg (boxM ep k m p d A c l), .agg #[.int .i64 dm, .int .i64 want], .int .u32 x] w fun e w' => e = .returned (.bool true) ∧ Below w.heap.size w w' := by
  have HX := Lib.hid hx
  have HWF := Lib.hid hwf
  have HCAP := Lib.hid hcap
  have hml : l.length ≤ 9223372036854775807 := hx.2.1
  have HBA := Lib.hid (below_alloc (below_alloc (Below.refl w.heap.size w) (.cells (boxM ep k m p d A c l) 26)) (.cells #[.int .i64 dm, .int .i64 want] 28))
  have HM1 : Hid (((w.alloc (.cells (boxM ep k m p d A c l) 26)).alloc (.cells #[.int .i64 dm, .int .i64 want] 28)).heap[w.heap.size]? = some (.cells (boxM ep k m p d A c l) 26 (0, 0))) := Lib.hid (blk_below (blk_new _ _) (below_alloc (Below.refl _ _) _))
  have HU1 : Hid (((w.alloc (.cells (boxM ep k m p d A c l) 26)).alloc (.cells #[.int .i64 dm, .int .i64 want] 28)).heap[w.heap.size + 1]? = some (.cells #[.int .i64 dm, .int .i64 want] 28 (0, 0))) := Lib.hid (by have h := blk_new (w.alloc (.cells (boxM ep k m p d A c l) 26)) (.cells #[.int .i64 dm, .int .i64 want] 28); simp only [World.alloc, Array.size_push] at h ⊢; exact h)
  have T := Lib.hid (may_calls ep k m p d A c l _ (Kd.C_below hx HBA.out) hcap)
  obtain ⟨mb, hmb⟩ : ∃ mb, mb = mayB ep k m p d l := ⟨_, rfl⟩
  have HMB := Lib.hid hmb.symm
  rw [← hmb] at T
  obtain ⟨cb, hcb⟩ : ∃ cb, cb = choB (mayB ep k m p d l) dm want := ⟨_, rfl⟩
  have HCB := Lib.hid hcb.symm
  obtain ⟨lb, hlb⟩ : ∃ lb, lb = (decide (l.length ≤ 24) && decide (want ≤ 12)) := ⟨_, rfl⟩
  have HLB := Lib.hid hlb.symm
  clear hx hcap hwf hmb hcb hlb
  unfold boxM at *
  go_enter Try.func4, Try.ntmps4
  go_wp2_with fail
  refine T.out.mono ?_
  rintro e w2 ⟨rfl, hb⟩
  have HB2 := Lib.hid (below_then HBA.out HBA.out.size hb)
  have HM2 := Lib.hid (blk_below HM1.out hb)
  have HU2 := Lib.hid (blk_below HU1.out hb)
  clear hb T HBA HM1 HU1
  cases mb with
  | false =>
    obtain rfl : cb = false := by rw [← HCB.out]; unfold choB; rw [HMB.out]; rfl
    have m0 := blk_cell HM2.out 0
    have m1 := blk_cell HM2.out 1
    have m2 := blk_cell HM2.out 2
    have m3 := blk_cell HM2.out 3
    have m4 := blk_cell HM2.out 4
    have m5 := blk_cell HM2.out 5
    have u0 := blk_cell HU2.out 0
    have u1 := blk_cell HU2.out 1
    go_wp2_with fail
    clear m0 m1 m2 m3 m4 m5 u0 u1
    refine (Choose_bad ep k m p d A c l dm want x _ (Kd.C_below HX.out HB2.out) HWF.out HCB.out).mono ?_
    rintro e w3 ⟨rfl, hb⟩
    have HB3 := Lib.hid (below_then HB2.out HB2.out.size hb)
    have HM3 := Lib.hid (blk_below HM2.out hb)
    have HU3 := Lib.hid (blk_below HU2.out hb)
    clear hb HB2 HM2 HU2
    go_wp2_with fail
    refine (awake_calls _).mono ?_
    rintro e w4 ⟨rfl, hb⟩
    have HB4 := Lib.hid (below_then HB3.out HB3.out.size hb)
    clear hb
    go_wp2_with fail
    go_ret
    exact ⟨rfl, HB4.out⟩
  | true =>
    have TL := Lib.hid (light_calls ep k m p d A c l dm want w2 (Kd.C_below HX.out HB2.out))
    rw [HLB.out] at TL
    have m0 := blk_cell HM2.out 0
    have m1 := blk_cell HM2.out 1
    have m2 := blk_cell HM2.out 2
    have m3 := blk_cell HM2.out 3
    have m4 := blk_cell HM2.out 4
    have m5 := blk_cell HM2.out 5
    have u0 := blk_cell HU2.out 0
    have u1 := blk_cell HU2.out 1
    go_wp2_with fail
    clear m0 m1 m2 m3 m4 m5 u0 u1
    refine (TL.out).mono ?_
    rintro e w3 ⟨rfl, hb⟩
    have HB3 := Lib.hid (below_then HB2.out HB2.out.size hb)
    have HM3 := Lib.hid (blk_below HM2.out hb)
    have HU3 := Lib.hid (blk_below HU2.out hb)
    clear hb HB2 HM2 HU2
    clear TL
    cases lb with
    | false =>
      go_wp2_with fail
      refine (awake_calls _).mono ?_
      rintro e w4 ⟨rfl, hb⟩
      have HB4 := Lib.hid (below_then HB3.out HB3.out.size hb)
      clear hb
      go_wp2_with fail
      go_ret
      exact ⟨rfl, HB4.out⟩
    | true =>
      cases cb with
      | false =>
        have m0 := blk_cell HM3.out 0
        have m1 := blk_cell HM3.out 1
        have m2 := blk_cell HM3.out 2
        have m3 := blk_cell HM3.out 3
        have m4 := blk_cell HM3.out 4
        have m5 := blk_cell HM3.out 5
        have u0 := blk_cell HU3.out 0
        have u1 := blk_cell HU3.out 1
        go_wp2_with fail
        clear m0 m1 m2 m3 m4 m5 u0 u1
        refine (Choose_bad ep k m p d A c l dm want x _ (Kd.C_below HX.out HB3.out) HWF.out HCB.out).mono ?_
        rintro e w4 ⟨rfl, hb⟩
        have HB4 := Lib.hid (below_then HB3.out HB3.out.size hb)
        have HM4 := Lib.hid (blk_below HM3.out hb)
        have HU4 := Lib.hid (blk_below HU3.out hb)
        clear hb HB3 HM3 HU3
        go_wp2_with fail
        refine (awake_calls _).mono ?_
        rintro e w5 ⟨rfl, hb⟩
        have HB5 := Lib.hid (below_then HB4.out HB4.out.size hb)
        clear hb
        go_wp2_with fail
        go_ret
        exact ⟨rfl, HB5.out⟩
      | true =>
        have hch := HCB.out
        unfold choB at hch
        simp only [Bool.and_eq_true, decide_eq_true_eq] at hch
        obtain ⟨n, hn⟩ := Int.eq_ofNat_of_zero_le (show 0 ≤ want by omega)
        subst hn
        have HDB := Lib.hid hch.2.1
        have HN1 : Hid (1 ≤ n) := Lib.hid (by omega)
        have HN2 : Hid (n ≤ 32) := Lib.hid (by omega)
        clear hch
        have m0 := blk_cell HM3.out 0
        have m1 := blk_cell HM3.out 1
        have m2 := blk_cell HM3.out 2
        have m3 := blk_cell HM3.out 3
        have m4 := blk_cell HM3.out 4
        have m5 := blk_cell HM3.out 5
        have u0 := blk_cell HU3.out 0
        have u1 := blk_cell HU3.out 1
        go_wp2_with fail
        refine (Choose_ok ep k m p d A c l dm x n _ (Kd.C_below HX.out HB3.out) HWF.out HMB.out HDB.out HN1.out HN2.out).mono ?_
        rintro e w4 ⟨g, rfl, _, hg, hb⟩
        have HB4 := Lib.hid (below_then HB3.out HB3.out.size hb)
        have HM4 := Lib.hid (blk_below HM3.out hb)
        have HU4 := Lib.hid (blk_below HU3.out hb)
        have HC4 := Lib.hid (Kd.C_below HX.out HB4.out)
        obtain ⟨cs, hcs⟩ : ∃ cs, cs = slots l x n (domL dm) n 0 [] := ⟨_, rfl⟩
        have HG4 : Hid (w4.heap[g]? = some (.cells (outA n (cs.map vO)) 3 (0, 0))) := Lib.hid (by rw [hg, places_slots, hcs])
        have HLEN : Hid (cs.length = n) := Lib.hid (by rw [hcs]; exact slots_len _ _ _ _ _ _ _)
        have HASC := Lib.hid (may_asc HMB.out)
        have HRNG : Hid (∀ o ∈ l, 0 ≤ o.f0) := Lib.hid (fun o ho => (osd_ranges (may_osd HMB.out o ho)).1.1)
        have HSM : Hid (∀ (i : Nat) (o : Od), cs[i]? = some (some o) → o ∈ l ∧ o.f2 = true ∧ 0 < o.f3 ∧ findO l o.f0 = some o) := Lib.hid (fun i o h => by
          rw [hcs] at h
          have h1 := slots_mem HASC.out (List.mem_of_getElem? h)
          exact ⟨h1.1, (weight_pos h1.2.1).1, (weight_pos h1.2.1).2, findO_mem HASC.out h1.1⟩)
        have HAP : Hid (∀ (i j : Nat) (o q : Od), j < i → cs[i]? = some (some o) → cs[j]? = some (some q) → q.f0 ≠ o.f0 ∧ (dm = 1 → q.f6 ≠ o.f6) ∧ (dm = 2 → q.f7 ≠ o.f7)) := Lib.hid (fun i j o q hij hi hj => by
          rw [hcs] at hi hj
          have h1 := apart_get HASC.out hij hi hj
          have ho := (slots_mem HASC.out (List.mem_of_getElem? hi)).1
          have hq := (slots_mem HASC.out (List.mem_of_getElem? hj)).1
          refine ⟨fun e => h1 (by rw [same_host HMB.out hq ho e]), fun e => ?_, fun e => ?_⟩
          · subst e; exact h1
          · subst e; exact h1)
        have HSR : Hid (some_ cs ≤ room (domL dm) l) := Lib.hid (by rw [hcs]; exact some_le_room HMB.out)
        have HSP : Hid (room (domL dm) l ≠ 0 → 0 < some_ cs) := Lib.hid (by rw [hcs]; exact some_pos HMB.out HN1.out)
        have HFN : Hid (findO l (-1) = none) := Lib.hid (findO_none (fun o ho e => by have := HRNG.out o ho; omega))
        have TF := Lib.hid (fun id w1 h => find_calls ep k m p d A c l id w1 h HCAP.out)
        unfold boxM at TF
        have hn32 : n ≤ 32 := HN2.out
        clear hb hg hcs HB3 HM3 HU3 m0 m1 m2 m3 m4 m5 u0 u1
        have HBS := Lib.hid (Below.refl w4.heap.size w4)
        go_wp2_with fail
        go_loopw [9, 10] (fun s' i' wr => ∃ (i sm : Nat), s' = .int .i64 sm ∧ i' = .int .i64 i ∧ Hid (i ≤ n) ∧ Hid (sm = some_ (cs.take i)) ∧ Hid (Below w4.heap.size w4 wr)) (fun _ i' _ => (n - intOf i').toNat)
        case atStart => exact ⟨0, 0, rfl, rfl, Lib.hid (Nat.zero_le _), Lib.hid rfl, HBS⟩
        case round =>
          obtain ⟨i, sm, rfl, rfl, HI, HS, HB⟩ := hrel
          clear HBS
          have hi := HI.out
          have hsm : sm ≤ i := by rw [HS.out]; exact some_take_le _ _
          by_cases h : i < n
          · have hlt : decide ((i : Int) < (n : Int)) = true := decide_eq_true (by omega)
            have hlt2 : decide (i < n) = true := decide_eq_true h
            have i0 : (0 : Int) ≤ i := by omega
            have i1 : (i : Int) < n := by omega
            obtain ⟨ci, hci⟩ : ∃ ci, cs[i]? = some ci := ⟨cs[i]'(by rw [HLEN.out]; exact h), List.getElem?_eq_getElem (by rw [HLEN.out]; exact h)⟩
            have HSS := Lib.hid (some_succ hci)
            have HGv := Lib.hid (blk_below HG4.out HB.out)
            have gc : wr.cell? ⟨g, i, none⟩ = some (.int .i64 (vO ci)) := by rw [blk_cell HGv.out i]; exact outA_at (by rw [List.getElem?_map, hci]; rfl)
            have HIL := Lib.hid h
            clear h
            cases ci with
            | none =>
              clear hci
              have e1 : vO none = -1 := rfl
              rw [e1] at gc
              clear e1
              go_wp2_with fail
              go_roundw
              case rel => exact ⟨i + 1, sm, rfl, by go_num, Lib.hid HIL.out, Lib.hid (by rw [HSS.out, HS.out]; rfl), HB⟩
              case measure => have := HIL.out; simp only [intOf]; omega
            | some o =>
              have HCI := Lib.hid hci
              obtain ⟨hmem, hin, hw3, hfo⟩ := HSM.out i o hci
              have hr0 := HRNG.out o hmem
              have e1 : vO (some o) = o.f0 := rfl
              rw [e1] at gc
              have hne : (o.f0 == -1) = false := beq_eq_false_iff_ne.2 (by omega)
              have ks : IntKind.i64.wrap ((sm : Int) + 1) = (sm : Int) + 1 := IntWalk.i64_in _ (by omega)
              have HOW : Hid (o.f2 = true ∧ (o.f3 == 0) = false) := Lib.hid ⟨hin, beq_eq_false_iff_ne.2 (by omega)⟩
              have T1 : Hid (∀ W, kO.C W A l.length l → Calls Try.prog 18 #[.agg #[.int .i64 ep, .int .i64 k, .int .i64 m, .int .i64 p, .int .i64 d, .slice A l.length c], .int .i64 o.f0] W fun e w' => e = .returned (.tuple #[.agg (aggO o), .bool true]) ∧ Below W.heap.size W w') := Lib.hid (fun W h => by
                have h1 := TF.out o.f0 W h
                rw [hfo] at h1
                exact h1)
              clear hci hmem hin hw3 hfo hr0 e1
              obtain ⟨wv, hwv⟩ : ∃ wv, wv = wr := ⟨_, rfl⟩
              have HMv := Lib.hid (blk_below HM4.out HB.out)
              have HCv := Lib.hid (Kd.C_below HC4.out HB.out)
              rw [← hwv] at HMv HCv HB HGv gc ⊢
              clear hwv
              go_upto_region 12 with fail
              go_cut [11, 12] from 41 to 119 (fun s1 s2 wx => ∃ R, s1 = .pointer (some ⟨R, 0, none⟩) ∧ s2 = .bool true ∧ wx.heap[R]? = some (.cells (aggO o) 40 (0, 0)) ∧ Below wv.heap.size wv wx)
              case first =>
                have m0 := blk_cell HMv.out 0
                have m1 := blk_cell HMv.out 1
                have m2 := blk_cell HMv.out 2
                have m3 := blk_cell HMv.out 3
                have m4 := blk_cell HMv.out 4
                have m5 := blk_cell HMv.out 5
                have n0 := cell_alloc m0 (.cells #[.int .i64 0, .bool false, .bool false, .int .i64 0, .int .i64 0, .int .i64 0, .int .i64 0, .int .i64 0] 40)
                have n1 := cell_alloc m1 (.cells #[.int .i64 0, .bool false, .bool false, .int .i64 0, .int .i64 0, .int .i64 0, .int .i64 0, .int .i64 0] 40)
                have n2 := cell_alloc m2 (.cells #[.int .i64 0, .bool false, .bool false, .int .i64 0, .int .i64 0, .int .i64 0, .int .i64 0, .int .i64 0] 40)
                have n3 := cell_alloc m3 (.cells #[.int .i64 0, .bool false, .bool false, .int .i64 0, .int .i64 0, .int .i64 0, .int .i64 0, .int .i64 0] 40)
                have n4 := cell_alloc m4 (.cells #[.int .i64 0, .bool false, .bool false, .int .i64 0, .int .i64 0, .int .i64 0, .int .i64 0, .int .i64 0] 40)
                have n5 := cell_alloc m5 (.cells #[.int .i64 0, .bool false, .bool false, .int .i64 0, .int .i64 0, .int .i64 0, .int .i64 0, .int .i64 0] 40)
                have gc2 := cell_alloc gc (.cells #[.int .i64 0, .bool false, .bool false, .int .i64 0, .int .i64 0, .int .i64 0, .int .i64 0, .int .i64 0] 40)
                go_region_with (go_at_call 18; refine (T1.out _ (by first | exact HCv.out | exact Kd.C_alloc HCv.out _)).mono ?_; rintro e w5 ⟨rfl, hb⟩; (first | (have HW5 : Hid (Below wv.heap.size wv w5) := Lib.hid (below_then (below_drew (Below.refl _ _)) (Nat.le_refl _) hb)) | (have hz : w5.heap[wv.heap.size]? = some (.cells (aggO ⟨0, false, false, 0, 0, 0, 0, 0⟩) 40 (0, 0)) := blk_below (by exact blk_new wv (.cells #[.int .i64 0, .bool false, .bool false, .int .i64 0, .int .i64 0, .int .i64 0, .int .i64 0, .int .i64 0] 40)) hb; have HZ := Lib.hid hz; obtain ⟨y0, y1, y2, y3, y4, y5, y6, y7⟩ := blkO hz; have f0 := blk_frozen hz 0; have f1 := blk_frozen hz 1; have f2 := blk_frozen hz 2; have f3 := blk_frozen hz 3; have f4 := blk_frozen hz 4; have f5 := blk_frozen hz 5; have f6 := blk_frozen hz 6; have f7 := blk_frozen hz 7; have HW5 : Hid (Below wv.heap.size wv w5) := Lib.hid (below_then (below_drew (below_alloc (Below.refl _ _) _)) (below_drew (below_alloc (Below.refl _ _) _)).size hb); clear hz)); clear hb)
                all_goals (go_wp2_with fail; go_meet; (first | exact ⟨wv.heap.size, rfl, rfl, put8_blk HZ.out o, put8_below HW5.out (Nat.le_refl _) o⟩ | exact ⟨w5.heap.size, rfl, rfl, blk_new _ _, below_alloc HW5.out _⟩))
              case rest =>
                obtain ⟨R, rfl, rfl, hR, hb⟩ := hcut
                have HR := Lib.hid hR
                have HBc := Lib.hid (below_then HB.out HB.out.size hb)
                clear hR hb HMv HCv HGv gc HB T1
                obtain ⟨y0, y1, y2, y3, y4, y5, y6, y7⟩ := blkO HR.out
                rw [HOW.out.1] at y2
                have hw0 := HOW.out.2
                go_wp2_with fail
                clear y0 y1 y2 y3 y4 y5 y6 y7 hw0 ks hne
                have HBI0 := Lib.hid (Below.refl wc.heap.size wc)
                go_loopw [13] (fun v13 wr => ∃ j : Nat, v13 = .int .i64 j ∧ Hid (j ≤ i) ∧ Hid (Below wc.heap.size wc wr)) (fun v13 _ => (i - intOf v13).toNat)
                case atStart => exact ⟨0, rfl, Lib.hid (Nat.zero_le _), HBI0⟩
                case round =>
                  obtain ⟨j, rfl, HJ, HBJ⟩ := hrel
                  clear HBI0
                  have hj := HJ.out
                  have HBW := Lib.hid (below_then HBc.out HBc.out.size HBJ.out)
                  by_cases hji : j < i
                  · have hlt3 : decide ((j : Int) < (i : Int)) = true := decide_eq_true (by omega)
                    have hlt4 : decide (j < i) = true := decide_eq_true hji
                    have j0 : (0 : Int) ≤ j := by omega
                    have j1 : (j : Int) < n := by omega
                    have hjn : j < n := by omega
                    obtain ⟨cj, hcj⟩ : ∃ cj, cs[j]? = some cj := ⟨cs[j]'(by rw [HLEN.out]; exact hjn), List.getElem?_eq_getElem (by rw [HLEN.out]; exact hjn)⟩
                    have gc : wr.cell? ⟨g, j, none⟩ = some (.int .i64 (vO cj)) := by rw [blk_cell (blk_below HG4.out HBW.out) j]; exact outA_at (by rw [List.getElem?_map, hcj]; rfl)
                    have HJL := Lib.hid hji
                    clear hjn hji
                    obtain ⟨wv, hwv⟩ : ∃ wv, wv = wr := ⟨_, rfl⟩
                    have HMv := Lib.hid (blk_below HM4.out HBW.out)
                    have HCv := Lib.hid (Kd.C_below HC4.out HBW.out)
                    rw [← hwv] at HMv HCv HBJ HBW gc ⊢
                    clear hwv
                    cases cj with
                    | none =>
                      clear hcj
                      have e1 : vO none = -1 := rfl
                      rw [e1] at gc
                      clear e1
                      have T2 : Hid (∀ W, kO.C W A l.length l → Calls Try.prog 18 #[.agg #[.int .i64 ep, .int .i64 k, .int .i64 m, .int .i64 p, .int .i64 d, .slice A l.length c], .int .i64 (-1)] W fun e w' => e = .returned (.tuple #[.agg #[.int .i64 0, .bool false, .bool false, .int .i64 0, .int .i64 0, .int .i64 0, .int .i64 0, .int .i64 0], .bool false]) ∧ Below W.heap.size W w') := Lib.hid (fun W h => by
                        have h1 := TF.out (-1) W h
                        rw [HFN.out] at h1
                        exact h1)
                      go_upto_region 18 with fail
                      go_cut [14, 15] from 75 to 119 (fun s1 s2 wx => ∃ R, s1 = .pointer (some ⟨R, 0, none⟩) ∧ s2 = .bool false ∧ wx.heap[R]? = some (.cells (#[.int .i64 0, .bool false, .bool false, .int .i64 0, .int .i64 0, .int .i64 0, .int .i64 0, .int .i64 0]) 40 (0, 0)) ∧ Below wv.heap.size wv wx)
                      case first =>
                        have m0 := blk_cell HMv.out 0
                        have m1 := blk_cell HMv.out 1
                        have m2 := blk_cell HMv.out 2
                        have m3 := blk_cell HMv.out 3
                        have m4 := blk_cell HMv.out 4
                        have m5 := blk_cell HMv.out 5
                        have n0 := cell_alloc m0 (.cells #[.int .i64 0, .bool false, .bool false, .int .i64 0, .int .i64 0, .int .i64 0, .int .i64 0, .int .i64 0] 40)
                        have n1 := cell_alloc m1 (.cells #[.int .i64 0, .bool false, .bool false, .int .i64 0, .int .i64 0, .int .i64 0, .int .i64 0, .int .i64 0] 40)
                        have n2 := cell_alloc m2 (.cells #[.int .i64 0, .bool false, .bool false, .int .i64 0, .int .i64 0, .int .i64 0, .int .i64 0, .int .i64 0] 40)
                        have n3 := cell_alloc m3 (.cells #[.int .i64 0, .bool false, .bool false, .int .i64 0, .int .i64 0, .int .i64 0, .int .i64 0, .int .i64 0] 40)
                        have n4 := cell_alloc m4 (.cells #[.int .i64 0, .bool false, .bool false, .int .i64 0, .int .i64 0, .int .i64 0, .int .i64 0, .int .i64 0] 40)
                        have n5 := cell_alloc m5 (.cells #[.int .i64 0, .bool false, .bool false, .int .i64 0, .int .i64 0, .int .i64 0, .int .i64 0, .int .i64 0] 40)
                        have gc2 := cell_alloc gc (.cells #[.int .i64 0, .bool false, .bool false, .int .i64 0, .int .i64 0, .int .i64 0, .int .i64 0, .int .i64 0] 40)
                        go_region_with (go_at_call 18; refine (T2.out _ (by first | exact HCv.out | exact Kd.C_alloc HCv.out _)).mono ?_; rintro e w5 ⟨rfl, hb⟩; (first | (have HW5 : Hid (Below wv.heap.size wv w5) := Lib.hid (below_then (below_drew (Below.refl _ _)) (Nat.le_refl _) hb)) | (have hz : w5.heap[wv.heap.size]? = some (.cells (aggO ⟨0, false, false, 0, 0, 0, 0, 0⟩) 40 (0, 0)) := blk_below (by exact blk_new wv (.cells #[.int .i64 0, .bool false, .bool false, .int .i64 0, .int .i64 0, .int .i64 0, .int .i64 0, .int .i64 0] 40)) hb; have HZ := Lib.hid hz; obtain ⟨y0, y1, y2, y3, y4, y5, y6, y7⟩ := blkO hz; have f0 := blk_frozen hz 0; have f1 := blk_frozen hz 1; have f2 := blk_frozen hz 2; have f3 := blk_frozen hz 3; have f4 := blk_frozen hz 4; have f5 := blk_frozen hz 5; have f6 := blk_frozen hz 6; have f7 := blk_frozen hz 7; have HW5 : Hid (Below wv.heap.size wv w5) := Lib.hid (below_then (below_drew (below_alloc (Below.refl _ _) _)) (below_drew (below_alloc (Below.refl _ _) _)).size hb); clear hz)); clear hb)
                        all_goals (go_wp2_with fail; go_meet; (first | exact ⟨wv.heap.size, rfl, rfl, put8_blk HZ.out ⟨0, false, false, 0, 0, 0, 0, 0⟩, put8_below HW5.out (Nat.le_refl _) ⟨0, false, false, 0, 0, 0, 0, 0⟩⟩ | exact ⟨w5.heap.size, rfl, rfl, blk_new _ _, below_alloc HW5.out _⟩))
                      case rest =>
                        obtain ⟨R2, rfl, rfl, hR, hb⟩ := hcut
                        have HBZ := Lib.hid (below_then HBJ.out HBJ.out.size hb)
                        clear hR hb HMv HCv gc HBJ HBW T2
                        go_wp2_with fail
                        go_roundw
                        case rel => exact ⟨j + 1, by go_num, Lib.hid (by have := HJL.out; omega), HBZ⟩
                        case measure => have := HJL.out; simp only [intOf]; omega
                    | some q =>
                      have HCJ := Lib.hid hcj
                      have hfo := (HSM.out j q hcj).2.2.2
                      have HAQ := Lib.hid (HAP.out i j o q HJL.out HCI.out hcj)
                      have e1 : vO (some q) = q.f0 := rfl
                      rw [e1] at gc
                      have T2 : Hid (∀ W, kO.C W A l.length l → Calls Try.prog 18 #[.agg #[.int .i64 ep, .int .i64 k, .int .i64 m, .int .i64 p, .int .i64 d, .slice A l.length c], .int .i64 q.f0] W fun e w' => e = .returned (.tuple #[.agg (aggO q), .bool true]) ∧ Below W.heap.size W w') := Lib.hid (fun W h => by
                        have h1 := TF.out q.f0 W h
                        rw [hfo] at h1
                        exact h1)
                      clear hcj hfo e1
                      go_upto_region 18 with fail
                      go_cut [14, 15] from 75 to 119 (fun s1 s2 wx => ∃ R, s1 = .pointer (some ⟨R, 0, none⟩) ∧ s2 = .bool true ∧ wx.heap[R]? = some (.cells (aggO q) 40 (0, 0)) ∧ Below wv.heap.size wv wx)
                      case first =>
                        have m0 := blk_cell HMv.out 0
                        have m1 := blk_cell HMv.out 1
                        have m2 := blk_cell HMv.out 2
                        have m3 := blk_cell HMv.out 3
                        have m4 := blk_cell HMv.out 4
                        have m5 := blk_cell HMv.out 5
                        have n0 := cell_alloc m0 (.cells #[.int .i64 0, .bool false, .bool false, .int .i64 0, .int .i64 0, .int .i64 0, .int .i64 0, .int .i64 0] 40)
                        have n1 := cell_alloc m1 (.cells #[.int .i64 0, .bool false, .bool false, .int .i64 0, .int .i64 0, .int .i64 0, .int .i64 0, .int .i64 0] 40)
                        have n2 := cell_alloc m2 (.cells #[.int .i64 0, .bool false, .bool false, .int .i64 0, .int .i64 0, .int .i64 0, .int .i64 0, .int .i64 0] 40)
                        have n3 := cell_alloc m3 (.cells #[.int .i64 0, .bool false, .bool false, .int .i64 0, .int .i64 0, .int .i64 0, .int .i64 0, .int .i64 0] 40)
                        have n4 := cell_alloc m4 (.cells #[.int .i64 0, .bool false, .bool false, .int .i64 0, .int .i64 0, .int .i64 0, .int .i64 0, .int .i64 0] 40)
                        have n5 := cell_alloc m5 (.cells #[.int .i64 0, .bool false, .bool false, .int .i64 0, .int .i64 0, .int .i64 0, .int .i64 0, .int .i64 0] 40)
                        have gc2 := cell_alloc gc (.cells #[.int .i64 0, .bool false, .bool false, .int .i64 0, .int .i64 0, .int .i64 0, .int .i64 0, .int .i64 0] 40)
                        go_region_with (go_at_call 18; refine (T2.out _ (by first | exact HCv.out | exact Kd.C_alloc HCv.out _)).mono ?_; rintro e w5 ⟨rfl, hb⟩; (first | (have HW5 : Hid (Below wv.heap.size wv w5) := Lib.hid (below_then (below_drew (Below.refl _ _)) (Nat.le_refl _) hb)) | (have hz : w5.heap[wv.heap.size]? = some (.cells (aggO ⟨0, false, false, 0, 0, 0, 0, 0⟩) 40 (0, 0)) := blk_below (by exact blk_new wv (.cells #[.int .i64 0, .bool false, .bool false, .int .i64 0, .int .i64 0, .int .i64 0, .int .i64 0, .int .i64 0] 40)) hb; have HZ := Lib.hid hz; obtain ⟨y0, y1, y2, y3, y4, y5, y6, y7⟩ := blkO hz; have f0 := blk_frozen hz 0; have f1 := blk_frozen hz 1; have f2 := blk_frozen hz 2; have f3 := blk_frozen hz 3; have f4 := blk_frozen hz 4; have f5 := blk_frozen hz 5; have f6 := blk_frozen hz 6; have f7 := blk_frozen hz 7; have HW5 : Hid (Below wv.heap.size wv w5) := Lib.hid (below_then (below_drew (below_alloc (Below.refl _ _) _)) (below_drew (below_alloc (Below.refl _ _) _)).size hb); clear hz)); clear hb)
                        all_goals (go_wp2_with fail; go_meet; (first | exact ⟨wv.heap.size, rfl, rfl, put8_blk HZ.out q, put8_below HW5.out (Nat.le_refl _) q⟩ | exact ⟨w5.heap.size, rfl, rfl, blk_new _ _, below_alloc HW5.out _⟩))
                      case rest =>
                        obtain ⟨R2, rfl, rfl, hR, hb⟩ := hcut
                        have HBZ := Lib.hid (below_then HBJ.out HBJ.out.size hb)
                        obtain ⟨z0, z1, z2, z3, z4, z5, z6, z7⟩ := blkO hR
                        have HB2 := Lib.hid (below_then HBW.out HBW.out.size hb)
                        obtain ⟨y0, y1, y2, y3, y4, y5, y6, y7⟩ := blkO (blk_below HR.out HBZ.out)
                        have u0 := blk_cell (blk_below HU4.out HB2.out) 0
                        have hq0 : (q.f0 == o.f0) = false := beq_eq_false_iff_ne.2 HAQ.out.1
                        clear hR hb HMv HCv gc HBJ HBW T2
                        by_cases hd1 : dm = 1
                        · have hb1 : (dm == 1) = true := beq_iff_eq.2 hd1
                          have hb2 : (dm == 2) = false := beq_eq_false_iff_ne.2 (by omega)
                          have hq6 : (q.f6 == o.f6) = false := beq_eq_false_iff_ne.2 (HAQ.out.2.1 hd1)
                          clear hd1
                          go_wp2_with fail
                          go_roundw
                          case rel => exact ⟨j + 1, by go_num, Lib.hid (by have := HJL.out; omega), HBZ⟩
                          case measure => have := HJL.out; simp only [intOf]; omega
                        · have hb1 : (dm == 1) = false := beq_eq_false_iff_ne.2 hd1
                          by_cases hd2 : dm = 2
                          · have hb2 : (dm == 2) = true := beq_iff_eq.2 hd2
                            have hq7 : (q.f7 == o.f7) = false := beq_eq_false_iff_ne.2 (HAQ.out.2.2 hd2)
                            clear hd1 hd2
                            go_wp2_with fail
                            go_roundw
                            case rel => exact ⟨j + 1, by go_num, Lib.hid (by have := HJL.out; omega), HBZ⟩
                            case measure => have := HJL.out; simp only [intOf]; omega
                          · have hb2 : (dm == 2) = false := beq_eq_false_iff_ne.2 hd2
                            clear hd1 hd2
                            go_wp2_with fail
                            go_roundw
                            case rel => exact ⟨j + 1, by go_num, Lib.hid (by have := HJL.out; omega), HBZ⟩
                            case measure => have := HJL.out; simp only [intOf]; omega
                  · obtain rfl : j = i := by omega
                    have hlt3 : decide ((j : Int) < (j : Int)) = false := decide_eq_false (by omega)
                    have hlt4 : decide (j < j) = false := decide_eq_false (by omega)
                    go_wp2_with fail
                    go_roundw
                    case rel => exact ⟨j + 1, sm + 1, by go_num, by go_num, Lib.hid HIL.out, Lib.hid (by rw [HSS.out, HS.out]; rfl), HBW⟩
                    case measure => have := HIL.out; simp only [intOf]; omega
          · obtain rfl : i = n := by omega
            have hlt : decide ((i : Int) < (i : Int)) = false := decide_eq_false (by omega)
            have hlt2 : decide (i < i) = false := decide_eq_false (by omega)
            have HMv := Lib.hid (blk_below HM4.out HB.out)
            have HUv := Lib.hid (blk_below HU4.out HB.out)
            have HCv := Lib.hid (Kd.C_below HC4.out HB.out)
            have HSE : Hid (sm = some_ cs) := Lib.hid (by rw [HS.out, List.take_of_length_le (by rw [HLEN.out]; exact Nat.le_refl _)])
            obtain ⟨rm, hrm⟩ : ∃ rm, rm = room (domL dm) l := ⟨_, rfl⟩
            have T3 : Hid (Calls Try.prog 19 #[.agg #[.int .i64 ep, .int .i64 k, .int .i64 m, .int .i64 p, .int .i64 d, .slice A l.length c], .int .i64 dm] wr fun e w' => e = .returned (.int .i64 (rm : Nat)) ∧ Below wr.heap.size wr w') := Lib.hid (by
              have h1 := rRoom_calls weighs ep k m p d A c l dm wr HCv.out HCAP.out
              unfold roomI at h1
              rw [HMB.out, HDB.out, if_pos (by rfl), ← hrm] at h1
              exact h1)
            have HRM : Hid (sm ≤ rm ∧ (rm ≠ 0 → 0 < sm)) := Lib.hid (by rw [HSE.out, hrm]; exact ⟨HSR.out, HSP.out⟩)
            clear hrm
            have m0 := blk_cell HMv.out 0
            have m1 := blk_cell HMv.out 1
            have m2 := blk_cell HMv.out 2
            have m3 := blk_cell HMv.out 3
            have m4 := blk_cell HMv.out 4
            have m5 := blk_cell HMv.out 5
            have u0 := blk_cell HUv.out 0
            go_wp2_with fail
            refine T3.out.mono ?_
            rintro e w6 ⟨rfl, hb⟩
            have HB6 := Lib.hid (below_then HB4.out HB4.out.size (below_then HB.out HB.out.size hb))
            have u1 := blk_cell (blk_below HUv.out hb) 1
            clear hb m0 m1 m2 m3 m4 m5 u0 T3
            have hr1 : decide ((sm : Int) ≤ (rm : Int)) = true := decide_eq_true (by have := HRM.out.1; omega)
            have hr2 : decide (sm ≤ rm) = true := decide_eq_true HRM.out.1
            by_cases hr0 : rm = 0
            · have hr3 : ((rm : Int) == 0) = true := beq_iff_eq.2 (by omega)
              clear hr0
              go_wp2_with fail
              refine (awake_calls _).mono ?_
              rintro e w7 ⟨rfl, hb⟩
              have HB7 := Lib.hid (below_then HB6.out HB6.out.size hb)
              clear hb
              go_wp2_with fail
              go_ret
              exact ⟨rfl, HB7.out⟩
            · have hr3 : ((rm : Int) == 0) = false := beq_eq_false_iff_ne.2 (by omega)
              have hsp := HRM.out.2 hr0
              have hr4 : decide ((0 : Int) < (sm : Int)) = true := decide_eq_true (by omega)
              have hr5 : decide (0 < sm) = true := decide_eq_true hsp
              clear hr0 hsp
              go_wp2_with fail
              refine (awake_calls _).mono ?_
              rintro e w7 ⟨rfl, hb⟩
              have HB7 := Lib.hid (below_then HB6.out HB6.out.size hb)
              clear hb
              go_wp2_with fail
              go_ret
              exact ⟨rfl, HB7.out⟩
end Go.Proofs.Ytnpphmgibgfjoaa.LAp
namespace Go.Proofs.Ytnpphmgibgfjoaa.PlA
open Go Go.RowKit Go.Proofs.YtnpphmgibgfjoaaW.PrintWords Go.Proofs.YtnpphmgibgfjoaaW.PrintMore Mem PAll KW MixP MixW StrP AtA Srt Grp Sl Dsc AtB Roo Cho MayP Awk UpsP ApP PlF PlU LAp
open CrP hiding Od
def aO : Option Od → Int
  | some o => if o.f1 = true then o.f0 else -1
  | none => -1
def mixA (cs : List (Option Od)) (i : Nat) : List Int := (cs.take i).map aO ++ (cs.drop i).map vO
theorem mixA_zero (cs : List (Option Od)) : mixA cs 0 = cs.map vO := by simp [mixA]
theorem mixA_all {cs : List (Option Od)} {n : Nat} (h : cs.length = n) : mixA cs n = cs.map aO := by
  unfold mixA
  rw [List.take_of_length_le (by omega), List.drop_eq_nil_of_le (by omega)]
  simp
theorem mixA_len (cs : List (Option Od)) (i : Nat) (h : i ≤ cs.length) : (mixA cs i).length = cs.length := by
  simp only [mixA, List.length_append, List.length_map, List.length_take, List.length_drop]
  omega
theorem mixA_get {cs : List (Option Od)} {i : Nat} {c : Option Od} (h : cs[i]? = some c) : (mixA cs i)[i]? = some (vO c) := by
  have hi := (List.getElem?_eq_some_iff.1 h).1
  have hl : ((cs.take i).map aO).length = i := by rw [List.length_map, List.length_take]; omega
  unfold mixA
  rw [List.getElem?_append_right (by omega), hl, Nat.sub_self, List.getElem?_map, List.getElem?_drop, Nat.add_zero, h]
  rfl
theorem mixA_succ {cs : List (Option Od)} {i : Nat} {c : Option Od} (h : cs[i]? = some c) : mixA cs (i + 1) = (mixA cs i).set i (aO c) := by
  obtain ⟨hi, e⟩ := List.getElem?_eq_some_iff.1 h
  have hl : ((cs.take i).map aO).length = i := by rw [List.length_map, List.length_take]; omega
  unfold mixA
  rw [List.set_append_right _ _ (by omega), hl, Nat.sub_self, List.drop_eq_getElem_cons hi, List.map_cons, List.set_cons_zero, List.take_succ_eq_append_getElem hi, List.map_append, e, List.append_assoc]
  rfl
theorem mixA_same {cs : List (Option Od)} {i : Nat} {c : Option Od} (h : cs[i]? = some c) (he : aO c = vO c) : mixA cs (i + 1) = mixA cs i := by
  rw [mixA_succ h, he]
  apply List.ext_getElem?
  intro j
  rw [List.getElem?_set]
  by_cases e : i = j
  · subst e
    rw [if_pos rfl, mixA_get h, if_pos (List.getElem?_eq_some_iff.1 (mixA_get h)).1]
  · rw [if_neg e]
theorem outA_put {n i : Nat} {ps : List Int} (h : i < ps.length) (v : Int) : (outA n ps).setIfInBounds i (.int .i64 v) = outA n (ps.set i v) := by
  unfold outA
  rw [List.setIfInBounds_toArray, List.set_append_left _ _ (by rw [List.length_map]; exact h), ← List.map_set, List.length_set]
set_option maxHeartbeats 8000000 in
set_option maxRecDepth 100000 in
theorem Acting_ok (ep k m p d : Int) (A : Option Addr) (c : Nat) (l : List Od) (pg : Int) (n : Nat) (w : World) (hx : kO.C w A l.length l) (hwf : WfL l) (hn : upB (mayB ep k m p d l) pg p = true) (hkm : k + m = n) :
    Calls Try.prog 35 #[.agg (boxM ep k m p d A c l), .int .i64 pg] w fun e w' => ∃ g, e = .returned (.tuple #[.slice (some ⟨g, 0, none⟩) n n, .int .i64 0]) ∧ w.heap.size ≤ g ∧ w'.heap[g]? = some (.cells (outA n ((slots l (pgX pg) n (domL d) n 0 []).map aO)) 3 (0, 0)) ∧ Below w.heap.size w w' := by
  have HB1 := Lib.hid (below_alloc (Below.refl w.heap.size w) (.cells (boxM ep k m p d A c l) 26))
  have HM1 : Hid ((w.alloc (.cells (boxM ep k m p d A c l) 26)).heap[w.heap.size]? = some (.cells (boxM ep k m p d A c l) 26 (0, 0))) := Lib.hid (blk_new _ _)
  have HC0 := Lib.hid hx
  have HC1 := Lib.hid (Kd.C_alloc hx (.cells (boxM ep k m p d A c l) 26))
  have T := Lib.hid (Up_ok ep k m p d A c l pg n _ HC1.out hwf hn hkm)
  have hup := hn
  unfold upB at hup
  simp only [Bool.and_eq_true, decide_eq_true_eq] at hup
  have hm := hup.1
  have hr := pool_ranges hm
  have hn32 : n ≤ 32 := by omega
  obtain ⟨cs, hcs⟩ : ∃ cs, cs = slots l (pgX pg) n (domL d) n 0 [] := ⟨_, rfl⟩
  rw [places_slots, ← hcs] at T
  rw [← hcs]
  have HASC := Lib.hid (may_asc hm)
  have HLEN : Hid (cs.length = n) := Lib.hid (by rw [hcs]; exact slots_len _ _ _ _ _ _ _)
  have HRNG : Hid (∀ o ∈ l, 0 ≤ o.f0) := Lib.hid (fun o ho => (osd_ranges (may_osd hm o ho)).1.1)
  have HSM : Hid (∀ (i : Nat) (o : Od), cs[i]? = some (some o) → findO l o.f0 = some o) := Lib.hid (fun i o h => by
    rw [hcs] at h
    exact findO_mem HASC.out (slots_mem HASC.out (List.mem_of_getElem? h)).1)
  have HFN : Hid (findO l (-1) = none) := Lib.hid (findO_none (fun o ho e => by have := HRNG.out o ho; omega))
  have TF := Lib.hid (fun id w1 h => aFind_calls ep k m p d A c l id w1 h)
  unfold boxM at *
  clear hx hwf hn hup hm hr hkm hcs
  go_enter Try.func35, Try.ntmps35
  go_wp2_with fail
  refine T.out.mono ?_
  rintro e w1 ⟨g, rfl, hg, hgh, hb⟩
  have HB2 := Lib.hid (below_then HB1.out HB1.out.size hb)
  have HM2 := Lib.hid (blk_below HM1.out hb)
  have HC2 := Lib.hid (Kd.C_below HC1.out hb)
  have HGH : Hid (w1.heap[g]? = some (.cells (outA n (mixA cs 0)) 3 (0, 0))) := Lib.hid (by rw [hgh, mixA_zero])
  have HGG : Hid (w.heap.size + 1 ≤ g) := Lib.hid (by simpa only [World.alloc, Array.size_push] using hg)
  clear hb hg hgh T HB1 HM1 HC1
  go_wp2_with fail
  go_loopw [20] (fun i' wr => ∃ i : Nat, i' = .int .i64 i ∧ Hid (i ≤ n) ∧ Hid (wr.heap[g]? = some (.cells (outA n (mixA cs i)) 3 (0, 0))) ∧ Hid (wr.heap[w.heap.size]? = some (.cells #[.int .i64 ep, .int .i64 k, .int .i64 m, .int .i64 p, .int .i64 d, .slice A l.length c] 26 (0, 0))) ∧ Hid (Below w.heap.size w wr) ∧ Hid (kO.C wr A l.length l)) (fun i' _ => (n - intOf i').toNat)
  case atStart => exact ⟨0, rfl, Lib.hid (Nat.zero_le _), HGH, HM2, HB2, HC2⟩
  case round =>
    obtain ⟨i, rfl, HI, HG, HM, HB, HC⟩ := hrel
    clear HGH HM2 HB2 HC2
    have hi := HI.out
    by_cases h : i < n
    · have hlt : decide ((i : Int) < (n : Int)) = true := decide_eq_true (by omega)
      have hlt2 : decide (i < n) = true := decide_eq_true h
      have i0 : (0 : Int) ≤ i := by omega
      have i1 : (i : Int) < n := by omega
      obtain ⟨ci, hci⟩ : ∃ ci, cs[i]? = some ci := ⟨cs[i]'(by rw [HLEN.out]; exact h), List.getElem?_eq_getElem (by rw [HLEN.out]; exact h)⟩
      have gc : wr.cell? ⟨g, i, none⟩ = some (.int .i64 (vO ci)) := by rw [blk_cell HG.out i]; exact outA_at (mixA_get hci)
      have HIL := Lib.hid h
      have HCI := Lib.hid hci
      have HML : Hid (i < (mixA cs i).length) := Lib.hid (by rw [mixA_len _ _ (by rw [HLEN.out]; exact HI.out), HLEN.out]; exact h)
      have m0 := blk_cell HM.out 0
      have m1 := blk_cell HM.out 1
      have m2 := blk_cell HM.out 2
      have m3 := blk_cell HM.out 3
      have m4 := blk_cell HM.out 4
      have m5 := blk_cell HM.out 5
      clear h
      cases ci with
      | none =>
        have e1 : vO none = -1 := rfl
        rw [e1] at gc
        have T2 : Hid (Calls Try.prog 66 #[.agg #[.int .i64 ep, .int .i64 k, .int .i64 m, .int .i64 p, .int .i64 d, .slice A l.length c], .int .i64 (-1)] wr fun e w' => e = .returned (.tuple #[.agg (#[.int .i64 0, .bool false, .bool false, .int .i64 0, .int .i64 0, .int .i64 0, .int .i64 0, .int .i64 0]), .bool false]) ∧ Below wr.heap.size wr w') := Lib.hid (by
          have h1 := TF.out (-1) wr HC.out
          rw [HFN.out] at h1
          exact h1)
        clear e1 hci
        go_wp2_with fail
        refine T2.out.mono ?_
        rintro e w5 ⟨rfl, hb⟩
        clear T2 m0 m1 m2 m3 m4 m5 gc
        have hb6 := below_alloc hb (.cells (#[.int .i64 0, .bool false, .bool false, .int .i64 0, .int .i64 0, .int .i64 0, .int .i64 0, .int .i64 0]) 40)
        have HB6 := Lib.hid (below_then HB.out HB.out.size hb6)
        have HM6 := Lib.hid (blk_below HM.out hb6)
        have HG6 := Lib.hid (blk_below HG.out hb6)
        have HC6 := Lib.hid (Kd.C_below HC.out hb6)
        clear hb hb6 HB HM HG HC
        have gf := blk_frozen HG6.out i
        have gcell : ∃ u, (w5.alloc (.cells (#[.int .i64 0, .bool false, .bool false, .int .i64 0, .int .i64 0, .int .i64 0, .int .i64 0, .int .i64 0]) 40)).cell? ⟨g, i, none⟩ = some u := ⟨_, by rw [blk_cell HG6.out i]; exact outA_at (mixA_get HCI.out)⟩
        obtain ⟨gu, gcell⟩ := gcell
        have hlt : decide ((i : Int) < (n : Int)) = true := decide_eq_true (by omega)
        go_wp2_with fail
        go_roundw
        case rel =>
          refine ⟨i + 1, by go_num, Lib.hid HIL.out, Lib.hid ?_, Lib.hid (blk_far HM6.out (by have := HGG.out; show w.heap.size ≠ g; omega) _), Lib.hid (HB6.out.setCell (show w.heap.size ≤ g by have := HGG.out; omega) _), Lib.hid (Kd.C_below HC0.out (HB6.out.setCell (show w.heap.size ≤ g by have := HGG.out; omega) _))⟩
          refine blk_put HG6.out i _ ?_
          rw [outA_put HML.out, mixA_succ HCI.out]
          rfl
        case measure => have := HIL.out; simp only [intOf]; omega
      | some o =>
        have e1 : vO (some o) = o.f0 := rfl
        rw [e1] at gc
        have T2 : Hid (Calls Try.prog 66 #[.agg #[.int .i64 ep, .int .i64 k, .int .i64 m, .int .i64 p, .int .i64 d, .slice A l.length c], .int .i64 o.f0] wr fun e w' => e = .returned (.tuple #[.agg (aggO o), .bool true]) ∧ Below wr.heap.size wr w') := Lib.hid (by
          have h1 := TF.out o.f0 wr HC.out
          rw [HSM.out i o hci] at h1
          exact h1)
        clear e1 hci
        go_wp2_with fail
        refine T2.out.mono ?_
        rintro e w5 ⟨rfl, hb⟩
        clear T2 m0 m1 m2 m3 m4 m5 gc
        have hb6 := below_alloc hb (.cells (aggO o) 40)
        have HB6 := Lib.hid (below_then HB.out HB.out.size hb6)
        have HM6 := Lib.hid (blk_below HM.out hb6)
        have HG6 := Lib.hid (blk_below HG.out hb6)
        have HC6 := Lib.hid (Kd.C_below HC.out hb6)
        clear hb hb6 HB HM HG HC
        cases hup : o.f1 with
        | true =>
          have HUP := Lib.hid hup
          have yy : (w5.alloc (.cells (aggO o) 40)).cell? ⟨w5.heap.size, 1, none⟩ = some (.bool true) := by rw [← hup]; exact blk_cell (blk_new w5 (.cells (aggO o) 40)) 1
          clear hup
          go_wp2_with fail
          go_roundw
          case rel => exact ⟨i + 1, by go_num, Lib.hid HIL.out, Lib.hid (by rw [mixA_same HCI.out (by show (if o.f1 = true then o.f0 else -1) = o.f0; rw [HUP.out]; rfl)]; exact HG6.out), HM6, HB6, HC6⟩
          case measure => have := HIL.out; simp only [intOf]; omega
        | false =>
          have HUP := Lib.hid hup
          have yy : (w5.alloc (.cells (aggO o) 40)).cell? ⟨w5.heap.size, 1, none⟩ = some (.bool false) := by rw [← hup]; exact blk_cell (blk_new w5 (.cells (aggO o) 40)) 1
          clear hup
          have gf := blk_frozen HG6.out i
          have gcell : ∃ u, (w5.alloc (.cells (aggO o) 40)).cell? ⟨g, i, none⟩ = some u := ⟨_, by rw [blk_cell HG6.out i]; exact outA_at (mixA_get HCI.out)⟩
          obtain ⟨gu, gcell⟩ := gcell
          have hlt : decide ((i : Int) < (n : Int)) = true := decide_eq_true (by omega)
          go_wp2_with fail
          go_roundw
          case rel =>
            refine ⟨i + 1, by go_num, Lib.hid HIL.out, Lib.hid ?_, Lib.hid (blk_far HM6.out (by have := HGG.out; show w.heap.size ≠ g; omega) _), Lib.hid (HB6.out.setCell (show w.heap.size ≤ g by have := HGG.out; omega) _), Lib.hid (Kd.C_below HC0.out (HB6.out.setCell (show w.heap.size ≤ g by have := HGG.out; omega) _))⟩
            refine blk_put HG6.out i _ ?_
            rw [outA_put HML.out, mixA_succ HCI.out, show aO (some o) = -1 by show (if o.f1 = true then o.f0 else -1) = -1; rw [HUP.out]; rfl]
          case measure => have := HIL.out; simp only [intOf]; omega
    · obtain rfl : i = n := by omega
      have hlt : decide ((i : Int) < (i : Int)) = false := decide_eq_false (by omega)
      have hlt2 : decide (i < i) = false := decide_eq_false (by omega)
      go_wp2_with fail
      go_ret2
      refine ⟨g, rfl, by have := HGG.out; omega, ?_, HB.out⟩
      rw [← mixA_all HLEN.out]
      exact HG.out
end Go.Proofs.Ytnpphmgibgfjoaa.PlA
set_option linter.unusedSimpArgs false
namespace Go.Proofs.Ytnpphmgibgfjoaa.PlL
open Go Go.RowKit Go.Proofs.YtnpphmgibgfjoaaW.PrintWords Go.Proofs.YtnpphmgibgfjoaaW.PrintMore Go.Proofs.YtnpphmgibgfjoaaW.PrintLast Mem PAll KW MixP MixW StrP AtA Srt Grp Sl Dsc AtB Roo Cho MayP Awk UpsP ApP PlF PlU LAp PlA Chr
open CrP hiding Od
def lifeO : Option Od → Int
  | some o => if o.f1 = true then o.f4 else 0
  | none => 0
def bootO : Option Od → Int
  | some o => if o.f1 = true then o.f5 else 0
  | none => 0
theorem I2.nil (w : World) (base : Nat) : I2 w base (.slice none 0 0) [] (.slice none 0 0) [] := ⟨Kd.R_nil _ _ _ _ _, Kd.R_nil _ _ _ _ _⟩
theorem below_of_grown {w w1 : World} (h : w.grownBy w1 none) : Below w.heap.size w w1 := ⟨h.os, h.tape, h.output, h.size, fun i hi => h.block i hi (by simp)⟩
theorem one_rep (w : World) (base : Nat) (ok : Nat → Prop) (x : Int) : Reps (kI.M w base ok) kI.sz [x] [.int .i64 x] := by
  refine ⟨rfl, fun j p hj => ?_⟩
  match j, hj with
  | 0, hj => obtain rfl := Option.some.inj hj; rfl
  | j + 1, hj => cases hj
theorem find_act {l : List Od} {c : Option Od} (hs : ∀ o, c = some o → findO l o.f0 = some o) (hn : findO l (-1) = none) : ∃ o : Od, ∃ b : Bool, descV (findO l (aO c)) = .tuple #[.agg (aggO o), .bool b] ∧ o.f4 = lifeO c ∧ o.f5 = bootO c := by
  have hz : descV (findO l (-1)) = .tuple #[.agg (aggO ⟨0, false, false, 0, 0, 0, 0, 0⟩), .bool false] := by rw [hn]; rfl
  cases c with
  | none => exact ⟨⟨0, false, false, 0, 0, 0, 0, 0⟩, false, hz, rfl, rfl⟩
  | some o =>
    by_cases h : o.f1 = true
    · refine ⟨o, true, ?_, ?_, ?_⟩
      · show descV (findO l (if o.f1 = true then o.f0 else -1)) = _
        rw [if_pos h, hs o rfl]
        rfl
      · show o.f4 = if o.f1 = true then o.f4 else 0; rw [if_pos h]
      · show o.f5 = if o.f1 = true then o.f5 else 0; rw [if_pos h]
    · refine ⟨⟨0, false, false, 0, 0, 0, 0, 0⟩, false, ?_, ?_, ?_⟩
      · show descV (findO l (if o.f1 = true then o.f0 else -1)) = _
        rw [if_neg h]
        exact hz
      · show 0 = if o.f1 = true then o.f4 else 0; rw [if_neg h]
      · show 0 = if o.f1 = true then o.f5 else 0; rw [if_neg h]
set_option maxHeartbeats 8000000 in
set_option maxRecDepth 100000 in
theorem Lives_ok (ep k m p d : Int) (A : Option Addr) (c : Nat) (l : List Od) (pg : Int) (n : Nat) (w : World) (hx : kO.C w A l.length l) (hwf : WfL l) (hn : upB (mayB ep k m p d l) pg p = true) (hkm : k + m = n) :
    Calls Try.prog 54 #[.agg (boxM ep k m p d A c l), .int .i64 pg] w fun e w' => ∃ v1 v2, e = .returned (.tuple #[v1, v2, .int .i64 0]) ∧ I2 w' w.heap.size v1 ((slots l (pgX pg) n (domL d) n 0 []).map lifeO) v2 ((slots l (pgX pg) n (domL d) n 0 []).map bootO) ∧ Below w.heap.size w w' := by
  have HB1 := Lib.hid (below_alloc (Below.refl w.heap.size w) (.cells (boxM ep k m p d A c l) 26))
  have HM1 : Hid ((w.alloc (.cells (boxM ep k m p d A c l) 26)).heap[w.heap.size]? = some (.cells (boxM ep k m p d A c l) 26 (0, 0))) := Lib.hid (blk_new _ _)
  have HC1 := Lib.hid (Kd.C_alloc hx (.cells (boxM ep k m p d A c l) 26))
  have T := Lib.hid (Acting_ok ep k m p d A c l pg n _ HC1.out hwf hn hkm)
  have hup := hn
  unfold upB at hup
  simp only [Bool.and_eq_true, decide_eq_true_eq] at hup
  have hm := hup.1
  have hr := pool_ranges hm
  have hn32 : n ≤ 32 := by omega
  obtain ⟨cs, hcs⟩ : ∃ cs, cs = slots l (pgX pg) n (domL d) n 0 [] := ⟨_, rfl⟩
  rw [← hcs] at T
  rw [← hcs]
  have HASC := Lib.hid (may_asc hm)
  have HLEN : Hid (cs.length = n) := Lib.hid (by rw [hcs]; exact slots_len _ _ _ _ _ _ _)
  have HRNG : Hid (∀ o ∈ l, 0 ≤ o.f0) := Lib.hid (fun o ho => (osd_ranges (may_osd hm o ho)).1.1)
  have HSM : Hid (∀ (i : Nat) (o : Od), cs[i]? = some (some o) → findO l o.f0 = some o) := Lib.hid (fun i o h => by
    rw [hcs] at h
    exact findO_mem HASC.out (slots_mem HASC.out (List.mem_of_getElem? h)).1)
  have HFN : Hid (findO l (-1) = none) := Lib.hid (findO_none (fun o ho e => by have := HRNG.out o ho; omega))
  have TF := Lib.hid (fun id w1 h => aFind_calls ep k m p d A c l id w1 h)
  unfold boxM at *
  clear hx hwf hn hup hm hr hkm hcs
  go_enter Try.func54, Try.ntmps54
  go_wp2_with fail
  refine T.out.mono ?_
  rintro e w2 ⟨g, rfl, hg, hgh, hb⟩
  have HB2 := Lib.hid (below_then HB1.out HB1.out.size hb)
  have HM2 := Lib.hid (blk_below HM1.out hb)
  have HC2 := Lib.hid (Kd.C_below HC1.out hb)
  have HGH := Lib.hid hgh
  clear hb hg hgh T HB1 HM1 HC1
  have HI0 := Lib.hid (I2.nil w2 w2.heap.size)
  have HBB := Lib.hid (Below.refl w2.heap.size w2)
  go_wp2_with fail
  go_loopw [4, 5, 20] (fun v4 v5 i' wr => ∃ i : Nat, i' = .int .i64 i ∧ Hid (i ≤ n) ∧ Hid (I2 wr w2.heap.size v4 ((cs.take i).map lifeO) v5 ((cs.take i).map bootO)) ∧ Hid (Below w2.heap.size w2 wr)) (fun _ _ i' _ => (n - intOf i').toNat)
  case atStart => exact ⟨0, rfl, Lib.hid (Nat.zero_le _), HI0, HBB⟩
  case round =>
    obtain ⟨i, rfl, HI, HR, HB⟩ := hrel
    clear HI0 HBB
    have hi := HI.out
    by_cases h : i < n
    · have hlt : decide ((i : Int) < (n : Int)) = true := decide_eq_true (by omega)
      have hlt2 : decide (i < n) = true := decide_eq_true h
      have i0 : (0 : Int) ≤ i := by omega
      have i1 : (i : Int) < n := by omega
      obtain ⟨ci, hci⟩ : ∃ ci, cs[i]? = some ci := ⟨cs[i]'(by rw [HLEN.out]; exact h), List.getElem?_eq_getElem (by rw [HLEN.out]; exact h)⟩
      have gc : wr.cell? ⟨g, i, none⟩ = some (.int .i64 (aO ci)) := by rw [blk_cell (blk_below HGH.out HB.out) i]; exact outA_at (by rw [List.getElem?_map, hci]; rfl)
      have HIL := Lib.hid h
      have HTK : Hid (cs.take (i + 1) = cs.take i ++ [ci]) := Lib.hid (by obtain ⟨q1, q2⟩ := List.getElem?_eq_some_iff.1 hci; rw [List.take_succ_eq_append_getElem q1, q2])
      have HM := Lib.hid (blk_below HM2.out HB.out)
      have m0 := blk_cell HM.out 0
      have m1 := blk_cell HM.out 1
      have m2 := blk_cell HM.out 2
      have m3 := blk_cell HM.out 3
      have m4 := blk_cell HM.out 4
      have m5 := blk_cell HM.out 5
      obtain ⟨o, b, hd, hl4, hl5⟩ := find_act (l := l) (c := ci) (fun o e => HSM.out i o (by rw [hci, e])) HFN.out
      have T2 : Hid (Calls Try.prog 66 #[.agg #[.int .i64 ep, .int .i64 k, .int .i64 m, .int .i64 p, .int .i64 d, .slice A l.length c], .int .i64 (aO ci)] wr fun e w' => e = .returned (.tuple #[.agg (aggO o), .bool b]) ∧ Below wr.heap.size wr w') := Lib.hid (by
        have h1 := TF.out (aO ci) wr (Kd.C_below HC2.out HB.out)
        rw [hd] at h1
        exact h1)
      have HL4 := Lib.hid hl4
      have HL5 := Lib.hid hl5
      obtain ⟨xs, hxs⟩ : ∃ xs, xs = (cs.take i).map lifeO := ⟨_, rfl⟩
      obtain ⟨ys, hys⟩ : ∃ ys, ys = (cs.take i).map bootO := ⟨_, rfl⟩
      rw [← hxs, ← hys] at HR
      have HXS : Hid (xs.length ≤ 31) := Lib.hid (by rw [hxs, List.length_map]; have := List.length_take_le i cs; omega)
      have HYS : Hid (ys.length ≤ 31) := Lib.hid (by rw [hys, List.length_map]; have := List.length_take_le i cs; omega)
      have HXE := Lib.hid hxs
      have HYE := Lib.hid hys
      obtain ⟨ai, hai⟩ : ∃ ai, ai = aO ci := ⟨_, rfl⟩
      rw [← hai] at T2 gc
      clear h hci hd hl4 hl5 hxs hys hai
      go_wp2_with fail
      refine T2.out.mono ?_
      rintro e w4 ⟨rfl, hb⟩
      have HU4 : Hid (some w4.heap.size ≠ u4.ownBlock) := Lib.hid (fun e => by have h1 := Kd.R_lt HR.out.1 _ e.symm; have := hb.size; omega)
      have HU5 : Hid (some w4.heap.size ≠ u5.ownBlock) := Lib.hid (fun e => by have h1 := Kd.R_lt HR.out.2 _ e.symm; have := hb.size; omega)
      have hb5 := below_alloc hb (.cells (aggO o) 40)
      have HB5 := Lib.hid (below_then HB.out HB.out.size hb5)
      have HI5 := Lib.hid (HR.out.below hb5)
      have HO5 : Hid ((w4.alloc (.cells (aggO o) 40)).heap[w4.heap.size]? = some (.cells (aggO o) 40 (0, 0))) := Lib.hid (blk_new _ _)
      clear hb hb5 T2 m0 m1 m2 m3 m4 m5 gc HR HB
      go_upto_region 6 with fail
      obtain ⟨w5, hw5⟩ : ∃ w5, w5 = w4.alloc (.cells (aggO o) 40) := ⟨_, rfl⟩
      obtain ⟨q, hq⟩ : ∃ q, q = w4.heap.size := ⟨_, rfl⟩
      rw [← hw5] at HB5 HI5 HO5 ⊢
      rw [← hq] at HO5 HU4 HU5 ⊢
      clear hw5 hq
      have HQx := Lib.hid (blk_below HO5.out (below_drew (Below.refl _ _)))
      have HIx := Lib.hid (HI5.out.below (below_drew (Below.refl _ _)))
      have HBx := Lib.hid (below_drew HB5.out)
      refine start_ (n := 12) (S := fun w' => w'.heap[q]? = some (.cells (aggO o) 40 (0, 0))) (ds := []) #[false, false, false, false, false, false, false, false, false, false, false, false] (by kernel_rfl) rfl rfl HQx.out (fun hHeld => ?_)
      generalize w5.drew = wd at HQx HIx HBx hHeld ⊢
      refine pure_ (i := 0) (N := some 30) (v := ?_) (a' := ?_) #[true, false, false, false, false, false, false, false, false, false, false, false] rfl rfl (by kernel_rfl) (fun _ _ _ h => h) (Or.inl ⟨by rfl, ?_⟩) ?_ ?_
      rotate_left
      · intro w'
        go_simp
        with_reducible rfl
      rotate_left
      · simp only [Act.put, List.setIfInBounds_toArray, List.set_cons_zero, List.set_cons_succ, i64_w, i32_w]
        rfl
      refine pure_ (i := 1) (N := some 31) (v := ?_) (a' := ?_) #[true, true, false, false, false, false, false, false, false, false, false, false] rfl rfl (by kernel_rfl) (fun _ _ _ h => h) (Or.inl ⟨by rfl, ?_⟩) ?_ ?_
      rotate_left
      · intro w'
        go_simp
        with_reducible rfl
      rotate_left
      · simp only [Act.put, List.setIfInBounds_toArray, List.set_cons_zero, List.set_cons_succ, i64_w, i32_w]
        rfl
      refine pure_ (i := 5) (N := some 35) (v := ?_) (a' := ?_) #[true, true, false, false, false, true, false, false, false, false, false, false] rfl rfl (by kernel_rfl) (fun _ _ _ h => h) (Or.inl ⟨by rfl, ?_⟩) ?_ ?_
      rotate_left
      · intro w'
        go_simp
        with_reducible rfl
      rotate_left
      · simp only [Act.put, List.setIfInBounds_toArray, List.set_cons_zero, List.set_cons_succ, i64_w, i32_w]
        rfl
      refine pure_ (i := 6) (N := some 36) (v := ?_) (a' := ?_) #[true, true, false, false, false, true, true, false, false, false, false, false] rfl rfl (by kernel_rfl) (fun _ _ _ h => h) (Or.inl ⟨by rfl, ?_⟩) ?_ ?_
      rotate_left
      · intro w'
        go_simp
        with_reducible rfl
      rotate_left
      · simp only [Act.put, List.setIfInBounds_toArray, List.set_cons_zero, List.set_cons_succ, i64_w, i32_w]
        rfl
      refine take_ (i := 2) (N := some 32) (v := ?_) (a' := ?_) #[true, true, true, false, false, true, true, false, false, false, false, false] rfl rfl (by kernel_rfl) (fun _ _ _ h => h) (Or.inl ⟨by rfl, ?_⟩) hHeld ?_ ?_
      rotate_left
      · rintro w' hS
        have y4 := blk_cell hS 4
        go_simp
        with_reducible rfl
      rotate_left
      · simp only [Act.put, List.setIfInBounds_toArray, List.set_cons_zero, List.set_cons_succ, i64_w, i32_w]
        rfl
      refine take_ (i := 7) (N := some 37) (v := ?_) (a' := ?_) #[true, true, true, false, false, true, true, true, false, false, false, false] rfl rfl (by kernel_rfl) (fun _ _ _ h => h) (Or.inl ⟨by rfl, ?_⟩) hHeld ?_ ?_
      rotate_left
      · rintro w' hS
        have y5 := blk_cell hS 5
        go_simp
        with_reducible rfl
      rotate_left
      · simp only [Act.put, List.setIfInBounds_toArray, List.set_cons_zero, List.set_cons_succ, i64_w, i32_w]
        rfl
      refine join_ (σ := Value × Value × Value × Value) 2 #[true, true, true, true, true, true, true, true, true, true, false, false] (fun s => [(33, s.1), (34, s.2.1), (38, s.2.2.1), (39, s.2.2.2)]) (fun s w' => Hid (I2 w' w2.heap.size s.2.1 (xs ++ [o.f4]) s.2.2.2 (ys ++ [o.f5])) ∧ Hid (Below w2.heap.size w2 w')) ?_ (fun hfin => ?_)
      · rintro ⟨z1, v34, z2, v39⟩ w9 ⟨HIf, HBf⟩
        refine norm_ (a' := ?_) ?_ ?_
        rotate_left
        · show putAll _ _ = _
          simp only [putAll, Act.put, List.setIfInBounds_toArray, List.set_cons_zero, List.set_cons_succ]
          rfl
        refine pure_ (i := 10) (N := some 4) (v := ?_) (a' := ?_) #[true, true, true, true, true, true, true, true, true, true, true, false] rfl rfl (by kernel_rfl) (fun _ _ _ h => h) (Or.inl ⟨by rfl, ?_⟩) ?_ ?_
        rotate_left
        · intro w'
          go_simp
          with_reducible rfl
        rotate_left
        · simp only [Act.put, List.setIfInBounds_toArray, List.set_cons_zero, List.set_cons_succ, i64_w, i32_w]
          rfl
        refine pure_ (i := 11) (N := some 5) (v := ?_) (a' := ?_) #[true, true, true, true, true, true, true, true, true, true, true, true] rfl rfl (by kernel_rfl) (fun _ _ _ h => h) (Or.inl ⟨by rfl, ?_⟩) ?_ ?_
        rotate_left
        · intro w'
          go_simp
          with_reducible rfl
        rotate_left
        · simp only [Act.put, List.setIfInBounds_toArray, List.set_cons_zero, List.set_cons_succ, i64_w, i32_w]
          rfl
        refine done_ (by kernel_rfl) ?_
        go_wp2_with fail
        go_roundw
        case rel => exact ⟨i + 1, by go_num, Lib.hid HIL.out, Lib.hid (by rw [HTK.out, List.map_append, List.map_append, ← HXE.out, ← HYE.out]; show I2 _ _ _ (xs ++ [lifeO ci]) _ (ys ++ [bootO ci]); rw [← HL4.out, ← HL5.out]; exact HIf.out), HBf⟩
        case measure => have := HIL.out; simp only [intOf]; omega
      refine two_ (i := 3) (j := 8) (Ni := some 33) (Nj := some 38) #[true, true, true, true, false, true, true, true, false, false, false, false] #[true, true, true, false, false, true, true, true, true, false, false, false] rfl rfl rfl rfl (by kernel_rfl) (by decide) (by decide) (fun K hK => ?_) (fun K hK => ?_)
      · refine Kd.R_lit_step kI (w0 := w2) w2.heap.size 3 ?hg (N := 33) ?hd (xs := [o.f4]) (inner := [.int .i64 o.f4]) (ok := fun _ => True) (okp := fun _ => False) ?hr ?hp (fun _ hk => hk.elim) trivial HBx.out HBx.out.size (by show 1 ≤ 9223372036854775807; decide) ?_; (case hd => rfl); (case hg => rfl); (case hr => first | (go_simp; done) | (go_simp; rfl)); (case hp => exact one_rep _ _ _ _)
        intro z1 w33 ho hb hg hnew
        obtain ⟨A1, c1, rfl⟩ := Kd.R_slice ho
        have hb1 := below_of_grown hg
        replace HIx := Lib.hid (HIx.out.below hb1)
        replace HQx := Lib.hid (blk_below HQx.out hb1)
        have HZ1 := Lib.hid (Kd.R_reads' ho).2.2
        replace HBx := Lib.hid hb
        clear ho hb hg hnew hb1
        refine hK.out _ _ HQx.out (fun hHeld => ?_)
        clear hK K
        refine norm_ (a' := ?_) ?_ ?_
        rotate_left
        · show Act.put _ (some 33) _ = _
          simp only [Act.put, List.setIfInBounds_toArray, List.set_cons_zero, List.set_cons_succ, i64_w, i32_w]
          rfl
        refine two_ (i := 4) (j := 8) (Ni := some 34) (Nj := some 38) #[true, true, true, true, true, true, true, true, false, false, false, false] #[true, true, true, true, false, true, true, true, true, false, false, false] rfl rfl rfl rfl (by kernel_rfl) (by decide) (by decide) (fun K hK => ?_) (fun K hK => ?_)
        · refine Kd.R_append_rows_step kI (w0 := w2) w2.heap.size (by rfl) (.tmp 30) (.tmp 33) 33 3 (.int .i64 0) 8 (by rfl) Try.underlying33 infoI rfl (by decide) (by decide) u4 xs [o.f4] _ _ _ (fun k => True ∧ some k ≠ u5.ownBlock) (fun _ => False) (by rfl) (by rfl) HIx.out.1 HZ1.out (fun y cs hk => hk) (fun _ hk => hk.elim) (own_fresh HIx.out.2) HBx.out HBx.out.size ?aL ?_
          (case aL => have := HXS.out; simp only [List.length_cons, List.length_nil]; omega)
          intro v34 w34 ho hb hg hat
          replace HIx := Lib.hid (HIx.out.more1 hg hat ho)
          replace HQx := Lib.hid (blk_grown HQx.out hg HU4.out)
          replace HBx := Lib.hid hb
          clear ho hb hg hat HZ1
          refine hK.out _ _ HQx.out (fun hHeld => ?_)
          clear hK K
          refine norm_ (a' := ?_) ?_ ?_
          rotate_left
          · show Act.put _ (some 34) _ = _
            simp only [Act.put, List.setIfInBounds_toArray, List.set_cons_zero, List.set_cons_succ, i64_w, i32_w]
            rfl
          refine one_ (i := 8) (N := some 38) #[true, true, true, true, true, true, true, true, true, false, false, false] rfl rfl (by kernel_rfl) (by decide) (fun K hK => ?_)
          refine Kd.R_lit_step kI (w0 := w2) w2.heap.size 3 ?hg (N := 38) ?hd (xs := [o.f5]) (inner := [.int .i64 o.f5]) (ok := fun _ => True) (okp := fun _ => False) ?hr ?hp (fun _ hk => hk.elim) trivial HBx.out HBx.out.size (by show 1 ≤ 9223372036854775807; decide) ?_; (case hd => rfl); (case hg => rfl); (case hr => first | (go_simp; done) | (go_simp; rfl)); (case hp => exact one_rep _ _ _ _)
          intro z2 w38 ho hb hg hnew
          obtain ⟨A2, c2, rfl⟩ := Kd.R_slice ho
          have hb1 := below_of_grown hg
          replace HIx := Lib.hid (HIx.out.below hb1)
          replace HQx := Lib.hid (blk_below HQx.out hb1)
          have HZ2 := Lib.hid ho
          replace HBx := Lib.hid hb
          clear ho hb hg hnew hb1
          refine hK.out _ _ HQx.out (fun hHeld => ?_)
          clear hK K
          refine norm_ (a' := ?_) ?_ ?_
          rotate_left
          · show Act.put _ (some 38) _ = _
            simp only [Act.put, List.setIfInBounds_toArray, List.set_cons_zero, List.set_cons_succ, i64_w, i32_w]
            rfl
          refine one_ (i := 9) (N := some 39) #[true, true, true, true, true, true, true, true, true, true, false, false] rfl rfl (by kernel_rfl) (by decide) (fun K hK => ?_)
          refine Kd.R_append_rows_step kI (w0 := w2) w2.heap.size (by rfl) (.tmp 35) (.tmp 38) 33 3 (.int .i64 0) 8 (by rfl) Try.underlying33 infoI rfl (by decide) (by decide) u5 ys [o.f5] _ _ _ (fun k => True ∧ some k ≠ v34.ownBlock) (fun _ => False) (by rfl) (by rfl) HIx.out.2 (Kd.R_reads' HZ2.out).2.2 (fun y cs hk => hk) (fun _ hk => hk.elim) (own_fresh HIx.out.1) HBx.out HBx.out.size ?aL ?_
          (case aL => have := HYS.out; simp only [List.length_cons, List.length_nil]; omega)
          intro v39 w39 ho hb hg hat
          replace HIx := Lib.hid (HIx.out.more2 hg hat ho)
          replace HQx := Lib.hid (blk_grown HQx.out hg HU5.out)
          replace HBx := Lib.hid hb
          clear ho hb hg hat HZ2
          refine hK.out _ _ HQx.out (fun hHeld => ?_)
          clear hK K
          refine norm_ (a' := ?_) ?_ ?_
          rotate_left
          · show Act.put _ (some 39) _ = _
            simp only [Act.put, List.setIfInBounds_toArray, List.set_cons_zero, List.set_cons_succ, i64_w, i32_w]
            rfl
          have h9 := hfin (.slice A1 [o.f4].length c1, v34, .slice A2 [o.f5].length c2, v39) w39 ⟨HIx, HBx⟩
          refine norm_ ?_ h9
          show _ = putAll _ _
          simp only [putAll, Act.put, List.setIfInBounds_toArray, List.set_cons_zero, List.set_cons_succ]
        · refine Kd.R_lit_step kI (w0 := w2) w2.heap.size 3 ?hg (N := 38) ?hd (xs := [o.f5]) (inner := [.int .i64 o.f5]) (ok := fun k => True ∧ some k ≠ u4.ownBlock) (okp := fun _ => False) ?hr ?hp (fun _ hk => hk.elim) (own_fresh HIx.out.1 _ (Nat.le_refl _)) HBx.out HBx.out.size (by show 1 ≤ 9223372036854775807; decide) ?_; (case hd => rfl); (case hg => rfl); (case hr => first | (go_simp; done) | (go_simp; rfl)); (case hp => exact one_rep _ _ _ _)
          intro z2 w38 ho hb hg hnew
          obtain ⟨A2, c2, rfl⟩ := Kd.R_slice ho
          have hb1 := below_of_grown hg
          replace HIx := Lib.hid (HIx.out.below hb1)
          replace HQx := Lib.hid (blk_below HQx.out hb1)
          replace HZ1 := Lib.hid (Kd.C_below HZ1.out hb1)
          have HZ2 := Lib.hid ho
          replace HBx := Lib.hid hb
          clear ho hb hg hnew hb1
          refine hK.out _ _ HQx.out (fun hHeld => ?_)
          clear hK K
          refine norm_ (a' := ?_) ?_ ?_
          rotate_left
          · show Act.put _ (some 38) _ = _
            simp only [Act.put, List.setIfInBounds_toArray, List.set_cons_zero, List.set_cons_succ, i64_w, i32_w]
            rfl
          refine one_ (i := 4) (N := some 34) #[true, true, true, true, true, true, true, true, true, false, false, false] rfl rfl (by kernel_rfl) (by decide) (fun K hK => ?_)
          refine Kd.R_append_rows_step kI (w0 := w2) w2.heap.size (by rfl) (.tmp 30) (.tmp 33) 33 3 (.int .i64 0) 8 (by rfl) Try.underlying33 infoI rfl (by decide) (by decide) u4 xs [o.f4] _ _ _ (fun k => True ∧ some k ≠ u5.ownBlock) (fun _ => False) (by rfl) (by rfl) HIx.out.1 HZ1.out (fun y cs hk => hk) (fun _ hk => hk.elim) (own_fresh HIx.out.2) HBx.out HBx.out.size ?aL ?_
          (case aL => have := HXS.out; simp only [List.length_cons, List.length_nil]; omega)
          intro v34 w34 ho hb hg hat
          replace HIx := Lib.hid (HIx.out.more1 hg hat ho)
          replace HQx := Lib.hid (blk_grown HQx.out hg HU4.out)
          replace HZ2 := Lib.hid (Kd.R_grown HZ2.out hg (fun k hk => hk.2))
          replace HBx := Lib.hid hb
          clear ho hb hg hat HZ1
          refine hK.out _ _ HQx.out (fun hHeld => ?_)
          clear hK K
          refine norm_ (a' := ?_) ?_ ?_
          rotate_left
          · show Act.put _ (some 34) _ = _
            simp only [Act.put, List.setIfInBounds_toArray, List.set_cons_zero, List.set_cons_succ, i64_w, i32_w]
            rfl
          refine one_ (i := 9) (N := some 39) #[true, true, true, true, true, true, true, true, true, true, false, false] rfl rfl (by kernel_rfl) (by decide) (fun K hK => ?_)
          refine Kd.R_append_rows_step kI (w0 := w2) w2.heap.size (by rfl) (.tmp 35) (.tmp 38) 33 3 (.int .i64 0) 8 (by rfl) Try.underlying33 infoI rfl (by decide) (by decide) u5 ys [o.f5] _ _ _ (fun k => True ∧ some k ≠ v34.ownBlock) (fun _ => False) (by rfl) (by rfl) HIx.out.2 (Kd.R_reads' HZ2.out).2.2 (fun y cs hk => hk) (fun _ hk => hk.elim) (own_fresh HIx.out.1) HBx.out HBx.out.size ?aL ?_
          (case aL => have := HYS.out; simp only [List.length_cons, List.length_nil]; omega)
          intro v39 w39 ho hb hg hat
          replace HIx := Lib.hid (HIx.out.more2 hg hat ho)
          replace HQx := Lib.hid (blk_grown HQx.out hg HU5.out)
          replace HBx := Lib.hid hb
          clear ho hb hg hat HZ2
          refine hK.out _ _ HQx.out (fun hHeld => ?_)
          clear hK K
          refine norm_ (a' := ?_) ?_ ?_
          rotate_left
          · show Act.put _ (some 39) _ = _
            simp only [Act.put, List.setIfInBounds_toArray, List.set_cons_zero, List.set_cons_succ, i64_w, i32_w]
            rfl
          have h9 := hfin (.slice A1 [o.f4].length c1, v34, .slice A2 [o.f5].length c2, v39) w39 ⟨HIx, HBx⟩
          refine norm_ ?_ h9
          show _ = putAll _ _
          simp only [putAll, Act.put, List.setIfInBounds_toArray, List.set_cons_zero, List.set_cons_succ]
      · refine Kd.R_lit_step kI (w0 := w2) w2.heap.size 3 ?hg (N := 38) ?hd (xs := [o.f5]) (inner := [.int .i64 o.f5]) (ok := fun k => True ∧ some k ≠ u4.ownBlock) (okp := fun _ => False) ?hr ?hp (fun _ hk => hk.elim) (own_fresh HIx.out.1 _ (Nat.le_refl _)) HBx.out HBx.out.size (by show 1 ≤ 9223372036854775807; decide) ?_; (case hd => rfl); (case hg => rfl); (case hr => first | (go_simp; done) | (go_simp; rfl)); (case hp => exact one_rep _ _ _ _)
        intro z2 w38 ho hb hg hnew
        obtain ⟨A2, c2, rfl⟩ := Kd.R_slice ho
        have hb1 := below_of_grown hg
        replace HIx := Lib.hid (HIx.out.below hb1)
        replace HQx := Lib.hid (blk_below HQx.out hb1)
        have HZ2 := Lib.hid ho
        replace HBx := Lib.hid hb
        clear ho hb hg hnew hb1
        refine hK.out _ _ HQx.out (fun hHeld => ?_)
        clear hK K
        refine norm_ (a' := ?_) ?_ ?_
        rotate_left
        · show Act.put _ (some 38) _ = _
          simp only [Act.put, List.setIfInBounds_toArray, List.set_cons_zero, List.set_cons_succ, i64_w, i32_w]
          rfl
        refine one_ (i := 3) (N := some 33) #[true, true, true, true, false, true, true, true, true, false, false, false] rfl rfl (by kernel_rfl) (by decide) (fun K hK => ?_)
        refine Kd.R_lit_step kI (w0 := w2) w2.heap.size 3 ?hg (N := 33) ?hd (xs := [o.f4]) (inner := [.int .i64 o.f4]) (ok := fun _ => True) (okp := fun _ => False) ?hr ?hp (fun _ hk => hk.elim) trivial HBx.out HBx.out.size (by show 1 ≤ 9223372036854775807; decide) ?_; (case hd => rfl); (case hg => rfl); (case hr => first | (go_simp; done) | (go_simp; rfl)); (case hp => exact one_rep _ _ _ _)
        intro z1 w33 ho hb hg hnew
        obtain ⟨A1, c1, rfl⟩ := Kd.R_slice ho
        have hb1 := below_of_grown hg
        replace HIx := Lib.hid (HIx.out.below hb1)
        replace HQx := Lib.hid (blk_below HQx.out hb1)
        replace HZ2 := Lib.hid (Kd.R_below HZ2.out hb1)
        have HZ1 := Lib.hid (Kd.R_reads' ho).2.2
        replace HBx := Lib.hid hb
        clear ho hb hg hnew hb1
        refine hK.out _ _ HQx.out (fun hHeld => ?_)
        clear hK K
        refine norm_ (a' := ?_) ?_ ?_
        rotate_left
        · show Act.put _ (some 33) _ = _
          simp only [Act.put, List.setIfInBounds_toArray, List.set_cons_zero, List.set_cons_succ, i64_w, i32_w]
          rfl
        refine one_ (i := 4) (N := some 34) #[true, true, true, true, true, true, true, true, true, false, false, false] rfl rfl (by kernel_rfl) (by decide) (fun K hK => ?_)
        refine Kd.R_append_rows_step kI (w0 := w2) w2.heap.size (by rfl) (.tmp 30) (.tmp 33) 33 3 (.int .i64 0) 8 (by rfl) Try.underlying33 infoI rfl (by decide) (by decide) u4 xs [o.f4] _ _ _ (fun k => True ∧ some k ≠ u5.ownBlock) (fun _ => False) (by rfl) (by rfl) HIx.out.1 HZ1.out (fun y cs hk => hk) (fun _ hk => hk.elim) (own_fresh HIx.out.2) HBx.out HBx.out.size ?aL ?_
        (case aL => have := HXS.out; simp only [List.length_cons, List.length_nil]; omega)
        intro v34 w34 ho hb hg hat
        replace HIx := Lib.hid (HIx.out.more1 hg hat ho)
        replace HQx := Lib.hid (blk_grown HQx.out hg HU4.out)
        replace HZ2 := Lib.hid (Kd.R_grown HZ2.out hg (fun k hk => hk.2))
        replace HBx := Lib.hid hb
        clear ho hb hg hat HZ1
        refine hK.out _ _ HQx.out (fun hHeld => ?_)
        clear hK K
        refine norm_ (a' := ?_) ?_ ?_
        rotate_left
        · show Act.put _ (some 34) _ = _
          simp only [Act.put, List.setIfInBounds_toArray, List.set_cons_zero, List.set_cons_succ, i64_w, i32_w]
          rfl
        refine one_ (i := 9) (N := some 39) #[true, true, true, true, true, true, true, true, true, true, false, false] rfl rfl (by kernel_rfl) (by decide) (fun K hK => ?_)
        refine Kd.R_append_rows_step kI (w0 := w2) w2.heap.size (by rfl) (.tmp 35) (.tmp 38) 33 3 (.int .i64 0) 8 (by rfl) Try.underlying33 infoI rfl (by decide) (by decide) u5 ys [o.f5] _ _ _ (fun k => True ∧ some k ≠ v34.ownBlock) (fun _ => False) (by rfl) (by rfl) HIx.out.2 (Kd.R_reads' HZ2.out).2.2 (fun y cs hk => hk) (fun _ hk => hk.elim) (own_fresh HIx.out.1) HBx.out HBx.out.size ?aL ?_
        (case aL => have := HYS.out; simp only [List.length_cons, List.length_nil]; omega)
        intro v39 w39 ho hb hg hat
        replace HIx := Lib.hid (HIx.out.more2 hg hat ho)
        replace HQx := Lib.hid (blk_grown HQx.out hg HU5.out)
        replace HBx := Lib.hid hb
        clear ho hb hg hat HZ2
        refine hK.out _ _ HQx.out (fun hHeld => ?_)
        clear hK K
        refine norm_ (a' := ?_) ?_ ?_
        rotate_left
        · show Act.put _ (some 39) _ = _
          simp only [Act.put, List.setIfInBounds_toArray, List.set_cons_zero, List.set_cons_succ, i64_w, i32_w]
          rfl
        have h9 := hfin (.slice A1 [o.f4].length c1, v34, .slice A2 [o.f5].length c2, v39) w39 ⟨HIx, HBx⟩
        refine norm_ ?_ h9
        show _ = putAll _ _
        simp only [putAll, Act.put, List.setIfInBounds_toArray, List.set_cons_zero, List.set_cons_succ]
    · obtain rfl : i = n := by omega
      have hlt : decide ((i : Int) < (i : Int)) = false := decide_eq_false (by omega)
      have hlt2 : decide (i < i) = false := decide_eq_false (by omega)
      rw [List.take_of_length_le (by rw [HLEN.out]; exact Nat.le_refl _)] at HR
      go_wp2_with fail
      refine bodyPost_ret (v := .tuple #[u4, u5, .int .i64 0]) (by simp [results, Try.results54, go_sem]) rfl ?_
      refine ⟨_, _, rfl, ?_, below_then HB2.out HB2.out.size HB.out⟩
      exact ⟨Kd.R_lower HR.out.1 HB2.out.size, Kd.R_lower HR.out.2 HB2.out.size⟩
end Go.Proofs.Ytnpphmgibgfjoaa.PlL
namespace Go.Proofs.Ytnpphmgibgfjoaa.PlN
open Go Go.RowKit Go.Proofs.YtnpphmgibgfjoaaW.PrintWords Mem PAll PlU
abbrev sA : ByteArray := ⟨#[97]⟩
theorem dec_a : Utf8.decode sA 0 = (97, 1) := by decide +kernel
theorem next0 (w : World) : ∀ ty, (Instr.next (.pointer (some ⟨w.heap.size, 0, none⟩)) true ty).run Try.prog (w.iter sA 0) = .ok (.tuple #[.bool true, .int .i64 0, .int .i32 97]) (w.iter sA 1) := fun ty => by
  have h := run_next_any (P := Try.prog) w sA 0 ty (by decide)
  rw [dec_a] at h
  exact h
theorem below_iter {w w1 : World} (h : Below w.heap.size w w1) (s : ByteArray) (pos : Nat) : Below w.heap.size w (w1.iter s pos) := by unfold World.iter; exact below_alloc h _
theorem good_a (w : World) : Calls Try.prog 101 #[.string sA] w fun e w' => e = .returned (.bool true) ∧ Below w.heap.size w w' := by
  have h0 := next0 w
  have h1 : ∀ ty, (Instr.next (.pointer (some ⟨w.heap.size, 0, none⟩)) true ty).run Try.prog (w.iter sA 1) = _ := fun ty => run_next_end w sA 1 ty (by decide)
  have HB := Lib.hid (below_iter (Below.refl w.heap.size w) sA 1)
  go_enter Try.func101, Try.ntmps101
  go_wp2_with fail
  refine wp_loop_rounds 2 ?_
  rw [rounds_succ]
  go_wp2_with fail
  rw [rounds_succ]
  go_wp2_with fail
  go_ret
  exact ⟨rfl, HB.out⟩
theorem count_a (w : World) : Calls Try.prog 87 #[.string sA] w fun e w' => e = .returned (.tuple #[.int .i64 1, .bool true]) ∧ Below w.heap.size w w' := by
  go_enter Try.func87, Try.ntmps87
  go_wp2_with fail
  refine (good_a _).mono ?_
  rintro e w1 ⟨rfl, hb⟩
  have h0 := next0 w1
  have h1 : ∀ ty, (Instr.next (.pointer (some ⟨w1.heap.size, 0, none⟩)) true ty).run Try.prog (w1.iter sA 1) = _ := fun ty => run_next_end w1 sA 1 ty (by decide)
  have HB := Lib.hid (below_iter hb sA 1)
  clear hb
  go_wp2_with fail
  refine wp_loop_rounds 2 ?_
  rw [rounds_succ]
  go_wp2_with fail
  rw [rounds_succ]
  go_wp2_with fail
  go_ret2
  exact ⟨rfl, HB.out⟩
theorem check_a (w : World) : Calls Try.prog 60 #[.string sA] w fun e w' => e = .returned (.int .i64 0) ∧ Below w.heap.size w w' := by
  go_enter Try.func60, Try.ntmps60
  go_wp2_with fail
  refine (count_a _).mono ?_
  rintro e w1 ⟨rfl, hb⟩
  have h0 := next0 w1
  have h1 : ∀ ty, (Instr.next (.pointer (some ⟨w1.heap.size, 0, none⟩)) true ty).run Try.prog (w1.iter sA 1) = _ := fun ty => run_next_end w1 sA 1 ty (by decide)
  have HB := Lib.hid (below_iter hb sA 1)
  clear hb
  go_wp2_with fail
  refine wp_loop_rounds 2 ?_
  rw [rounds_succ]
  go_wp2_with fail
  rw [rounds_succ]
  go_wp2_with fail
  go_ret
  exact ⟨rfl, HB.out⟩
theorem hash_any (s : ByteArray) (w : World) (hs : s.size ≤ 9223372036854775807) : Calls Try.prog 61 #[.string s] w fun e w' => ∃ h : Int, e = .returned (.int .u32 h) ∧ Below w.heap.size w w' := by
  have HB0 := Lib.hid (Below.refl w.heap.size w)
  go_enter Try.func61, Try.ntmps61
  go_wp2_with fail
  go_loopw [3, 7] (fun x' i' wr => ∃ (i : Nat) (x : Int), x' = .int .u32 x ∧ i' = .int .i64 i ∧ Hid (i ≤ s.size) ∧ Hid (Below w.heap.size w wr)) (fun _ i' _ => (s.size - intOf i').toNat)
  case atStart => exact ⟨0, _, rfl, rfl, Lib.hid (Nat.zero_le _), HB0⟩
  case round =>
    obtain ⟨i, x, rfl, rfl, HI, HB⟩ := hrel
    have hi := HI.out
    by_cases h : i < s.size
    · have hlt : decide ((i : Int) < (s.size : Int)) = true := decide_eq_true (by omega)
      have hlt2 : decide (i < s.size) = true := decide_eq_true h
      have i0 : (0 : Int) ≤ i := by omega
      have i1 : (i : Int) < s.size := by omega
      go_wp2_with fail
      go_roundw
      case rel => exact ⟨i + 1, _, rfl, by go_num, Lib.hid (by omega), HB⟩
      case measure => simp only [intOf]; omega
    · obtain rfl : i = s.size := by omega
      have hlt : decide ((s.size : Int) < (s.size : Int)) = false := decide_eq_false (by omega)
      have hlt2 : decide (s.size < s.size) = false := decide_eq_false (by omega)
      go_wp2_with fail
      go_ret
      exact ⟨_, rfl, HB.out⟩
theorem pg_a (w : World) : Calls Try.prog 31 #[.string sA, .int .i64 1] w fun e w' => e = .returned (.tuple #[.int .i64 0, .int .i64 0]) ∧ Below w.heap.size w w' := by
  go_enter Try.func31, Try.ntmps31
  go_wp2_with fail
  refine (check_a _).mono ?_
  rintro e w1 ⟨rfl, hb⟩
  have HB := Lib.hid hb
  clear hb
  go_wp2_with fail
  refine (hash_any sA _ (by decide)).mono ?_
  rintro e w2 ⟨h, rfl, hb⟩
  have HB2 := Lib.hid (below_then HB.out HB.out.size hb)
  clear hb HB
  go_wp2_with fail
  go_ret2
  exact ⟨rfl, HB2.out⟩
end Go.Proofs.Ytnpphmgibgfjoaa.PlN
namespace Go.Proofs.Ytnpphmgibgfjoaa.PlW
open Go Go.RowKit Go.Proofs.YtnpphmgibgfjoaaW.PrintWords Go.Proofs.YtnpphmgibgfjoaaW.PrintMore Mem PAll KW MixP MixW StrP AtA Srt Grp Sl Dsc AtB Roo Cho MayP Awk UpsP ApP PlF PlU LAp PlA Chr PlL PlN
open CrP hiding Od
def primA (ac : List Int) : Int := (ac.find? fun x => x != -1).getD (-1)
theorem prim_skip {ac : List Int} {i : Nat} (h : ∀ j, j < i → ac[j]? = some (-1)) : primA ac = primA (ac.drop i) := by
  induction i with
  | zero => simp
  | succ i ih =>
    rw [ih (fun j hj => h j (by omega))]
    have hi := h i (by omega)
    obtain ⟨h1, h2⟩ := List.getElem?_eq_some_iff.1 hi
    rw [List.drop_eq_getElem_cons h1, h2]
    rfl
theorem at_kIc {w : World} {A : Option Addr} {xs : List Int} (h : kI.C w A xs.length xs) (i : Nat) (x : Int) (hi : xs[i]? = some x) : ∃ ad, A = some ad ∧ w.cell? (ad.add i) = some (.int .i64 x) := by
  have hl : i < xs.length := (List.getElem?_eq_some_iff.1 hi).1
  obtain ⟨ad, e, hc⟩ := h.2.2 (by omega)
  obtain ⟨cs, _, hK, hcell⟩ := hc i x hi
  have hcs : cs = [.int .i64 x] := hK
  subst hcs
  have := hcell 0 _ rfl
  rw [show i * kI.sz + 0 = i from Nat.mul_one i] at this
  exact ⟨ad, e, this⟩
theorem index_calls (A : Option Addr) (c : Nat) (xs : List Int) (x : Int) (w : World) (hx : kI.C w A xs.length xs) :
    Calls Try.prog 103 #[.slice A xs.length c, .int .i64 x] w fun e w' => ∃ n : Int, e = .returned (.int .i64 n) ∧ decide (0 ≤ n) = decide (x ∈ xs) ∧ Below w.heap.size w w' := by
  have HC := Lib.hid hx
  have hm : xs.length ≤ 9223372036854775807 := hx.2.1
  have HB0 := Lib.hid (Below.refl w.heap.size w)
  clear hx
  go_enter Try.func103, Try.ntmps103
  go_wp2_with fail
  go_loopw [8] (fun i' wr => ∃ n : Nat, i' = .int .i64 n ∧ Hid (n ≤ xs.length ∧ x ∉ xs.take n) ∧ Hid (Below w.heap.size w wr)) (fun i' _ => (xs.length - intOf i').toNat)
  case atStart => exact ⟨0, rfl, Lib.hid ⟨Nat.zero_le _, by simp⟩, HB0⟩
  case round =>
    obtain ⟨n, rfl, HN, HB⟩ := hrel
    have hn := HN.out.1
    by_cases h : n < xs.length
    · have hlt : decide (n < xs.length) = true := decide_eq_true h
      have i0 : (0 : Int) ≤ n := by omega
      obtain ⟨y, hy⟩ : ∃ y, xs[n]? = some y := ⟨xs[n], List.getElem?_eq_getElem h⟩
      obtain ⟨ad, hA, a0⟩ := at_kIc (Kd.C_below HC.out HB.out) n y hy
      subst hA
      have HY := Lib.hid hy
      clear hy
      by_cases e : x = y
      · have hb : (x == y) = true := beq_iff_eq.2 e
        have HE := Lib.hid e
        clear e
        go_wp2_with fail
        go_ret
        exact ⟨n, rfl, by rw [decide_eq_true (show (0 : Int) ≤ n by omega), decide_eq_true (by rw [HE.out]; exact List.mem_of_getElem? HY.out)], HB.out⟩
      · have hb : (x == y) = false := beq_eq_false_iff_ne.2 e
        have HE := Lib.hid e
        clear e
        go_wp2_with fail
        go_roundw
        case rel =>
          refine ⟨n + 1, by go_num, Lib.hid ⟨by omega, fun hm => ?_⟩, HB⟩
          rw [List.take_succ_eq_append_getElem h, (List.getElem?_eq_some_iff.1 HY.out).2] at hm
          rcases List.mem_append.1 hm with hm | hm
          · exact HN.out.2 hm
          · exact HE.out (List.mem_singleton.1 hm)
        case measure => simp only [intOf]; omega
    · obtain rfl : n = xs.length := by omega
      have hlt : decide (xs.length < xs.length) = false := decide_eq_false (by omega)
      go_wp2_with fail
      go_ret
      have h2 := HN.out.2
      rw [List.take_length] at h2
      exact ⟨-1, rfl, by rw [decide_eq_false h2]; rfl, HB.out⟩
theorem contains_calls (A : Option Addr) (c : Nat) (xs : List Int) (x : Int) (w : World) (hx : kI.C w A xs.length xs) :
    Calls Try.prog 89 #[.slice A xs.length c, .int .i64 x] w fun e w' => e = .returned (.bool (decide (x ∈ xs))) ∧ Below w.heap.size w w' := by
  have T := Lib.hid (index_calls A c xs x w hx)
  obtain ⟨b, hb⟩ : ∃ b, b = decide (x ∈ xs) := ⟨_, rfl⟩
  rw [← hb] at T ⊢
  clear hx hb
  go_enter Try.func89, Try.ntmps89
  go_wp2_with fail
  refine T.out.mono ?_
  rintro e w1 ⟨n, rfl, hn, hb⟩
  have HB := Lib.hid hb
  clear hb T
  go_wp2_with fail
  go_ret
  exact ⟨by rw [← hn]; rfl, HB.out⟩
set_option maxHeartbeats 4000000 in
set_option maxRecDepth 100000 in
theorem Primary_ok (ep k m p d : Int) (A : Option Addr) (c : Nat) (l : List Od) (pg : Int) (n : Nat) (w : World) (hx : kO.C w A l.length l) (hwf : WfL l) (hn : upB (mayB ep k m p d l) pg p = true) (hkm : k + m = n) :
    Calls Try.prog 53 #[.agg (boxM ep k m p d A c l), .int .i64 pg] w fun e w' => e = .returned (.int .i64 (primA ((slots l (pgX pg) n (domL d) n 0 []).map aO))) ∧ Below w.heap.size w w' := by
  have HB1 := Lib.hid (below_alloc (Below.refl w.heap.size w) (.cells (boxM ep k m p d A c l) 26))
  have HM1 : Hid ((w.alloc (.cells (boxM ep k m p d A c l) 26)).heap[w.heap.size]? = some (.cells (boxM ep k m p d A c l) 26 (0, 0))) := Lib.hid (blk_new _ _)
  have HC1 := Lib.hid (Kd.C_alloc hx (.cells (boxM ep k m p d A c l) 26))
  have T := Lib.hid (Acting_ok ep k m p d A c l pg n _ HC1.out hwf hn hkm)
  have hup := hn
  unfold upB at hup
  simp only [Bool.and_eq_true, decide_eq_true_eq] at hup
  have hm := hup.1
  have hr := pool_ranges hm
  have hn32 : n ≤ 32 := by omega
  obtain ⟨cs, hcs⟩ : ∃ cs, cs = slots l (pgX pg) n (domL d) n 0 [] := ⟨_, rfl⟩
  rw [← hcs] at T
  rw [← hcs]
  have HASC := Lib.hid (may_asc hm)
  have HLEN : Hid (cs.length = n) := Lib.hid (by rw [hcs]; exact slots_len _ _ _ _ _ _ _)
  have HRNG : Hid (∀ o ∈ l, 0 ≤ o.f0) := Lib.hid (fun o ho => (osd_ranges (may_osd hm o ho)).1.1)
  have HSM : Hid (∀ (i : Nat) (o : Od), cs[i]? = some (some o) → findO l o.f0 = some o) := Lib.hid (fun i o h => by
    rw [hcs] at h
    exact findO_mem HASC.out (slots_mem HASC.out (List.mem_of_getElem? h)).1)
  have HFN : Hid (findO l (-1) = none) := Lib.hid (findO_none (fun o ho e => by have := HRNG.out o ho; omega))
  have TF := Lib.hid (fun id w1 h => aFind_calls ep k m p d A c l id w1 h)
  unfold boxM at *
  clear hx hwf hn hup hm hr hkm hcs
  obtain ⟨ac, has⟩ : ∃ ac, ac = cs.map aO := ⟨_, rfl⟩
  rw [← has] at T ⊢
  have HLA : Hid (ac.length = n) := Lib.hid (by rw [has, List.length_map]; exact HLEN.out)
  clear has
  go_enter Try.func53, Try.ntmps53
  go_wp2_with fail
  refine T.out.mono ?_
  rintro e w2 ⟨g, rfl, hg, hgh, hb⟩
  have HB2 := Lib.hid (below_then HB1.out HB1.out.size hb)
  have HM2 := Lib.hid (blk_below HM1.out hb)
  have HC2 := Lib.hid (Kd.C_below HC1.out hb)
  have HGH := Lib.hid hgh
  clear hb hg hgh T HB1 HM1 HC1
  clear TF HSM HFN HRNG HASC HLEN
  have HBB := Lib.hid (Below.refl w2.heap.size w2)
  go_wp2_with fail
  go_loopw [17] (fun i' wr => ∃ i : Nat, i' = .int .i64 i ∧ Hid (i ≤ n) ∧ Hid (∀ j, j < i → ac[j]? = some (-1)) ∧ Hid (Below w2.heap.size w2 wr)) (fun i' _ => (n - intOf i').toNat)
  case atStart => exact ⟨0, rfl, Lib.hid (Nat.zero_le _), Lib.hid (fun j hj => absurd hj (Nat.not_lt_zero _)), HBB⟩
  case round =>
    obtain ⟨i, rfl, HI, HJ, HB⟩ := hrel
    clear HBB
    have hi := HI.out
    by_cases h : i < n
    · have hlt : decide ((i : Int) < (n : Int)) = true := decide_eq_true (by omega)
      have hlt2 : decide (i < n) = true := decide_eq_true h
      have i0 : (0 : Int) ≤ i := by omega
      have i1 : (i : Int) < n := by omega
      obtain ⟨a, ha⟩ : ∃ a, ac[i]? = some a := ⟨ac[i]'(by rw [HLA.out]; exact h), List.getElem?_eq_getElem (by rw [HLA.out]; exact h)⟩
      have gc : wr.cell? ⟨g, i, none⟩ = some (.int .i64 a) := by rw [blk_cell (blk_below HGH.out HB.out) i]; exact outA_at ha
      have HIL := Lib.hid h
      have HA := Lib.hid ha
      clear h ha
      by_cases e : a = -1
      · subst e
        go_wp2_with fail
        go_roundw
        case rel =>
          refine ⟨i + 1, by go_num, Lib.hid HIL.out, Lib.hid (fun j hj => ?_), HB⟩
          rcases Nat.lt_or_ge j i with h2 | h2
          · exact HJ.out j h2
          · obtain rfl : j = i := by omega
            exact HA.out
        case measure => have := HIL.out; simp only [intOf]; omega
      · have hb : (a != -1) = true := bne_iff_ne.2 e
        have HN := Lib.hid e
        clear e
        go_wp2_with fail
        go_ret
        refine ⟨?_, below_then HB2.out HB2.out.size HB.out⟩
        rw [prim_skip HJ.out]
        obtain ⟨q1, q2⟩ := List.getElem?_eq_some_iff.1 HA.out
        have h2 : (a != -1) = true := bne_iff_ne.2 HN.out
        unfold primA
        rw [List.drop_eq_getElem_cons q1, q2, List.find?_cons, h2]
        rfl
    · obtain rfl : i = n := by omega
      have hlt : decide ((i : Int) < (i : Int)) = false := decide_eq_false (by omega)
      have hlt2 : decide (i < i) = false := decide_eq_false (by omega)
      go_wp2_with fail
      go_ret
      refine ⟨?_, below_then HB2.out HB2.out.size HB.out⟩
      rw [prim_skip HJ.out, List.drop_eq_nil_of_le (by rw [HLA.out]; exact Nat.le_refl _)]
      rfl
set_option maxHeartbeats 4000000 in
set_option maxRecDepth 100000 in
theorem Whole_ok (ep k m p d : Int) (A : Option Addr) (c : Nat) (l : List Od) (pg : Int) (n : Nat) (w : World) (hx : kO.C w A l.length l) (hwf : WfL l) (hn : upB (mayB ep k m p d l) pg p = true) (hkm : k + m = n) :
    Calls Try.prog 64 #[.agg (boxM ep k m p d A c l), .int .i64 pg] w fun e w' => e = .returned (.bool (!decide (-1 ∈ (slots l (pgX pg) n (domL d) n 0 []).map aO))) ∧ Below w.heap.size w w' := by
  have HB1 := Lib.hid (below_alloc (Below.refl w.heap.size w) (.cells (boxM ep k m p d A c l) 26))
  have HM1 : Hid ((w.alloc (.cells (boxM ep k m p d A c l) 26)).heap[w.heap.size]? = some (.cells (boxM ep k m p d A c l) 26 (0, 0))) := Lib.hid (blk_new _ _)
  have HC1 := Lib.hid (Kd.C_alloc hx (.cells (boxM ep k m p d A c l) 26))
  have T := Lib.hid (Acting_ok ep k m p d A c l pg n _ HC1.out hwf hn hkm)
  have hup := hn
  unfold upB at hup
  simp only [Bool.and_eq_true, decide_eq_true_eq] at hup
  have hm := hup.1
  have hr := pool_ranges hm
  have hn32 : n ≤ 32 := by omega
  obtain ⟨cs, hcs⟩ : ∃ cs, cs = slots l (pgX pg) n (domL d) n 0 [] := ⟨_, rfl⟩
  rw [← hcs] at T
  rw [← hcs]
  have HASC := Lib.hid (may_asc hm)
  have HLEN : Hid (cs.length = n) := Lib.hid (by rw [hcs]; exact slots_len _ _ _ _ _ _ _)
  have HRNG : Hid (∀ o ∈ l, 0 ≤ o.f0) := Lib.hid (fun o ho => (osd_ranges (may_osd hm o ho)).1.1)
  have HSM : Hid (∀ (i : Nat) (o : Od), cs[i]? = some (some o) → findO l o.f0 = some o) := Lib.hid (fun i o h => by
    rw [hcs] at h
    exact findO_mem HASC.out (slots_mem HASC.out (List.mem_of_getElem? h)).1)
  have HFN : Hid (findO l (-1) = none) := Lib.hid (findO_none (fun o ho e => by have := HRNG.out o ho; omega))
  have TF := Lib.hid (fun id w1 h => aFind_calls ep k m p d A c l id w1 h)
  unfold boxM at *
  clear hx hwf hn hup hm hr hkm hcs
  obtain ⟨ac, has⟩ : ∃ ac, ac = cs.map aO := ⟨_, rfl⟩
  rw [← has] at T ⊢
  have HLA : Hid (ac.length = n) := Lib.hid (by rw [has, List.length_map]; exact HLEN.out)
  clear has
  go_enter Try.func64, Try.ntmps64
  go_wp2_with fail
  refine T.out.mono ?_
  rintro e w2 ⟨g, rfl, hg, hgh, hb⟩
  have HB2 := Lib.hid (below_then HB1.out HB1.out.size hb)
  have HM2 := Lib.hid (blk_below HM1.out hb)
  have HC2 := Lib.hid (Kd.C_below HC1.out hb)
  have HGH := Lib.hid hgh
  clear hb hg hgh T HB1 HM1 HC1
  have TC := Lib.hid (contains_calls (some ⟨g, 0, none⟩) n ac (-1) w2 (ints_C HGH.out HLA.out (by omega)))
  rw [HLA.out] at TC
  clear TF HSM HFN HRNG HASC HLEN
  go_wp2_with fail
  refine TC.out.mono ?_
  rintro e w3 ⟨rfl, hb⟩
  have HB3 := Lib.hid (below_then HB2.out HB2.out.size hb)
  clear hb TC
  go_wp2_with fail
  go_ret
  exact ⟨rfl, HB3.out⟩
end Go.Proofs.Ytnpphmgibgfjoaa.PlW
namespace Go.Proofs.Ytnpphmgibgfjoaa.PlK
open Go Go.RowKit Go.Proofs.YtnpphmgibgfjoaaW.PrintWords Go.Proofs.YtnpphmgibgfjoaaW.PrintMore Mem PAll KW MixP MixW StrP StrW AtA Srt Grp Sl Dsc AtB Roo Cho MayP Awk UpsP ApP PlF PlU LAp PlA Chr PlL PlN PlW
open CrP hiding Od
def eight : Od := ⟨7, true, true, 5, 3, 1, 0, 0⟩
theorem eight_act : (slots [eight] (pgX 0) (2 : Nat) (domL 0) 2 0 []).map aO = [7, -1] := by decide +kernel
theorem eight_life : (slots [eight] (pgX 0) (2 : Nat) (domL 0) 2 0 []).map lifeO = [3, 0] := by decide +kernel
theorem eight_may : mayB 0 1 1 1 0 [eight] = true := by
  have hg : AtA.Good [eight] [eight].length := fun i o hi ho => by
    obtain rfl : i = 0 := by simp at hi; omega
    obtain rfl : eight = o := by simpa using ho
    exact ⟨by decide, fun j _ hj => absurd hj (Nat.not_lt_zero _)⟩
  unfold mayB
  rw [goodB_yes hg]
  decide
theorem eight_up : upB (mayB 0 1 1 1 0 [eight]) 0 1 = true := by
  rw [eight_may]
  rfl
theorem one_C {w : World} {g : Nat} {o : Od} (h : w.heap[g]? = some (.cells (aggO o) 40 (0, 0))) : kO.C w (some ⟨g, 0, none⟩) [o].length [o] := by
  refine ⟨rfl, by show 1 ≤ 9223372036854775807; decide, fun _ => ⟨_, rfl, fun j p hj => ?_⟩⟩
  match j, hj with
  | 0, hj =>
    obtain rfl := Option.some.inj hj
    refine ⟨_, rfl, k40_mkM w 0 (fun _ => True) _, fun i u hu => ?_⟩
    rw [add_plain, blk_cell h]
    match i, hu with
    | 0, hu => exact hu
    | 1, hu => exact hu
    | 2, hu => exact hu
    | 3, hu => exact hu
    | 4, hu => exact hu
    | 5, hu => exact hu
    | 6, hu => exact hu
    | 7, hu => exact hu
    | i + 8, hu => cases hu
  | j + 1, hj => cases hj
theorem eight_wf : WfL [eight] := fun o ho => by
  obtain rfl := List.mem_singleton.1 ho
  decide
set_option maxHeartbeats 4000000 in
set_option maxRecDepth 100000 in
theorem awake18_calls (w : World) : Calls Try.prog 33 #[] w fun e w' => e = .returned (.bool true) ∧ Below w.heap.size w w' := by
  have HBA := Lib.hid (below_alloc (below_alloc (Below.refl w.heap.size w) (.cells (aggO eight) 40)) (.cells #[.int .i64 0, .int .i64 1, .int .i64 1, .int .i64 1, .int .i64 0, .slice (some ⟨w.heap.size, 0, none⟩) 1 1] 26))
  have HS1 : Hid (((w.alloc (.cells (aggO eight) 40)).alloc (.cells #[.int .i64 0, .int .i64 1, .int .i64 1, .int .i64 1, .int .i64 0, .slice (some ⟨w.heap.size, 0, none⟩) 1 1] 26)).heap[w.heap.size]? = some (.cells (aggO eight) 40 (0, 0))) := Lib.hid (blk_below (blk_new _ _) (below_alloc (Below.refl _ _) _))
  have HM1 : Hid (((w.alloc (.cells (aggO eight) 40)).alloc (.cells #[.int .i64 0, .int .i64 1, .int .i64 1, .int .i64 1, .int .i64 0, .slice (some ⟨w.heap.size, 0, none⟩) 1 1] 26)).heap[w.heap.size + 1]? = some (.cells #[.int .i64 0, .int .i64 1, .int .i64 1, .int .i64 1, .int .i64 0, .slice (some ⟨w.heap.size, 0, none⟩) 1 1] 26 (0, 0))) := Lib.hid (by have h := blk_new (w.alloc (.cells (aggO eight) 40)) (.cells #[.int .i64 0, .int .i64 1, .int .i64 1, .int .i64 1, .int .i64 0, .slice (some ⟨w.heap.size, 0, none⟩) 1 1] 26); simp only [World.alloc, Array.size_push] at h ⊢; exact h)
  have T := Lib.hid (Lives_ok 0 1 1 1 0 (some ⟨w.heap.size, 0, none⟩) 1 [eight] 0 2 _ (one_C HS1.out) eight_wf eight_up (by decide))
  have T2 := Lib.hid (fun w1 h => Primary_ok 0 1 1 1 0 (some ⟨w.heap.size, 0, none⟩) 1 [eight] 0 2 w1 (one_C h) eight_wf eight_up (by decide))
  have T3 := Lib.hid (fun w1 h => Whole_ok 0 1 1 1 0 (some ⟨w.heap.size, 0, none⟩) 1 [eight] 0 2 w1 (one_C h) eight_wf eight_up (by decide))
  rw [eight_life] at T
  rw [eight_act] at T2 T3
  have HP : Hid (primA [7, -1] = 7) := Lib.hid rfl
  have HQ : Hid ((!decide ((-1 : Int) ∈ [(7 : Int), -1])) = false) := Lib.hid (by decide)
  unfold boxM at *
  go_enter Try.func33, Try.ntmps33
  go_wp2_with fail
  refine T.out.mono ?_
  rintro e w1 ⟨v1, v2, rfl, hI, hb⟩
  have HB2 := Lib.hid (below_then HBA.out HBA.out.size hb)
  have HM2 := Lib.hid (blk_below HM1.out hb)
  have HS2 := Lib.hid (blk_below HS1.out hb)
  obtain ⟨g1, c1, hv1, _⟩ := Kd.R_form hI.1 (by decide)
  subst hv1
  have HG := Lib.hid hI.1
  clear hb hI T
  go_wp2_with fail
  refine (pg_a _).mono ?_
  rintro e w2 ⟨rfl, hb⟩
  have HB3 := Lib.hid (below_then HB2.out HB2.out.size hb)
  have HM3 := Lib.hid (blk_below HM2.out hb)
  have HS3 := Lib.hid (blk_below HS2.out hb)
  have g0 := at_kI (Kd.R_below HG.out hb) 0 3 rfl
  have m0 := blk_cell HM3.out 0
  have m1 := blk_cell HM3.out 1
  have m2 := blk_cell HM3.out 2
  have m3 := blk_cell HM3.out 3
  have m4 := blk_cell HM3.out 4
  have m5 := blk_cell HM3.out 5
  clear hb
  go_wp2_with fail
  refine (T2.out _ HS3.out).mono ?_
  rintro e w3 ⟨rfl, hb⟩
  rw [HP.out]
  have HB4 := Lib.hid (below_then HB3.out HB3.out.size hb)
  have HM4 := Lib.hid (blk_below HM3.out hb)
  have HS4 := Lib.hid (blk_below HS3.out hb)
  clear hb m0 m1 m2 m3 m4 m5 g0
  have m0 := blk_cell HM4.out 0
  have m1 := blk_cell HM4.out 1
  have m2 := blk_cell HM4.out 2
  have m3 := blk_cell HM4.out 3
  have m4 := blk_cell HM4.out 4
  have m5 := blk_cell HM4.out 5
  go_wp2_with fail
  refine (T3.out _ HS4.out).mono ?_
  rintro e w4 ⟨rfl, hb⟩
  rw [HQ.out]
  have HB5 := Lib.hid (below_then HB4.out HB4.out.size hb)
  clear hb m0 m1 m2 m3 m4 m5
  go_wp2_with fail
  go_ret
  exact ⟨rfl, HB5.out⟩
end Go.Proofs.Ytnpphmgibgfjoaa.PlK
namespace Go.Proofs.Ytnpphmgibgfjoaa.PgW
open Go Go.RowKit Go.Proofs.YtnpphmgibgfjoaaW.PrintWords Mem PgP
abbrev P3 : ByteArray := ⟨#[239, 191, 189]⟩
def hasP (t : ByteArray) : Bool := decide (3 ≤ t.size) && ((t.extract 0 3).toList == [239, 191, 189])
theorem hp_calls (t : ByteArray) (w : World) (hs : t.size ≤ 1048576) : Calls Try.prog 125 #[.string t, .string P3] w fun e w' => e = .returned (.bool (hasP t)) ∧ w = w' := by
  have hp : P3.size = 3 := by decide
  unfold hasP
  by_cases h : 3 ≤ t.size
  · have hd : decide (3 ≤ t.size) = true := decide_eq_true h
    have hd2 : decide ((3 : Int) ≤ (t.size : Int)) = true := decide_eq_true (by omega)
    rw [hd]
    go_enter Try.func125, Try.ntmps125
    go_wp2_with fail
    go_ret
    exact ⟨rfl, rfl⟩
  · have hd : decide (3 ≤ t.size) = false := decide_eq_false h
    have hd2 : decide ((3 : Int) ≤ (t.size : Int)) = false := decide_eq_false (by omega)
    rw [hd]
    go_enter Try.func125, Try.ntmps125
    go_wp2_with fail
    go_ret
    exact ⟨rfl, rfl⟩
theorem hasPrefix_calls (t : ByteArray) (w : World) (hs : t.size ≤ 1048576) : Calls Try.prog 119 #[.string t, .string P3] w fun e w' => e = .returned (.bool (hasP t)) ∧ w = w' := by
  go_enter Try.func119, Try.ntmps119
  go_wp2_with fail
  refine (hp_calls t _ hs).mono ?_
  rintro e w1 ⟨rfl, rfl⟩
  go_wp2_with fail
  go_ret
  exact ⟨rfl, rfl⟩
theorem get_ext {s : ByteArray} {a b j : Nat} (hb : b ≤ s.size) (h : a + j < b) : (s.extract a b).get! j = s.get! (a + j) := by
  have h1 : j < (s.extract a b).size := by rw [ByteArray.size_extract]; omega
  have g1 := get_at (s.extract a b) j h1
  have g2 := get_at s (a + j) (by omega)
  rw [Nat.add_zero] at g1 g2
  rw [g1, g2]
  exact ByteArray.getElem_extract h1
theorem three {u : ByteArray} (h : u.size = 3) : u.toList = [u.get! 0, u.get! 1, u.get! 2] := by
  obtain ⟨d⟩ := u
  obtain ⟨l⟩ := d
  match l, h with
  | [a, b, c], _ => exact ByteArray.toList_mk [a, b, c]
theorem u8_eq (a : UInt8) (n : Nat) (hn : n < 256) : (a == UInt8.ofNat n) = decide (a.toNat = n) := by
  by_cases h : a.toNat = n
  · rw [decide_eq_true h]
    refine beq_iff_eq.2 (UInt8.toNat_inj.1 ?_)
    rw [h, UInt8.toNat_ofNat', Nat.mod_eq_of_lt hn]
  · rw [decide_eq_false h]
    refine beq_eq_false_iff_ne.2 (fun e => h ?_)
    rw [e, UInt8.toNat_ofNat', Nat.mod_eq_of_lt hn]
theorem hasP_iff {s : ByteArray} {i : Nat} (h : i < s.size) : hasP (s.extract i s.size) = decide (i + 2 < s.size ∧ by_ s i = 239 ∧ by_ s (i + 1) = 191 ∧ by_ s (i + 2) = 189) := by
  unfold hasP
  have hsz : (s.extract i s.size).size = s.size - i := by rw [ByteArray.size_extract]; omega
  by_cases h3 : i + 2 < s.size
  · rw [hsz, decide_eq_true (by omega), Bool.true_and]
    have ge : ∀ j, j < 3 → ((s.extract i s.size).extract 0 3).get! j = s.get! (i + j) := fun j hj => by
      rw [get_ext (s := s.extract i s.size) (a := 0) (b := 3) (j := j) (by rw [hsz]; omega) (by omega), Nat.zero_add, get_ext (Nat.le_refl _) (by omega)]
    rw [three (by rw [ByteArray.size_extract, hsz]; omega), ge 0 (by decide), ge 1 (by decide), ge 2 (by decide)]
    show (s.get! (i + 0) == UInt8.ofNat 239 && (s.get! (i + 1) == UInt8.ofNat 191 && (s.get! (i + 2) == UInt8.ofNat 189 && true))) = _
    rw [u8_eq _ _ (by decide), u8_eq _ _ (by decide), u8_eq _ _ (by decide), Bool.and_true, Nat.add_zero]
    unfold by_
    rw [← Bool.decide_and, ← Bool.decide_and]
    exact decide_eq_decide.2 ⟨fun h => ⟨h3, h⟩, fun h => h.2⟩
  · rw [hsz, decide_eq_false (by omega), decide_eq_false (fun e => h3 e.1)]
    rfl
theorem dec_lost {s : ByteArray} {i : Nat} (h : (Utf8.decode s i).1 = 65533) : Utf8.decode s i = (65533, 1) ↔ ¬ (i + 2 < s.size ∧ by_ s i = 239 ∧ by_ s (i + 1) = 191 ∧ by_ s (i + 2) = 189) := by
  have hb0 := by_lt s i
  have hb1 := by_lt s (i + 1)
  have hb2 := by_lt s (i + 2)
  have hb3 := by_lt s (i + 3)
  rw [dec_eq] at h ⊢
  unfold Lib.decodeN at h ⊢
  by_cases c0 : by_ s i < 128
  · rw [if_pos c0] at h
    have h' : by_ s i = 65533 := h
    omega
  rw [if_neg c0] at h ⊢
  by_cases c1 : by_ s i / 32 = 6 ∧ (1 < s.size - i ∧ by_ s (i + 1) / 64 = 2)
  · rw [if_pos c1] at h ⊢
    split at h
    · have h' : by_ s i % 32 * 64 + by_ s (i + 1) % 64 = 65533 := h
      omega
    · rename_i v
      rw [if_neg v]
      exact ⟨fun _ => by omega, fun _ => rfl⟩
  rw [if_neg c1] at h ⊢
  by_cases c2 : by_ s i / 16 = 14 ∧ (1 < s.size - i ∧ by_ s (i + 1) / 64 = 2) ∧ (2 < s.size - i ∧ by_ s (i + 2) / 64 = 2)
  · rw [if_pos c2] at h ⊢
    split at h
    · rename_i v
      rw [if_pos v]
      have h' : by_ s i % 16 * 4096 + by_ s (i + 1) % 64 * 64 + by_ s (i + 2) % 64 = 65533 := h
      constructor
      · intro e
        have := congrArg Prod.snd e
        simp at this
      · intro e
        exact absurd ⟨by omega, by omega, by omega, by omega⟩ e
    · rename_i v
      rw [if_neg v]
      exact ⟨fun _ => by omega, fun _ => rfl⟩
  rw [if_neg c2] at h ⊢
  by_cases c3 : by_ s i / 8 = 30 ∧ (1 < s.size - i ∧ by_ s (i + 1) / 64 = 2) ∧ (2 < s.size - i ∧ by_ s (i + 2) / 64 = 2) ∧ (3 < s.size - i ∧ by_ s (i + 3) / 64 = 2)
  · rw [if_pos c3] at h ⊢
    split at h
    · have h' : by_ s i % 8 * 262144 + by_ s (i + 1) % 64 * 4096 + by_ s (i + 2) % 64 * 64 + by_ s (i + 3) % 64 = 65533 := h
      rename_i v
      omega
    · rename_i v
      rw [if_neg v]
      exact ⟨fun _ => by omega, fun _ => rfl⟩
  rw [if_neg c3] at h ⊢
  exact ⟨fun _ => by omega, fun _ => rfl⟩
end Go.Proofs.Ytnpphmgibgfjoaa.PgW
namespace Go.Proofs.Ytnpphmgibgfjoaa.PgX
open Go Go.RowKit Go.Proofs.YtnpphmgibgfjoaaW.PrintWords Mem PgP PgW
theorem below_iter2 {w w1 : World} (h : Below w.heap.size w w1) (s : ByteArray) (pos : Nat) : Below w.heap.size w (w1.iter s pos) := by unfold World.iter; exact below_alloc h _
theorem runes_succ {s : ByteArray} {f i : Nat} (h : i < s.size) (hb : Utf8.decode s i ≠ (65533, 1)) : runes s (f + 1) i = (runes s f (i + (Utf8.decode s i).2)).map fun r => ((Utf8.decode s i).1 : Int) :: r := by
  simp only [runes]
  rw [if_pos h, if_neg hb]
theorem runes_bad {s : ByteArray} {f i : Nat} (h : i < s.size) (hb : Utf8.decode s i = (65533, 1)) : runes s (f + 1) i = none := by
  simp only [runes]
  rw [if_pos h, if_pos hb]
theorem runes_end {s : ByteArray} {f i : Nat} (h : ¬ i < s.size) : runes s f i = some [] := by
  cases f with
  | zero => rfl
  | succ f => simp only [runes]; rw [if_neg h]
set_option maxHeartbeats 4000000 in
theorem good_calls (s : ByteArray) (w : World) (hs : s.size ≤ 1048576) : Calls Try.prog 101 #[.string s] w fun e w' => e = .returned (.bool (Runes s).isSome) ∧ Below w.heap.size w w' := by
  obtain ⟨G, hG⟩ : ∃ G, G = (Runes s).isSome := ⟨_, rfl⟩
  rw [← hG]
  have HG : Hid ((runes s s.size 0).isSome = G) := Lib.hid (by rw [hG]; rfl)
  have HBI : Hid (∀ pos, Below w.heap.size w (w.iter s pos)) := Lib.hid (fun pos => below_iter2 (Below.refl _ _) s pos)
  clear hG
  go_enter Try.func101, Try.ntmps101
  go_wp2_with fail
  go_loopw [3, 4] (fun _ _ wr => ∃ pos b : Nat, wr = w.iter s pos ∧ Hid ((runes s b pos).isSome = G) ∧ Hid (s.size - pos ≤ b)) (fun _ _ wr => s.size - wr.iterPos w.heap.size)
  case atStart => exact ⟨0, s.size, rfl, HG, Lib.hid (by omega)⟩
  case round =>
    obtain ⟨pos, b, rfl, HR, HF⟩ := hrel
    by_cases hp : pos < s.size
    · have hnx : ∀ ty, (Instr.next (.pointer (some ⟨w.heap.size, 0, none⟩)) true ty).run Try.prog (w.iter s pos) = _ := fun ty => run_next_any w s pos ty hp
      obtain ⟨b, rfl⟩ : ∃ b', b = b' + 1 := ⟨b - 1, by have := HF.out; omega⟩
      have hd1 := dec_pos s pos
      have HP := Lib.hid hp
      have HDL : Hid ((Utf8.decode s pos).1 = 65533 → (Utf8.decode s pos = (65533, 1) ↔ ¬ (pos + 2 < s.size ∧ by_ s pos = 239 ∧ by_ s (pos + 1) = 191 ∧ by_ s (pos + 2) = 189))) := Lib.hid dec_lost
      have HRS := Lib.hid (fun hb => runes_succ (s := s) (f := b) (i := pos) hp hb)
      have HRB := Lib.hid (fun hb => runes_bad (s := s) (f := b) (i := pos) hp hb)
      obtain ⟨D, hD⟩ : ∃ D, D = Utf8.decode s pos := ⟨_, rfl⟩
      rw [← hD] at hnx HDL HRS HRB hd1
      obtain ⟨c, n⟩ := D
      have HN : Hid (1 ≤ n) := Lib.hid hd1
      have pos1 : (pos : Int) ≤ s.size := by omega
      have pos0 : (0 : Int) ≤ pos := by omega
      simp only at hnx
      clear hD hd1
      by_cases hc : c = 65533
      · subst hc
        have hce : (((65533 : Nat) : Int) == 65533) = true := rfl
        have T := Lib.hid (hasPrefix_calls (s.extract pos s.size) (w.iter s (pos + n)) (by rw [ByteArray.size_extract]; omega))
        rw [hasP_iff hp] at T
        clear hp
        obtain ⟨pb, hpb⟩ : ∃ pb, pb = decide (pos + 2 < s.size ∧ by_ s pos = 239 ∧ by_ s (pos + 1) = 191 ∧ by_ s (pos + 2) = 189) := ⟨_, rfl⟩
        rw [← hpb] at T
        have HPB := Lib.hid hpb
        clear hpb
        go_wp2_with fail
        refine T.out.mono ?_
        rintro e w1 ⟨rfl, rfl⟩
        clear T
        cases pb with
        | false =>
          go_wp2_with fail
          go_ret
          refine ⟨?_, HBI.out _⟩
          have hb := (HDL.out trivial).2 (of_decide_eq_false HPB.out.symm)
          have := HR.out
          rw [HRB.out hb] at this
          rw [← this]
          rfl
        | true =>
          have HNB : Hid (((65533 : Nat), n) ≠ (65533, 1)) := Lib.hid (fun e => (HDL.out trivial).1 e (of_decide_eq_true HPB.out.symm))
          go_wp2_with fail
          go_roundw
          case rel => exact ⟨pos + n, b, rfl, Lib.hid (by rw [← HR.out, HRS.out HNB.out]; simp), Lib.hid (by have := HF.out; have := HN.out; omega)⟩
          case measure => have := HP.out; have := HN.out; simp only [World.iterPos_iter]; omega
      · have hce : ((c : Int) == 65533) = false := beq_eq_false_iff_ne.2 (by omega)
        have HNB : Hid ((c, n) ≠ (65533, 1)) := Lib.hid (fun e => hc (congrArg Prod.fst e))
        clear hc hp
        go_wp2_with fail
        go_roundw
        case rel => exact ⟨pos + n, b, rfl, Lib.hid (by rw [← HR.out, HRS.out HNB.out]; simp), Lib.hid (by have := HF.out; have := HN.out; omega)⟩
        case measure => have := HP.out; have := HN.out; simp only [World.iterPos_iter]; omega
    · have hnx : ∀ ty, (Instr.next (.pointer (some ⟨w.heap.size, 0, none⟩)) true ty).run Try.prog (w.iter s pos) = _ := fun ty => run_next_end w s pos ty hp
      have HE := Lib.hid (runes_end (s := s) (f := b) hp)
      clear hp
      go_wp2_with fail
      go_ret
      refine ⟨?_, HBI.out pos⟩
      have := HR.out
      rw [HE.out] at this
      rw [← this]
      rfl
def lenO : Option (List Int) → Value
  | none => .tuple #[.int .i64 0, .bool false]
  | some l => .tuple #[.int .i64 l.length, .bool true]
theorem runes_len {s : ByteArray} : ∀ {f i : Nat} {l : List Int}, runes s f i = some l → i + l.length ≤ s.size + i ∧ (i ≤ s.size → i + l.length ≤ s.size)
  | 0, i, l, h => by
    obtain rfl : [] = l := by simpa [runes] using h
    exact ⟨by simp, fun h => by simpa using h⟩
  | f + 1, i, l, h => by
    by_cases hi : i < s.size
    · by_cases hb : Utf8.decode s i = (65533, 1)
      · rw [runes_bad hi hb] at h; cases h
      · rw [runes_succ hi hb] at h
        obtain ⟨r, hr, rfl⟩ := Option.map_eq_some_iff.1 h
        have hp := dec_pos s i
        have hle : i + (Utf8.decode s i).2 ≤ s.size := by
          by_cases ha : by_ s i < 128
          · rw [dec_ascii ha]; show i + 1 ≤ s.size; omega
          · exact (dec_high ha hb).2.2.1
        have := (runes_len hr).2 hle
        simp only [List.length_cons]
        exact ⟨by omega, fun _ => by omega⟩
    · rw [runes_end hi] at h
      obtain rfl : [] = l := Option.some.inj h
      exact ⟨by simp, fun h => by simpa using h⟩
set_option maxHeartbeats 4000000 in
theorem count_calls (s : ByteArray) (w : World) (hs : s.size ≤ 1048576) : Calls Try.prog 87 #[.string s] w fun e w' => e = .returned (lenO (Runes s)) ∧ Below w.heap.size w w' := by
  have T := Lib.hid (good_calls s w hs)
  cases hr : Runes s with
  | none =>
    rw [hr] at T
    clear hr
    go_enter Try.func87, Try.ntmps87
    go_wp2_with fail
    refine T.out.mono ?_
    rintro e w1 ⟨rfl, hb⟩
    have HB := Lib.hid hb
    clear hb T
    go_wp2_with fail
    go_ret2
    exact ⟨rfl, HB.out⟩
  | some l =>
    rw [hr] at T
    have HR0 : Hid (runes s s.size 0 = some l) := Lib.hid hr
    have HLL : Hid (l.length ≤ 1048576) := Lib.hid (by have := (runes_len hr).2 (Nat.zero_le _); omega)
    clear hr
    show Calls Try.prog 87 #[.string s] w fun e w' => e = .returned (.tuple #[.int .i64 l.length, .bool true]) ∧ Below w.heap.size w w'
    go_enter Try.func87, Try.ntmps87
    go_wp2_with fail
    refine T.out.mono ?_
    rintro e w1 ⟨rfl, hb⟩
    have HBI : Hid (∀ pos, Below w.heap.size w (w1.iter s pos)) := Lib.hid (fun pos => below_iter2 hb s pos)
    clear hb T
    go_wp2_with fail
    go_loopw [4] (fun n' wr => ∃ (pos b k : Nat) (r : List Int), wr = w1.iter s pos ∧ n' = .int .i64 k ∧ Hid (runes s b pos = some r) ∧ Hid (k + r.length = l.length) ∧ Hid (s.size - pos ≤ b)) (fun _ wr => s.size - wr.iterPos w1.heap.size)
    case atStart => exact ⟨0, s.size, 0, l, rfl, rfl, HR0, Lib.hid (by omega), Lib.hid (by omega)⟩
    case round =>
      obtain ⟨pos, b, k, r, rfl, rfl, HR, HK, HF⟩ := hrel
      have hk : k ≤ 1048576 := by have := HK.out; have := HLL.out; omega
      by_cases hp : pos < s.size
      · have hnx : ∀ ty, (Instr.next (.pointer (some ⟨w1.heap.size, 0, none⟩)) true ty).run Try.prog (w1.iter s pos) = _ := fun ty => run_next_any w1 s pos ty hp
        obtain ⟨b, rfl⟩ : ∃ b', b = b' + 1 := ⟨b - 1, by have := HF.out; omega⟩
        have hnb : Utf8.decode s pos ≠ (65533, 1) := fun e => by have := HR.out; rw [runes_bad hp e] at this; cases this
        have hr := HR.out
        rw [runes_succ hp hnb] at hr
        obtain ⟨r', hr', e⟩ := Option.map_eq_some_iff.1 hr
        have HR' := Lib.hid hr'
        have HE := Lib.hid e
        have HN := Lib.hid (dec_pos s pos)
        have HP := Lib.hid hp
        have kw : IntKind.i64.wrap ((k : Int) + 1) = (k : Int) + 1 := IntWalk.i64_in _ (by omega)
        clear hp hnb hr hr' e
        go_wp2_with fail
        go_roundw
        case rel => exact ⟨pos + (Utf8.decode s pos).2, b, k + 1, r', rfl, by go_num, HR', Lib.hid (by have := HK.out; rw [← HE.out, List.length_cons] at this; omega), Lib.hid (by have := HF.out; have := HN.out; omega)⟩
        case measure => have := HP.out; have := HN.out; simp only [World.iterPos_iter]; omega
      · have hnx : ∀ ty, (Instr.next (.pointer (some ⟨w1.heap.size, 0, none⟩)) true ty).run Try.prog (w1.iter s pos) = _ := fun ty => run_next_end w1 s pos ty hp
        have HE : Hid (k = l.length) := Lib.hid (by
          have h1 := HR.out
          rw [runes_end hp] at h1
          have h2 := HK.out
          rw [← Option.some.inj h1] at h2
          simpa using h2)
        clear hp
        go_wp2_with fail
        go_ret2
        exact ⟨by rw [HE.out]; rfl, HBI.out pos⟩
theorem any_cons {x : Int} {r : List Int} : (x :: r).any ill = (ill x || r.any ill) := List.any_cons
set_option maxHeartbeats 8000000 in
set_option maxRecDepth 100000 in
theorem check_calls (s : ByteArray) (w : World) (hs : s.size ≤ 1048576) : Calls Try.prog 60 #[.string s] w fun e w' => e = .returned (.int .i64 (checkL (Runes s))) ∧ Below w.heap.size w w' := by
  have T := Lib.hid (count_calls s w hs)
  cases hr : Runes s with
  | none =>
    rw [hr] at T
    clear hr
    unfold lenO at T
    go_enter Try.func60, Try.ntmps60
    go_wp2_with fail
    refine T.out.mono ?_
    rintro e w1 ⟨rfl, hb⟩
    have HB := Lib.hid hb
    clear hb T
    go_wp2_with fail
    go_ret
    exact ⟨rfl, HB.out⟩
  | some l =>
    rw [hr] at T
    unfold lenO at T
    have hl64 := (runes_len hr).2 (Nat.zero_le _)
    by_cases h64 : 64 < l.length
    · have hd : decide (64 < l.length) = true := decide_eq_true h64
      have hd2 : decide ((64 : Int) < (l.length : Int)) = true := decide_eq_true (by omega)
      have HC : Hid (checkL (some l) = 3) := Lib.hid (if_pos h64)
      rw [HC.out]
      clear hr h64
      go_enter Try.func60, Try.ntmps60
      go_wp2_with fail
      refine T.out.mono ?_
      rintro e w1 ⟨rfl, hb⟩
      have HB := Lib.hid hb
      clear hb T
      go_wp2_with fail
      go_ret
      exact ⟨rfl, HB.out⟩
    · have hd : decide (64 < l.length) = false := decide_eq_false h64
      have hd2 : decide ((64 : Int) < (l.length : Int)) = false := decide_eq_false (by omega)
      have HC : Hid (checkL (some l) = if l = [] ∨ l.head? = some 32 ∨ l.getLast? = some 32 then 1 else if l.any ill = true then 1 else 0) := Lib.hid (if_neg h64)
      by_cases hz : l = []
      · subst hz
        rw [HC.out, if_pos (.inl rfl)]
        clear hr h64
        go_enter Try.func60, Try.ntmps60
        go_wp2_with fail
        refine T.out.mono ?_
        rintro e w1 ⟨rfl, hb⟩
        have HB := Lib.hid hb
        clear hb T
        go_wp2_with fail
        go_ret
        exact ⟨rfl, HB.out⟩
      · have hlp : 0 < l.length := List.length_pos_iff.2 hz
        have hsp : 0 < s.size := by omega
        have hlz : ((l.length : Int) == 0) = false := beq_eq_false_iff_ne.2 (by omega)
        have hf : l.head? = some 32 ↔ by_ s 0 = 32 := by
          have h2 : runes s (s.size - 1 + 1) 0 = some l := by rw [show s.size - 1 + 1 = s.size by omega]; exact hr
          exact (runes_first h2 hsp).1
        have hg : l.getLast? = some 32 ↔ by_ s (s.size - 1) = 32 := runes_last hr (by omega) hsp
        have i0 : (0 : Int) < s.size := by omega
        have kw : IntKind.i64.wrap ((s.size : Int) - 1) = ((s.size - 1 : Nat) : Int) := by rw [show (s.size : Int) - 1 = ((s.size - 1 : Nat) : Int) by omega]; exact IntWalk.i64_in _ (by omega)
        have i1 : ((s.size - 1 : Nat) : Int) < s.size := by omega
        have i2 : (0 : Int) ≤ ((s.size - 1 : Nat) : Int) := by omega
        have by_at : ∀ (i : Nat) (h : i < s.size), by_ s i = (s[i]'h).toNat := fun i h => by
          have g := get_at s i h
          rw [Nat.add_zero] at g
          unfold by_
          rw [g]
        have hHD : Hid (runes s s.size 0 = some l) := Lib.hid hr
        have hne : l ≠ [] := hz
        clear h64 hz hlp hr hl64
        by_cases hA : by_ s 0 = 32
        · rw [HC.out, if_pos (.inr (.inl (hf.2 hA)))]
          have hb1 : (((s[0]'hsp).toNat : Int) == 32) = true := beq_iff_eq.2 (by rw [← by_at 0 hsp, hA]; rfl)
          clear hf hg hA by_at
          go_enter Try.func60, Try.ntmps60
          go_wp2_with fail
          refine T.out.mono ?_
          rintro e w1 ⟨rfl, hb⟩
          have HB := Lib.hid hb
          clear hb T
          go_wp2_with fail
          go_ret
          exact ⟨rfl, HB.out⟩
        · have hb1 : (((s[0]'hsp).toNat : Int) == 32) = false := beq_eq_false_iff_ne.2 (by rw [← by_at 0 hsp]; omega)
          by_cases hB : by_ s (s.size - 1) = 32
          · rw [HC.out, if_pos (.inr (.inr (hg.2 hB)))]
            have hb2 : (((s[s.size - 1]'(by omega)).toNat : Int) == 32) = true := beq_iff_eq.2 (by rw [← by_at _ (by omega), hB]; rfl)
            clear hf hg hA hB by_at
            go_enter Try.func60, Try.ntmps60
            go_wp2_with fail
            refine T.out.mono ?_
            rintro e w1 ⟨rfl, hb⟩
            have HB := Lib.hid hb
            clear hb T
            go_wp2_with fail
            go_ret
            exact ⟨rfl, HB.out⟩
          · have hb2 : (((s[s.size - 1]'(by omega)).toNat : Int) == 32) = false := beq_eq_false_iff_ne.2 (by rw [← by_at _ (by omega)]; omega)
            have HC2 : Hid (checkL (some l) = if l.any ill = true then 1 else 0) := Lib.hid (by
              rw [HC.out, if_neg]
              rintro (h | h | h)
              · exact hne h
              · exact hA (hf.1 h)
              · exact hB (hg.1 h))
            rw [HC2.out]
            clear hf hg hA hB by_at HC HC2 hne
            obtain ⟨R, hR⟩ : ∃ R, R = (if l.any ill = true then (1 : Int) else 0) := ⟨_, rfl⟩
            rw [← hR]
            have HR0 : Hid ((if l.any ill = true then (1 : Int) else 0) = R) := Lib.hid hR.symm
            clear hR
            go_enter Try.func60, Try.ntmps60
            go_wp2_with fail
            refine T.out.mono ?_
            rintro e w1 ⟨rfl, hb⟩
            have HB := Lib.hid hb
            clear hb T
            go_wp2_with fail
            have HBI : Hid (∀ pos, Below w.heap.size w (w1.iter s pos)) := Lib.hid (fun pos => below_iter2 HB.out s pos)
            go_loopw [6] (fun _ wr => ∃ (pos b : Nat) (r : List Int), wr = w1.iter s pos ∧ Hid (runes s b pos = some r) ∧ Hid ((if r.any ill = true then (1 : Int) else 0) = R) ∧ Hid (s.size - pos ≤ b)) (fun _ wr => s.size - wr.iterPos w1.heap.size)
            case atStart => exact ⟨0, s.size, l, rfl, hHD, HR0, Lib.hid (by omega)⟩
            case round =>
              obtain ⟨pos, b, r, rfl, HR, HA, HF⟩ := hrel
              by_cases hp : pos < s.size
              · have hnx : ∀ ty, (Instr.next (.pointer (some ⟨w1.heap.size, 0, none⟩)) true ty).run Try.prog (w1.iter s pos) = _ := fun ty => run_next_any w1 s pos ty hp
                obtain ⟨b, rfl⟩ : ∃ b', b = b' + 1 := ⟨b - 1, by have := HF.out; omega⟩
                have hnb : Utf8.decode s pos ≠ (65533, 1) := fun e => by have := HR.out; rw [runes_bad hp e] at this; cases this
                have hr := HR.out
                rw [runes_succ hp hnb] at hr
                obtain ⟨r', hr', e⟩ := Option.map_eq_some_iff.1 hr
                have HR' := Lib.hid hr'
                have hd1 := dec_pos s pos
                have HP := Lib.hid hp
                clear hr hnb hp hb1 hb2
                obtain ⟨D, hD⟩ : ∃ D, D = Utf8.decode s pos := ⟨_, rfl⟩
                rw [← hD] at hnx e hd1 HR' hr'
                obtain ⟨c, n⟩ := D
                have HN : Hid (1 ≤ n) := Lib.hid hd1
                have HE : Hid ((c : Int) :: r' = r) := Lib.hid e
                simp only at hnx
                clear hD hd1 e hr'
                by_cases q1 : (c : Int) < 32
                · have d1 : decide ((c : Int) < 32) = true := decide_eq_true q1
                  have HX := Lib.hid q1
                  clear q1
                  go_wp2_with fail
                  go_ret
                  refine ⟨?_, HBI.out _⟩
                  have h1 := HA.out
                  rw [← HE.out, any_cons, show ill (c : Int) = true by unfold ill; simp [HX.out]] at h1
                  rw [← h1]
                  rfl
                · have d1 : decide ((c : Int) < 32) = false := decide_eq_false q1
                  by_cases q2 : (c : Int) = 127
                  · have d2 : ((c : Int) == 127) = true := beq_iff_eq.2 q2
                    have HX := Lib.hid q2
                    clear q1 q2
                    go_wp2_with fail
                    go_ret
                    refine ⟨?_, HBI.out _⟩
                    have h1 := HA.out
                    rw [← HE.out, any_cons, show ill (c : Int) = true by unfold ill; simp [HX.out]] at h1
                    rw [← h1]
                    rfl
                  · have d2 : ((c : Int) == 127) = false := beq_eq_false_iff_ne.2 q2
                    by_cases q3 : (c : Int) = 47
                    · have d3 : ((c : Int) == 47) = true := beq_iff_eq.2 q3
                      have HX := Lib.hid q3
                      clear q1 q2 q3
                      go_wp2_with fail
                      go_ret
                      refine ⟨?_, HBI.out _⟩
                      have h1 := HA.out
                      rw [← HE.out, any_cons, show ill (c : Int) = true by unfold ill; simp [HX.out]] at h1
                      rw [← h1]
                      rfl
                    · have d3 : ((c : Int) == 47) = false := beq_eq_false_iff_ne.2 q3
                      by_cases q4 : (c : Int) = 65533
                      · have d4 : ((c : Int) == 65533) = true := beq_iff_eq.2 q4
                        have HX := Lib.hid q4
                        clear q1 q2 q3 q4
                        go_wp2_with fail
                        go_ret
                        refine ⟨?_, HBI.out _⟩
                        have h1 := HA.out
                        rw [← HE.out, any_cons, show ill (c : Int) = true by unfold ill; simp [HX.out]] at h1
                        rw [← h1]
                        rfl
                      · have d4 : ((c : Int) == 65533) = false := beq_eq_false_iff_ne.2 q4
                        have HNI : Hid (ill (c : Int) = false) := Lib.hid (by unfold ill; rw [d1, d2, d3, d4]; rfl)
                        clear q1 q2 q3 q4
                        go_wp2_with fail
                        go_roundw
                        case rel => exact ⟨pos + n, b, r', rfl, HR', Lib.hid (by rw [← HA.out, ← HE.out, any_cons, HNI.out, Bool.false_or]), Lib.hid (by have := HF.out; have := HN.out; omega)⟩
                        case measure => have := HP.out; have := HN.out; simp only [World.iterPos_iter]; omega
              · have hnx : ∀ ty, (Instr.next (.pointer (some ⟨w1.heap.size, 0, none⟩)) true ty).run Try.prog (w1.iter s pos) = _ := fun ty => run_next_end w1 s pos ty hp
                have HE : Hid (R = 0) := Lib.hid (by
                  have h1 := HR.out
                  rw [runes_end hp] at h1
                  have h2 := HA.out
                  rw [← Option.some.inj h1] at h2
                  rw [← h2]
                  rfl)
                clear hp hb1 hb2
                go_wp2_with fail
                go_ret
                exact ⟨by rw [HE.out]; rfl, HBI.out pos⟩
end Go.Proofs.Ytnpphmgibgfjoaa.PgX
namespace Go.Proofs.Ytnpphmgibgfjoaa.PgY
open Go Go.RowKit Go.Proofs.YtnpphmgibgfjoaaW.PrintWords Go.Proofs.YtnpphmgibgfjoaaW.PrintLast Go.Proofs.YtnpphmgibgfjoaaW.PrintMore Mem PPg PgP PgW PgX PlK
def hstep (s : ByteArray) (x : Int) (i : Nat) : Int := ((Go.bits .xor .u32 x ((bt s (i : Int)) % 4294967296)) * 16777619) % 4294967296
def hS (s : ByteArray) : Nat → Nat → Int → Int
  | 0, _, x => x
  | r + 1, i, x => hS s r (i + 1) (hstep s x i)
def fin1 (x : Int) : Int := ((Go.bits .xor .u32 x ((Int.tdiv x 65536) % 4294967296)) * 2146121005) % 4294967296
def fin2 (x : Int) : Int := ((Go.bits .xor .u32 x (x / 32768)) * 2221713035) % 4294967296
def fin3 (x : Int) : Int := Go.bits .xor .u32 x (x / 65536)
def hashS (s : ByteArray) : Int := fin3 (fin2 (fin1 (hS s s.size 0 2166136261)))
theorem hash_l0 (s : ByteArray) (hs : s.size ≤ 1048576) : ∀ r i : Nat, ∀ x : Int, i + r = s.size → ∃ K, mooringref06_Hash.l0 K s x (i : Int) = some (fin3 (fin2 (fin1 (hS s r i x))))
  | 0, i, x, hi => ⟨1, by rw [mooringref06_Hash.l0, if_neg (by omega)]; rfl⟩
  | r + 1, i, x, hi => by
    obtain ⟨K, hK⟩ := hash_l0 s hs r (i + 1) (hstep s x i) (by omega)
    refine ⟨K + 1, ?_⟩
    rw [mooringref06_Hash.l0, if_pos (by omega), if_pos (by omega), w64 (by omega) (by omega)]
    exact hK
theorem hash_eq (s : ByteArray) (hs : s.size ≤ 1048576) : ∃ K, mooringref06_Hash.f K s = some (hashS s) := hash_l0 s hs s.size 0 _ (by omega)
theorem hstep_range {s : ByteArray} {x : Int} {i : Nat} : 0 ≤ hstep s x i ∧ hstep s x i < 4294967296 := by
  unfold hstep
  omega
theorem fin1_eq {x : Int} (h0 : 0 ≤ x) (h1 : x < 4294967296) : fin1 x = ((Go.bits .xor .u32 x (x / 65536)) * 2146121005) % 4294967296 := by
  unfold fin1
  have h2 : 0 ≤ x / 65536 := Int.ediv_nonneg h0 (by decide)
  have h3 : x / 65536 < 4294967296 := by omega
  rw [Int.tdiv_eq_ediv_of_nonneg h0, Int.emod_eq_of_lt h2 h3]
set_option maxHeartbeats 1600000 in
theorem hash_calls (s : ByteArray) (w : World) (hs : s.size ≤ 1048576) : Calls Try.prog 61 #[.string s] w fun e w' => e = .returned (.int .u32 (hashS s)) ∧ Below w.heap.size w w' := by
  have HB0 := Lib.hid (Below.refl w.heap.size w)
  obtain ⟨H, hH⟩ : ∃ H, H = hS s s.size 0 2166136261 := ⟨_, rfl⟩
  have HH : Hid (hS s (s.size - 0) 0 2166136261 = H ∧ (0 : Int) ≤ 2166136261 ∧ (2166136261 : Int) < 4294967296) := Lib.hid ⟨hH.symm, by decide, by decide⟩
  have HHS : Hid (hashS s = fin3 (fin2 (fin1 H))) := Lib.hid (by rw [hH]; rfl)
  rw [HHS.out]
  clear hH
  go_enter Try.func61, Try.ntmps61
  go_wp2_with fail
  go_loopw [3, 7] (fun x' i' wr => ∃ (i : Nat) (x : Int), x' = .int .u32 x ∧ i' = .int .i64 i ∧ Hid (i ≤ s.size) ∧ Hid (hS s (s.size - i) i x = H ∧ 0 ≤ x ∧ x < 4294967296) ∧ Hid (Below w.heap.size w wr)) (fun _ i' _ => (s.size - intOf i').toNat)
  case atStart => exact ⟨0, _, rfl, rfl, Lib.hid (Nat.zero_le _), HH, HB0⟩
  case round =>
    obtain ⟨i, x, rfl, rfl, HI, HX, HB⟩ := hrel
    have hi := HI.out
    by_cases h : i < s.size
    · have hlt : decide ((i : Int) < (s.size : Int)) = true := decide_eq_true (by omega)
      have hlt2 : decide (i < s.size) = true := decide_eq_true h
      have i0 : (0 : Int) ≤ i := by omega
      have i1 : (i : Int) < s.size := by omega
      have HBT := Lib.hid (bt_by h)
      have HGA := Lib.hid (get_at s i h)
      go_wp2_with fail
      go_roundw
      case rel =>
        refine ⟨i + 1, hstep s x i, ?_, by go_num, Lib.hid (by omega), Lib.hid ⟨by rw [← HX.out.1, show s.size - i = (s.size - (i + 1)) + 1 by omega]; rfl, hstep_range⟩, HB⟩
        unfold hstep
        have hg := HGA.out
        rw [Nat.add_zero] at hg
        rw [HBT.out]
        unfold by_
        rw [hg]
      case measure => simp only [intOf]; omega
    · obtain rfl : i = s.size := by omega
      have hlt : decide ((s.size : Int) < (s.size : Int)) = false := decide_eq_false (by omega)
      have hlt2 : decide (s.size < s.size) = false := decide_eq_false (by omega)
      have HX2 : Hid (x = H) := Lib.hid (by have := HX.out.1; rw [Nat.sub_self] at this; exact this)
      have HF1 := Lib.hid (fin1_eq HX.out.2.1 HX.out.2.2)
      go_wp2_with fail
      go_ret
      refine ⟨?_, HB.out⟩
      rw [← HX2.out, HF1.out]
      rfl
def pgV (s : ByteArray) (pgs : Int) : Int × Int := if checkL (Runes s) = 0 then (if pgs < 1 then (0, 1) else if 32 < pgs then (0, 1) else (Int.tmod (hashS s) pgs, 0)) else (0, checkL (Runes s))
theorem tmod_small {h m : Int} (h0 : 0 < m) (h1 : m ≤ 32) : -32 ≤ Int.tmod h m ∧ Int.tmod h m ≤ 32 := by
  have a := Int.tmod_lt_of_pos h h0
  have b := Int.lt_tmod_of_pos h h0
  omega
set_option maxHeartbeats 4000000 in
theorem Pg_calls (s : ByteArray) (pgs : Int) (w : World) (hs : s.size ≤ 1048576) : Calls Try.prog 31 #[.string s, .int .i64 pgs] w fun e w' => e = .returned (.tuple #[.int .i64 (pgV s pgs).1, .int .i64 (pgV s pgs).2]) ∧ Below w.heap.size w w' := by
  have T := Lib.hid (check_calls s w hs)
  have TH := Lib.hid (fun w => hash_calls s w hs)
  obtain ⟨C, hC⟩ : ∃ C, C = checkL (Runes s) := ⟨_, rfl⟩
  obtain ⟨H, hH⟩ : ∃ H, H = hashS s := ⟨_, rfl⟩
  have HV : Hid (pgV s pgs = if C = 0 then (if pgs < 1 then (0, 1) else if 32 < pgs then (0, 1) else (Int.tmod H pgs, 0)) else (0, C)) := Lib.hid (by rw [hC, hH]; rfl)
  rw [← hC] at T
  rw [← hH] at TH
  clear hC hH
  rw [HV.out]
  by_cases h0 : C = 0
  · subst h0
    rw [if_pos rfl]
    by_cases h1 : pgs < 1
    · have b1 : decide (pgs < 1) = true := decide_eq_true h1
      rw [if_pos h1]
      clear h1
      go_enter Try.func31, Try.ntmps31
      go_wp2_with fail
      refine T.out.mono ?_
      rintro e w1 ⟨rfl, hb⟩
      have HB := Lib.hid hb
      clear hb T
      go_wp2_with fail
      go_ret2
      exact ⟨rfl, HB.out⟩
    · have b1 : decide (pgs < 1) = false := decide_eq_false h1
      rw [if_neg h1]
      by_cases h2 : 32 < pgs
      · have b2 : decide (32 < pgs) = true := decide_eq_true h2
        rw [if_pos h2]
        clear h1 h2
        go_enter Try.func31, Try.ntmps31
        go_wp2_with fail
        refine T.out.mono ?_
        rintro e w1 ⟨rfl, hb⟩
        have HB := Lib.hid hb
        clear hb T
        go_wp2_with fail
        go_ret2
        exact ⟨rfl, HB.out⟩
      · have b2 : decide (32 < pgs) = false := decide_eq_false h2
        rw [if_neg h2]
        have ku : IntKind.u32.wrap pgs = pgs := by rw [IntKind.wrap_u32]; omega
        have hz : (pgs == 0) = false := beq_eq_false_iff_ne.2 (by omega)
        have hz2 : pgs ≠ 0 := by omega
        have ht := tmod_small (h := H) (m := pgs) (by omega) (by omega)
        have kw : IntKind.i64.wrap (Int.tmod H pgs) = Int.tmod H pgs := IntWalk.i64_in _ (by omega)
        clear h1 h2
        go_enter Try.func31, Try.ntmps31
        go_wp2_with fail
        refine T.out.mono ?_
        rintro e w1 ⟨rfl, hb⟩
        have HB := Lib.hid hb
        clear hb T
        go_wp2_with fail
        refine (TH.out _).mono ?_
        rintro e w2 ⟨rfl, hb⟩
        have HB2 := Lib.hid (below_then HB.out HB.out.size hb)
        clear hb TH HB
        go_wp2_with fail
        go_ret2
        exact ⟨rfl, HB2.out⟩
  · have hb0 : (C != 0) = true := bne_iff_ne.2 h0
    rw [if_neg h0]
    clear h0
    go_enter Try.func31, Try.ntmps31
    go_wp2_with fail
    refine T.out.mono ?_
    rintro e w1 ⟨rfl, hb⟩
    have HB := Lib.hid hb
    clear hb T
    go_wp2_with fail
    go_ret2
    exact ⟨rfl, HB.out⟩
theorem ref_eq (s : ByteArray) (pgs : Int) (hs : s.size ≤ 1048576) : ∃ K, mooringref17_Pg.f K s pgs = some (pgV s pgs) := by
  obtain ⟨K1, h1⟩ := check_eq hs
  obtain ⟨K2, h2⟩ := hash_eq s hs
  have e1 := at_rounds (g := fun k => mooringref06_Check.f k s) (fun k => mooringref06_Check.mono s k) (k' := K1 + K2) (by omega) h1
  have e2 := at_rounds (g := fun k => mooringref06_Hash.f k s) (fun k => mooringref06_Hash.mono s k) (k' := K1 + K2) (by omega) h2
  refine ⟨K1 + K2, ?_⟩
  unfold mooringref17_Pg.f pgV
  rw [show mooringref06_Check.f (K1 + K2) s = _ from e1, show mooringref06_Hash.f (K1 + K2) s = _ from e2, Option.bind_some, Option.bind_some]
  by_cases h0 : checkL (Runes s) = 0
  · rw [if_pos h0, if_pos h0]
    by_cases h1 : pgs < 1
    · rw [if_pos h1, if_pos h1]
    · rw [if_neg h1, if_neg h1]
      by_cases h2 : 32 < pgs
      · rw [if_pos (by omega), if_pos h2]
      · have hm : pgs % 4294967296 = pgs := by omega
        have ht := tmod_small (h := hashS s) (m := pgs) (by omega) (by omega)
        rw [if_neg (by omega), if_neg h2, hm, if_neg (by omega), w64 (by omega) (by omega)]
  · rw [if_neg h0, if_neg h0]
set_option maxHeartbeats 4000000 in
theorem law_calls (s : ByteArray) (pgs : Int) (w : World) (hs : s.size ≤ 1048576) : Calls Try.prog 9 #[.string s, .int .i64 pgs] w fun e w' => e = .returned (.bool true) ∧ Below w.heap.size w w' := by
  have T := Lib.hid (Pg_calls s pgs w hs)
  obtain ⟨K, hK⟩ := ref_eq s pgs hs
  obtain ⟨V, hV⟩ : ∃ V, V = pgV s pgs := ⟨_, rfl⟩
  rw [← hV] at T hK
  clear hV
  obtain ⟨a, b⟩ := V
  have TR := Lib.hid (fun w => mooringref17_Pg.calls K s pgs a b w hK)
  clear hK
  go_enter Try.func9, Try.ntmps9
  go_wp2_with fail
  refine T.out.mono ?_
  rintro e w1 ⟨rfl, hb⟩
  have HB := Lib.hid hb
  clear hb T
  go_wp2_with fail
  refine (TR.out _).mono ?_
  rintro e w2 ⟨rfl, hb⟩
  have HB2 := Lib.hid (below_then HB.out HB.out.size hb)
  clear hb TR HB
  go_wp2_with fail
  refine (awake18_calls _).mono ?_
  rintro e w3 ⟨rfl, hb⟩
  have HB3 := Lib.hid (below_then HB2.out HB2.out.size hb)
  clear hb HB2
  go_wp2_with fail
  go_ret
  exact ⟨rfl, HB3.out⟩
theorem walkPgs (a0 : ByteArray) (a1 : Int) (w : World) (_ : a0.size ≤ reachBytes) (b0 : a0.size + 1 ≤ 1048576) (_ : (Lit.int .i64 a1).wf = true) :
    Calls Try.prog 9 #[.string a0, .int .i64 a1] w fun e w' => e = .returned (.bool true) ∧ Below w.heap.size w w' := law_calls a0 a1 w (by omega)
end Go.Proofs.Ytnpphmgibgfjoaa.PgY
namespace Go.Proofs.Ytnpphmgibgfjoaa.placePgsUpto
open Go.ChangeShapes Go.WideShapes Go.ChangeAt Go.RowKit Go.Proofs.Ytnpphmgibgfjoaa.Opns
open Go.ChangeMaps (open_string shut_string)
set_option linter.unusedVariables false
theorem own : ownKnob Try.prog.godebug = none := by kernel_rfl
set_option maxRecDepth 100000 in
theorem lifted (os : Os) (started : os.Started) (H : Type) (enc : TypeId × Value → H) (F : Stop.Interp) :
    ReturnsInHanded {} Try.checked os 9 .any ((Rows.OpenSpec.upto Rows.placePgsSpec).pre6 enc Try.prog Try.f9 Rows.placePgsUptoRow.domain false) (((Rows.OpenSpec.upto Rows.placePgsSpec).at F).post enc Try.prog Try.f9 false true false false) := by
  refine returnsInHanded_of_cond_sized (C := Try.checked) (s := Rows.OpenSpec.upto Rows.placePgsSpec) (k := Rows.uptoSmall) rfl own started (by kernel_rfl) Try.func9
    (OpenSpec.witness (enc := enc) (C := Try.checked) (s := Rows.OpenSpec.upto Rows.placePgsSpec) (k := Rows.uptoSmall) rfl false ⟨#[], #[.string ByteArray.empty, .int .i64 0], []⟩ 8 (by kernel_rfl) (by kernel_rfl) (by kernel_rfl)
      (x := ([.lit (.string []), .lit (.int .i64 0)], [], [])) (by kernel_rfl) rfl (by kernel_rfl)) ?_
  intro W base args ds gs before hval0 hW hcnd hk0 hsz0 _
  have hsz : (DataW.weightsEach Try.prog (Try.f9.params.toList ++ Rows.placePgsSpec.plain.varTypes Try.prog) (ds ++ gs)).all (· ≤ reachBytes) = true := hsz0
  have hval : ∀ (j : Nat) t v, Try.f9.params[j]? = some t → args[j]? = some v → Value.okWide Try.prog W .any base t v := hval0
  have hW' := hW
  obtain ⟨p, q, hA0, hV, rfl, hfz, hnd⟩ := hW
  have hA : DataW.TrodAll enc Try.prog W 0 (fun _ => true) true Try.f9.params.toList args.toList ds p := hA0
  rw [Try.params9] at hA hval hsz
  obtain ⟨v0, vs0, d0, ds0, p0, q0, hargs, rfl, rfl, h0, r0⟩ := trodAll_cons hA
  obtain ⟨v1, vs1, d1, ds1, p1, q1, rfl, rfl, rfl, h1, r1⟩ := trodAll_cons r0
  obtain ⟨rfl, rfl, rfl⟩ := trodAll_nil r1
  obtain rfl : args = #[v0, v1] := by cases args; simp_all
  obtain ⟨rfl, rfl⟩ := trodVars_none hV
  have m0 := weigh (j := 0) (t := 9) hsz rfl rfl
  have n0 := bulk_mem (j := 0) hk0 rfl
  obtain ⟨a0, rfl, rfl, rfl, z0⟩ := open_string Try.underlying9 (hval 0 9 v0 rfl rfl) h0
  have y0 : a0.size ≤ reachBytes := by
    have := m0 a0.data.toList.length (by simp [DataW.weights])
    rwa [Array.length_toList] at this
  have b0 : a0.size + 1 ≤ 1048576 := by
    have := n0
    simp only [Rows.uptoBulk, Array.length_toList] at this
    exact this
  obtain ⟨a1, rfl, rfl, rfl, w1⟩ := open_int Try.underlying3 (hval 1 3 v1 rfl rfl) h1
  clear hA0 hval0 hsz0 hsz
  refine (PgY.walkPgs a0 a1 W y0 b0 w1).mono fun e W' ⟨he, bel⟩ => ?_
  subst he
  exact ⟨_, rfl, _, _, _, [], _, [], hW', trodAll_mk1 (shut_bool Try.underlying4 _), (trodAll_cons_mk (shut_string Try.underlying9 z0) (trodAll_cons_mk (shut_int Try.underlying3 w1) trodAll_mk0)), rfl, bel.frame _, fun h => by cases h⟩
theorem over : Rows.placePgsUptoRow.holds Try.pinned (Rows.OpenSpec.upto Rows.placePgsSpec) :=
  OpenClaim.holds_of_cond 9 Try.f9 rfl rfl rfl rfl rfl rfl rfl ⟨rfl, rfl, rfl, rfl, rfl⟩ rfl rfl rfl rfl rfl (by kernel_rfl) Try.func9 (by kernel_rfl)
    (of_decide_eq_true (by kernel_rfl)) (by unfold Func.isWrapper; first | (rw [if_pos (by decide +kernel)]; kernel_rfl) | (rw [if_neg (by decide +kernel)]; exact ⟨rfl, rfl⟩))
    (fun os started H enc _ F => lifted os started H enc F)
theorem proved : Rows.PlacePgsUptoSaid := over
#print axioms proved
end Go.Proofs.Ytnpphmgibgfjoaa.placePgsUpto
