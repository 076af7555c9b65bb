import Derived.Test.YtnpphmgibgfjoaaUpsP
/- CrushUps: the walk. -/
namespace Go.Proofs.Ytnpphmgibgfjoaa.Ups
open Go Go.RowKit Go.Proofs.YtnpphmgibgfjoaaW.PrintWords Go.Proofs.YtnpphmgibgfjoaaW.PrintMore Mem PAll KW MixP MixW StrP StrW AtA Srt Grp Sl Dsc AtB Roo Rep Cho MayP Awk UpsP
open CrP hiding Od
theorem row_cells {w : World} {base g n cap i : Nat} {ok : Nat → Prop} {xs : List Od} {o : Od} (h : kO.R 40 w base ok (.slice (some ⟨g, 0, none⟩) n cap) xs) (ho : xs[i]? = some o) :
    ∀ (jj : Nat) u, [Value.int .i64 o.f0, .bool o.f1, .bool o.f2, .int .i64 o.f3, .int .i64 o.f4, .int .i64 o.f5, .int .i64 o.f6, .int .i64 o.f7][jj]? = some u → w.cell? ⟨g, (i : Int).toNat * kO.sz + jj, none⟩ = some u := by
  have hi := (List.getElem?_eq_some_iff.1 ho).1
  have hn := (Kd.R_reads' h).1
  obtain ⟨ad2, o2, ho2, hA2, b0, b1, b2, b3, b4, b5, b6, b7⟩ := at_O (Kd.R_reads' h).2.2 i (by omega)
  injection hA2 with hA2
  subst hA2
  obtain rfl : o = o2 := Option.some.inj (ho.symm.trans ho2)
  rw [add_plain] at b0 b1 b2 b3 b4 b5 b6 b7
  intro jj u hu
  rw [show (i : Int).toNat * kO.sz + jj = i * 8 + jj from rfl]
  match jj, hu with
  | 0, hu => obtain rfl := Option.some.inj hu; exact b0
  | 1, hu => obtain rfl := Option.some.inj hu; exact b1
  | 2, hu => obtain rfl := Option.some.inj hu; exact b2
  | 3, hu => obtain rfl := Option.some.inj hu; exact b3
  | 4, hu => obtain rfl := Option.some.inj hu; exact b4
  | 5, hu => obtain rfl := Option.some.inj hu; exact b5
  | 6, hu => obtain rfl := Option.some.inj hu; exact b6
  | 7, hu => obtain rfl := Option.some.inj hu; exact b7
  | jj + 8, hu => cases hu
theorem ints_calls (g g' n : Nat) (ps : List Int) (w : World) (h : w.heap[g]? = some (.cells (outA n ps) 3 (0, 0))) (h' : w.heap[g']? = some (.cells (outA n ps) 3 (0, 0))) (hn : ps.length = n) (hs : n ≤ 64) :
    Calls Try.prog 17 #[.slice (some ⟨g, 0, none⟩) n n, .slice (some ⟨g', 0, none⟩) n n] w fun e w' => e = .returned (.bool true) ∧ Below w.heap.size w w' := by
  obtain ⟨K, hK⟩ := ints_self ps (by omega)
  have c1 := ints_C h hn hs
  have c2 := ints_C h' hn hs
  subst hn
  refine (mooringref17_Ints.calls K (some ⟨g, 0, none⟩) ps.length ps (some ⟨g', 0, none⟩) ps.length ps true w c1 (Nat.le_refl _) c2 (Nat.le_refl _) hK).mono ?_
  rintro e w1 ⟨rfl, hd⟩
  exact ⟨rfl, hd.below⟩
theorem ints_nil (w : World) : Calls Try.prog 17 #[.slice none 0 0, .slice none 0 0] w fun e w' => e = .returned (.bool true) ∧ Below w.heap.size w w' := by
  obtain ⟨K, hK⟩ := ints_self [] (by decide)
  have c : Kd.C (Kd.int .i64) w none ([] : List Int).length [] := ⟨rfl, by decide, fun h => absurd h (Nat.lt_irrefl _)⟩
  refine (mooringref17_Ints.calls K none 0 [] none 0 [] true w c (Nat.le_refl _) c (Nat.le_refl _) hK).mono ?_
  rintro e w1 ⟨rfl, hd⟩
  exact ⟨rfl, hd.below⟩
set_option maxHeartbeats 8000000 in
set_option maxRecDepth 100000 in
theorem ups_calls (ep k m p d : Int) (A : Option Addr) (c : Nat) (l : List Od) (dm want x : Int) (w : World) (hx : kO.C w A l.length l) (hcap : l.length ≤ c) (hwf : WfL l) :
    Calls Try.prog 5 #[.agg (boxM ep k m p d A c l), .agg #[.int .i64 dm, .int .i64 want], .int .u32 x] w fun e w' => e = .returned (.bool true) ∧ Below w.heap.size w w' := by
  have HX := Lib.hid hx
  have HWF := Lib.hid hwf
  have hml : l.length ≤ 9223372036854775807 := hx.2.1
  have HBA := Lib.hid (below_alloc (below_alloc (Below.refl w.heap.size w) (.cells (boxM ep k m p d A c l) 26)) (.cells #[.int .i64 dm, .int .i64 want] 28))
  have HM1 : Hid (((w.alloc (.cells (boxM ep k m p d A c l) 26)).alloc (.cells #[.int .i64 dm, .int .i64 want] 28)).heap[w.heap.size]? = some (.cells (boxM ep k m p d A c l) 26 (0, 0))) := Lib.hid (blk_below (blk_new _ _) (below_alloc (Below.refl _ _) _))
  have HU1 : Hid (((w.alloc (.cells (boxM ep k m p d A c l) 26)).alloc (.cells #[.int .i64 dm, .int .i64 want] 28)).heap[w.heap.size + 1]? = some (.cells #[.int .i64 dm, .int .i64 want] 28 (0, 0))) := Lib.hid (by have h := blk_new (w.alloc (.cells (boxM ep k m p d A c l) 26)) (.cells #[.int .i64 dm, .int .i64 want] 28); simp only [World.alloc, Array.size_push] at h ⊢; exact h)
  have T := Lib.hid (may_calls ep k m p d A c l _ (Kd.C_below hx HBA.out) hcap)
  have TL := Lib.hid (fun w1 h => light_calls ep k m p d A c l dm want w1 h)
  have TC := Lib.hid (fun w1 h => Choose_calls ep k m p d A c l dm want x w1 h hwf)
  have HMB : Hid (mayB ep k m p d l = true → l.length ≤ 64) := Lib.hid (fun h => (may_good h).1)
  have HDN : Hid (mayB ep k m p d l = true → ∀ xs, Downs l xs l.length → mayB 7 k m p d xs = true) := Lib.hid (fun h xs hd => hd.may h)
  obtain ⟨mb, hmb⟩ : ∃ mb, mb = mayB ep k m p d l := ⟨_, rfl⟩
  rw [← hmb] at T TC HMB HDN
  have HSZ : Hid (w.heap.size + 2 ≤ ((w.alloc (.cells (boxM ep k m p d A c l) 26)).alloc (.cells #[.int .i64 dm, .int .i64 want] 28)).heap.size) := Lib.hid (by simp only [World.alloc, Array.size_push]; omega)
  clear hx hcap hwf hmb
  unfold boxM at *
  cases mb with
  | false =>
    go_enter Try.func5, Try.ntmps5
    go_wp2_with fail
    refine T.out.mono ?_
    rintro e w2 ⟨rfl, hb⟩
    have HB2 := Lib.hid (below_then HBA.out HBA.out.size hb)
    clear hb
    go_wp2_with fail
    refine (awake_calls _).mono ?_
    rintro e w3 ⟨rfl, hb⟩
    have HB3 := Lib.hid (below_then HB2.out HB2.out.size hb)
    clear hb
    go_wp2_with fail
    go_ret
    exact ⟨rfl, HB3.out⟩
  | true =>
    have HLN := Lib.hid (HMB.out rfl)
    have HDN2 := Lib.hid (HDN.out rfl)
    obtain ⟨lb, hlb⟩ : ∃ lb, lb = (decide (l.length ≤ 24) && decide (want ≤ 12)) := ⟨_, rfl⟩
    rw [← hlb] at TL
    clear hlb
    go_enter Try.func5, Try.ntmps5
    go_wp2_with fail
    refine T.out.mono ?_
    rintro e w2 ⟨rfl, hb⟩
    have HB2 := Lib.hid (below_then HBA.out HBA.out.size hb)
    have HM2 := Lib.hid (blk_below HM1.out hb)
    have HU2 := Lib.hid (blk_below HU1.out hb)
    have HS2 : Hid (w.heap.size + 2 ≤ w2.heap.size) := Lib.hid (Nat.le_trans HSZ.out hb.size)
    clear hb T HM1 HU1 HBA HSZ HMB HDN
    have m0 := blk_cell HM2.out 0
    have m1 := blk_cell HM2.out 1
    have m2 := blk_cell HM2.out 2
    have m3 := blk_cell HM2.out 3
    have m4 := blk_cell HM2.out 4
    have m5 := blk_cell HM2.out 5
    have u0 := blk_cell HU2.out 0
    have u1 := blk_cell HU2.out 1
    go_wp2_with fail
    refine (TL.out _ (Kd.C_below HX.out HB2.out)).mono ?_
    rintro e w3 ⟨rfl, hb⟩
    have HB3 := Lib.hid (below_then HB2.out HB2.out.size hb)
    have HM3 := Lib.hid (blk_below HM2.out hb)
    have HU3 := Lib.hid (blk_below HU2.out hb)
    have HS3 : Hid (w.heap.size + 2 ≤ w3.heap.size) := Lib.hid (Nat.le_trans HS2.out hb.size)
    clear hb TL HM2 HU2 HB2 HS2 m0 m1 m2 m3 m4 m5 u0 u1
    cases lb with
    | false =>
      go_wp2_with fail
      refine (awake_calls _).mono ?_
      rintro e w4 ⟨rfl, hb⟩
      have HB4 := Lib.hid (below_then HB3.out HB3.out.size hb)
      clear hb
      go_wp2_with fail
      go_ret
      exact ⟨rfl, HB4.out⟩
    | true =>
      have m0 := blk_cell HM3.out 0
      have m1 := blk_cell HM3.out 1
      have m2 := blk_cell HM3.out 2
      have m3 := blk_cell HM3.out 3
      have m4 := blk_cell HM3.out 4
      have m5 := blk_cell HM3.out 5
      have HBN := Lib.hid (below_alloc (Below.refl w3.heap.size w3) (.cells #[.int .i64 7, .int .i64 k, .int .i64 m, .int .i64 p, .int .i64 d, .slice A l.length c] 26))
      have HN1 : Hid ((w3.alloc (.cells #[.int .i64 7, .int .i64 k, .int .i64 m, .int .i64 p, .int .i64 d, .slice A l.length c] 26)).heap[w3.heap.size]? = some (.cells #[.int .i64 7, .int .i64 k, .int .i64 m, .int .i64 p, .int .i64 d, .slice A l.length c] 26 (0, 0))) := Lib.hid (blk_new _ _)
      have HSN : Hid ((w3.alloc (.cells #[.int .i64 7, .int .i64 k, .int .i64 m, .int .i64 p, .int .i64 d, .slice A l.length c] 26)).heap.size = w3.heap.size + 1) := Lib.hid (by simp only [World.alloc, Array.size_push])
      have e1 := HSN.out
      obtain ⟨wn, hwn⟩ : ∃ wn, wn = w3.alloc (.cells #[.int .i64 7, .int .i64 k, .int .i64 m, .int .i64 p, .int .i64 d, .slice A l.length c] 26) := ⟨_, rfl⟩
      rw [← hwn] at HBN HN1 HSN e1
      have HBE := Lib.hid (below_alloc (Below.refl wn.heap.size wn) (.cells #[] 40))
      have HMN := Lib.hid (blk_below HM3.out HBN.out)
      have HUN := Lib.hid (blk_below HU3.out HBN.out)
      have HBW := Lib.hid (below_then HB3.out HB3.out.size HBN.out)
      have HOE : Hid (kO.R 40 (wn.alloc (.cells #[] 40)) wn.heap.size (fun q => q ≠ w3.heap.size) (.slice (some ⟨wn.heap.size, 0, none⟩) 0 0) []) := Lib.hid ⟨fun q hq => by have e : wn.heap.size = q := Option.some.inj hq; omega, OwnRow.lit wn wn.heap.size (ps := []) (inner := []) (Reps.none _ _) (Nat.le_refl _) (Nat.zero_le _)⟩
      have HCE := Lib.hid (Kd.C_below HX.out (below_then HBW.out HBW.out.size HBE.out))
      have n5 := blk_cell (blk_below HMN.out HBE.out) 5
      clear m0 m1 m2 m3 m4 m5
      have m0 := blk_cell HM3.out 0
      have m1 := blk_cell HM3.out 1
      have m2 := blk_cell HM3.out 2
      have m3 := blk_cell HM3.out 3
      have m4 := blk_cell HM3.out 4
      have m5 := blk_cell HM3.out 5
      rw [hwn] at n5
      rw [show wn.alloc (.cells #[] 40) = (w3.alloc (.cells #[.int .i64 7, .int .i64 k, .int .i64 m, .int .i64 p, .int .i64 d, .slice A l.length c] 26)).alloc (.cells #[] 40) by rw [hwn]] at HOE HCE HBE
      rw [e1] at HOE HBE
      have HWN := Lib.hid hwn
      have HCN := Lib.hid e1
      clear hwn e1
      go_wp2_with (first | (at_builtin; go_must (refine Kd.R_append_rows kO (w0 := wn) (w3.heap.size + 1) rfl _ _ 24 40 (.agg #[.int .i64 0, .bool false, .bool false, .int .i64 0, .int .i64 0, .int .i64 0, .int .i64 0, .int .i64 0]) 56 rfl Try.underlying24 infoO rfl (by decide) (by decide) _ [] l A l.length c (fun q => q ≠ w3.heap.size) (fun _ => False) rfl rfl HOE.out HCE.out (fun y cs hk => by rw [k40_open hk]; exact k40_mkM _ _ _ y) (fun _ hk => hk.elim) ?hf HBE.out ?hsz ?hl ?_; (case hf => intro q hq; simp only [World.alloc, Array.size_push] at hq; omega); (case hsz => simp only [World.alloc, Array.size_push]; omega); (case hl => have := HLN.out; simp only [List.length_nil]; omega); intro v5 w5 ho hb hg hg2; rw [List.nil_append] at ho; have HO5 := Lib.hid ho; have hb2 : Below wn.heap.size wn w5 := (by rw [HCN.out]; exact hb); obtain ⟨VA, vc, hv5⟩ := Kd.R_slice ho; subst hv5; have HB5 := Lib.hid (below_then HBW.out HBW.out.size hb2); have HN5 := Lib.hid (blk_below HN1.out hb2); have HM5 := Lib.hid (blk_below HMN.out hb2); have HU5 := Lib.hid (blk_below HUN.out hb2); have nn5 := blk_cell HN5.out 5; have nf5 := blk_frozen HN5.out 5; clear ho hb hb2 hg hg2 HOE HBE HCE n5)))
      have HN6 := Lib.hid (blk_put HN5.out 5 (.slice VA l.length vc) (cs' := #[.int .i64 7, .int .i64 k, .int .i64 m, .int .i64 p, .int .i64 d, .slice VA l.length vc]) rfl)
      have HS := HS3.out
      have HM6 := Lib.hid (blk_far HM5.out (p := ⟨w3.heap.size, 5, none⟩) (by show w.heap.size ≠ w3.heap.size; omega) (.slice VA l.length vc))
      have HU6 := Lib.hid (blk_far HU5.out (p := ⟨w3.heap.size, 5, none⟩) (by show w.heap.size + 1 ≠ w3.heap.size; omega) (.slice VA l.length vc))
      have HB6 := Lib.hid (HB5.out.setCell (p := ⟨w3.heap.size, 5, none⟩) (show w.heap.size ≤ w3.heap.size by omega) (.slice VA l.length vc))
      have HO6 := Lib.hid (Kd.R_far HO5.out (p := ⟨w3.heap.size, 5, none⟩) (fun q hq => hq) (.slice VA l.length vc))
      obtain ⟨w6, hw6⟩ : ∃ w6, w6 = w5.setCell ⟨w3.heap.size, 5, none⟩ (.slice VA l.length vc) := ⟨_, rfl⟩
      rw [← hw6] at HN6 HM6 HU6 HB6 HO6 ⊢
      clear hw6 HN5 HM5 HU5 HB5 HO5 nn5 nf5 m0 m1 m2 m3 m4 m5 HWN HCN HBN HN1 HSN HMN HUN HBW
      go_wp2_with fail
      go_loopw [8] (fun i' wr => ∃ (i : Nat) (xs : List Od), i' = .int .i64 i ∧ Hid (i ≤ l.length) ∧ Hid (Downs l xs i) ∧ Hid (kO.R 40 wr (w3.heap.size + 1) (fun q => q ≠ w3.heap.size) (.slice VA l.length vc) xs) ∧ Hid (wr.heap[w3.heap.size]? = some (.cells #[.int .i64 7, .int .i64 k, .int .i64 m, .int .i64 p, .int .i64 d, .slice VA l.length vc] 26 (0, 0))) ∧ Hid (wr.heap[w.heap.size]? = some (.cells #[.int .i64 ep, .int .i64 k, .int .i64 m, .int .i64 p, .int .i64 d, .slice A l.length c] 26 (0, 0))) ∧ Hid (wr.heap[w.heap.size + 1]? = some (.cells #[.int .i64 dm, .int .i64 want] 28 (0, 0))) ∧ Hid (Below w.heap.size w wr)) (fun i' _ => (l.length - intOf i').toNat)
      case atStart => exact ⟨0, l, rfl, Lib.hid (Nat.zero_le _), Lib.hid (Downs.start l), HO6, HN6, HM6, HU6, HB6⟩
      case round =>
        obtain ⟨i, xs, rfl, HI, HD, HO, HN, HM, HU, HB⟩ := hrel
        clear HO6 HN6 HM6 HU6 HB6
        have hi := HI.out
        have n5 := blk_cell HN.out 5
        have hxl := HD.out.len
        by_cases h : i < l.length
        · have hlt : decide (i < l.length) = true := decide_eq_true h
          have i0 : (0 : Int) ≤ i := by omega
          have i1 : (i : Int) < l.length := by omega
          obtain ⟨g, cap, hv, hbg, _, _⟩ := Kd.R_form HO.out (by omega)
          injection hv with hA hlen hcp
          subst hA
          obtain ⟨c', hc'⟩ : ∃ c', c' = vc := ⟨_, rfl⟩
          subst hcp
          rw [← hc'] at HO HN n5 ⊢
          clear hc'
          have HBG : Hid (w3.heap.size + 1 ≤ g) := Lib.hid hbg
          obtain ⟨o, hoe⟩ : ∃ o, xs[i]? = some o := ⟨xs[i]'(by omega), List.getElem?_eq_getElem _⟩
          have HXO := Lib.hid hoe
          have HQ : Hid (l[i]? = some o) := Lib.hid (by
            have e := HD.out.at_ i _ (List.getElem?_eq_getElem h)
            rw [if_neg (Nat.lt_irrefl _)] at e
            rw [List.getElem?_eq_getElem h, ← Option.some.inj (hoe.symm.trans e)])
          have HCE := Lib.hid (row_cells HO.out hoe)
          have HSET : Hid ((xs.set i { o with f1 := false })[i]? = some { o with f1 := false }) := Lib.hid (List.getElem?_set_self (by omega))
          have HST : Hid ((xs.set i { o with f1 := false }).set i (off i o) = xs.set i (off i o)) := Lib.hid (List.set_set ..)
          clear hoe h hbg hlen hxl
          go_wp2_with (first | ((with_reducible refine gate_store (t := 4) (p := 41) (v := .const (.bool false)) rfl ?_); go_must (refine Kd.R_store kO (w0 := wr) (w3.heap.size + 1) rfl rfl 4 _ _ rfl 40 (i : Int) 1 xs { o with f1 := false } (.bool false) [.bool false] [.int .i64 o.f0, .bool o.f1, .bool o.f2, .int .i64 o.f3, .int .i64 o.f4, .int .i64 o.f5, .int .i64 o.f6, .int .i64 o.f7] (fun q => q ≠ w3.heap.size) (fun _ => False) rfl rfl rfl rfl (by kernel_rfl) (by simp [Value.oneCell']) HO.out i0 i1 rfl HCE.out (by decide) (k40_mkM _ _ _ { o with f1 := false }) (fun _ hk => hk.elim) (Below.refl _ _) ?_; intro w7 ho hb hg; have HO7 := Lib.hid (show kO.R 40 w7 (w3.heap.size + 1) (fun q => q ≠ w3.heap.size) (.slice (some ⟨g, 0, none⟩) l.length c') (xs.set i { o with f1 := false }) from ho); have HC7 := Lib.hid (row_cells HO7.out HSET.out); have HN7 := Lib.hid (blk_grown HN.out hg (by intro e; injection e with e; have := HBG.out; omega)); have HM7 := Lib.hid (blk_grown HM.out hg (by intro e; injection e with e; have := HBG.out; have := HS3.out; omega)); have HU7 := Lib.hid (blk_grown HU.out hg (by intro e; injection e with e; have := HBG.out; have := HS3.out; omega)); have HB7 := Lib.hid (HB.out.grown hg HB.out.size (fun q hq => by injection hq with hq; have := HBG.out; have := HS3.out; omega)); have n57 := blk_cell HN7.out 5; clear ho hb hg HO HCE HN HM HU HB n5)) | ((with_reducible refine gate_store (t := 3) (p := 47) (v := .tmp 45) rfl ?_); go_must (refine Kd.R_store kO (w0 := w7) (w3.heap.size + 1) rfl rfl 3 _ _ rfl 40 (i : Int) 4 (xs.set i { o with f1 := false }) (off i o) (.int .i64 i) [.int .i64 i] [.int .i64 o.f0, .bool false, .bool o.f2, .int .i64 o.f3, .int .i64 o.f4, .int .i64 o.f5, .int .i64 o.f6, .int .i64 o.f7] (fun q => q ≠ w3.heap.size) (fun _ => False) rfl rfl rfl rfl (by kernel_rfl) (by simp [Value.oneCell']) HO7.out i0 i1 rfl HC7.out (by show 4 + 1 ≤ 8; decide) (k40_mkM _ _ _ (off i o)) (fun _ hk => hk.elim) (Below.refl _ _) ?_; intro w8 ho hb hg; have HO8 := Lib.hid (show kO.R 40 w8 (w3.heap.size + 1) (fun q => q ≠ w3.heap.size) (.slice (some ⟨g, 0, none⟩) l.length c') (xs.set i (off i o)) from (by rw [← HST.out]; exact ho)); have HN8 := Lib.hid (blk_grown HN7.out hg (by intro e; injection e with e; have := HBG.out; omega)); have HM8 := Lib.hid (blk_grown HM7.out hg (by intro e; injection e with e; have := HBG.out; have := HS3.out; omega)); have HU8 := Lib.hid (blk_grown HU7.out hg (by intro e; injection e with e; have := HBG.out; have := HS3.out; omega)); have HB8 := Lib.hid (HB7.out.grown hg HB7.out.size (fun q hq => by injection hq with hq; have := HBG.out; have := HS3.out; omega)); clear ho hb hg HO7 HC7 HN7 HM7 HU7 HB7 n57)))
          go_roundw
          case rel => exact ⟨i + 1, _, by go_num, Lib.hid (by omega), Lib.hid (HD.out.more HQ.out), HO8, HN8, HM8, HU8, HB8⟩
          case measure => simp only [intOf]; omega
        · obtain rfl : i = l.length := by omega
          have hlt : decide (l.length < l.length) = false := decide_eq_false (by omega)
          have m0 := blk_cell HM.out 0
          have m1 := blk_cell HM.out 1
          have m2 := blk_cell HM.out 2
          have m3 := blk_cell HM.out 3
          have m4 := blk_cell HM.out 4
          have m5 := blk_cell HM.out 5
          have u0 := blk_cell HU.out 0
          have u1 := blk_cell HU.out 1
          clear hxl
          go_wp2_with fail
          refine (TC.out _ (Kd.C_below HX.out HB.out)).mono ?_
          rintro e w8 ⟨hres, hb⟩
          have HN8 := Lib.hid (blk_below HN.out hb)
          have HU8 := Lib.hid (blk_below HU.out hb)
          have HB8 := Lib.hid (below_then HB.out HB.out.size hb)
          have hlen := HD.out.len
          have TC2 := Choose_calls 7 k m p d VA vc xs dm want x w8 (Kd.C_below (Kd.R_reads' HO.out).2.2 hb) (HD.out.wf HWF.out)
          rw [HDN2.out xs HD.out] at TC2
          unfold boxM at TC2
          rw [hlen] at TC2
          have T2 := Lib.hid TC2
          have HRES := Lib.hid hres
          clear hres hb hlen TC2 m0 m1 m2 m3 m4 m5 u0 u1 n5 HN HM HU HB TC
          have n0 := blk_cell HN8.out 0
          have n1 := blk_cell HN8.out 1
          have n2 := blk_cell HN8.out 2
          have n3 := blk_cell HN8.out 3
          have n4 := blk_cell HN8.out 4
          have n5 := blk_cell HN8.out 5
          have u0 := blk_cell HU8.out 0
          have u1 := blk_cell HU8.out 1
          rcases HRES.out with ⟨hc, n, g1, hwn, hn1, hn2, hg1, rfl, hh1⟩ | ⟨hc, rfl⟩
          · have HC := Lib.hid hc
            have HWN := Lib.hid hwn
            have HN1 := Lib.hid hn1
            have HN2 := Lib.hid hn2
            have HH1 := Lib.hid hh1
            clear HRES hc hwn hn1 hn2 hg1 hh1
            go_wp2_with fail
            refine T2.out.mono ?_
            rintro e w9 ⟨hres, hb⟩
            have HB9 := Lib.hid (below_then HB8.out HB8.out.size hb)
            have HH19 := Lib.hid (blk_below HH1.out hb)
            rcases hres with ⟨_, n', g2, hnn, _, _, _, rfl, hh2⟩ | ⟨hc2, _⟩
            · obtain rfl : n = n' := by have := HWN.out; omega
              rw [HD.out.places] at hh2
              have HH2 := Lib.hid hh2
              clear hnn hh2 hb n0 n1 n2 n3 n4 n5 u0 u1 HH1 HB8
              go_wp2_with fail
              refine (ints_calls g1 g2 n _ _ HH19.out HH2.out (places_len _ _ _ _ _ _ _) (by have := HN2.out; omega)).mono ?_
              rintro e w10 ⟨rfl, hb⟩
              have HB10 := Lib.hid (below_then HB9.out HB9.out.size hb)
              clear hb
              go_wp2_with fail
              refine (awake_calls _).mono ?_
              rintro e w11 ⟨rfl, hb⟩
              have HB11 := Lib.hid (below_then HB10.out HB10.out.size hb)
              clear hb
              go_wp2_with fail
              go_ret
              exact ⟨rfl, HB11.out⟩
            · rw [HC.out] at hc2; cases hc2
          · have HC := Lib.hid hc
            clear HRES hc
            go_wp2_with fail
            refine T2.out.mono ?_
            rintro e w9 ⟨hres, hb⟩
            have HB9 := Lib.hid (below_then HB8.out HB8.out.size hb)
            rcases hres with ⟨hc2, _⟩ | ⟨_, rfl⟩
            · rw [HC.out] at hc2; cases hc2
            · clear hb n0 n1 n2 n3 n4 n5 u0 u1 HB8
              go_wp2_with fail
              refine (ints_nil _).mono ?_
              rintro e w10 ⟨rfl, hb⟩
              have HB10 := Lib.hid (below_then HB9.out HB9.out.size hb)
              clear hb
              go_wp2_with fail
              refine (awake_calls _).mono ?_
              rintro e w11 ⟨rfl, hb⟩
              have HB11 := Lib.hid (below_then HB10.out HB10.out.size hb)
              clear hb
              go_wp2_with fail
              go_ret
              exact ⟨rfl, HB11.out⟩
end Go.Proofs.Ytnpphmgibgfjoaa.Ups
