import Derived.Test.YtkppgljndnljhaaStrN
import Derived.Maps.OwnOps
import Derived.Maps.OwnSet
import Derived.Maps.Views
/- The order does not matter. -/
namespace Go.Proofs.Ytkppgljndnljhaa.StrO
open Go.RowKit Go.Proofs.YtkppgljndnljhaaW.PrintWords KW MixP MixW StrP StrW StrM
open Go.Maps (Keyed int_keyed keyOf_int_mk)
theorem zeroB (w : World) : (zeroValue 4).run Try.prog w = .ok (.bool false) w := by kernel_rfl
theorem keyI : Keyed Try.prog 3 := int_keyed Try.underlying3
theorem plainElem_bool_inv {H : Type} {P : Program} {e : TypeId} (he : P.underlying e = some .bool) {v : Value} {z : DataW H × List MemPlace} (h : plainElem P e v = some z) : ∃ b, v = .bool b ∧ z = (.lit (.bool b), []) := by
  unfold plainElem at h
  rw [he] at h
  cases v <;> simp at h
  exact ⟨_, rfl, h.symm⟩
abbrev DW := DataW Unit
abbrev OM (w : World) (b n : Nat) (D : DW) : Prop := w.ownsMap Try.prog 3 (plainElem Try.prog 4) b n D
/-- Who behind the first n has drawn v. -/
def metB (x r : Int) (l : List Wd) (n : Nat) (v : Int) : Prop := ∃ (m : Nat) (u : Wd), n ≤ m ∧ l[m]? = some u ∧ drB u = true ∧ drV x r u = v
/-- Behind the first n no two draw alike. -/
def unlike (x r : Int) (l : List Wd) (n : Nat) : Prop := ∀ (m k : Nat) (u v : Wd), n ≤ m → n ≤ k → l[m]? = some u → l[k]? = some v → drB u = true → drB v = true → drV x r u = drV x r v → m = k
theorem look_met {w : World} {b n : Nat} {D : DW} (h : OM w b n D) (v : Int) (hv : (Lit.int .i64 v).wf = true) : ∃ c, (Instr.lookup 36 (.map (some b)) (.int .i64 v) false).run Try.prog w = .ok (.bool c) w ∧ D.atKey (.int .i64 v) (.lit (.bool false)) = .lit (.bool c) := by
  obtain ⟨y, ps, hrun, hy⟩ := h.lookup keyI Try.underlying36 (zeroB w) (plainElem_bool Try.underlying4 false) (keyOf_int_mk Try.underlying3 hv)
  obtain ⟨c, rfl, hc⟩ := plainElem_bool_inv Try.underlying4 hy
  exact ⟨c, hrun, congrArg Prod.fst hc⟩
theorem drV_wf (x r : Int) (u : Wd) : (Lit.int .i64 (drV x r u)).wf = true := by
  have h1 := numer_ge x u.id r
  have h2 : numer x u.id r ≤ 17592186044416 := by unfold numer; omega
  have h3 : 0 ≤ drV x r u ∧ drV x r u ≤ 17592186044416 := by
    unfold drV
    split
    · rename_i hd
      have hw := ((drB_iff u).1 hd).1
      refine ⟨Int.ediv_nonneg h1 (by omega), Int.le_trans (Int.ediv_le_self _ h1) h2⟩
    · omega
  simp [Lit.wf, IntKind.min, IntKind.max, IntKind.signed, IntKind.bits]
  omega
/-- What the map holds. -/
def Held (x r : Int) (l : List Wd) (n : Nat) (D : DW) : Prop := ∀ v : Int, D.atKey (.int .i64 v) (.lit (.bool false)) = .lit (.bool true) ↔ metB x r l n v
theorem held_put {x r : Int} {l : List Wd} {n : Nat} {D : DW} {u : Wd} (h : Held x r l (n + 1) D) (hm : Go.Maps.IsMap D) (hu : l[n]? = some u) (hd : drB u = true) : Held x r l n (D.put (.int .i64 (drV x r u)) (.lit (.bool true))) := by
  intro v
  by_cases e : v = drV x r u
  · subst e
    rw [Go.Maps.atKey_put_same hm (by trivial)]
    exact ⟨fun _ => ⟨n, u, Nat.le_refl _, hu, hd, rfl⟩, fun _ => rfl⟩
  · rw [Go.Maps.atKey_put_other (by intro hh; injection hh with _ hh; exact e hh), h v]
    constructor
    · rintro ⟨m, y, h1, h2, h3, h4⟩
      exact ⟨m, y, by omega, h2, h3, h4⟩
    · rintro ⟨m, y, h1, h2, h3, h4⟩
      refine ⟨m, y, ?_, h2, h3, h4⟩
      rcases Nat.lt_or_ge n m with hh | hh
      · exact hh
      · obtain rfl : m = n := by omega
        rw [hu] at h2
        obtain rfl := Option.some.inj h2
        exact absurd h4.symm e
theorem held_skip {x r : Int} {l : List Wd} {n : Nat} {D : DW} {u : Wd} (h : Held x r l (n + 1) D) (hu : l[n]? = some u) (hd : drB u = false) : Held x r l n D := by
  intro v
  rw [h v]
  constructor
  · rintro ⟨m, y, h1, h2, h3, h4⟩
    exact ⟨m, y, by omega, h2, h3, h4⟩
  · rintro ⟨m, y, h1, h2, h3, h4⟩
    refine ⟨m, y, ?_, h2, h3, h4⟩
    rcases Nat.lt_or_ge n m with hh | hh
    · exact hh
    · obtain rfl : m = n := by omega
      rw [hu] at h2
      obtain rfl := Option.some.inj h2
      rw [hd] at h3; cases h3
theorem unlike_more {x r : Int} {l : List Wd} {n : Nat} {u : Wd} (h : unlike x r l (n + 1)) (hu : l[n]? = some u) (hn : drB u = true → ¬ metB x r l (n + 1) (drV x r u)) : unlike x r l n := by
  intro m k y z h1 h2 h3 h4 h5 h6 h7
  rcases Nat.lt_or_ge n m with hm | hm <;> rcases Nat.lt_or_ge n k with hk | hk
  · exact h m k y z hm hk h3 h4 h5 h6 h7
  · obtain rfl : k = n := by omega
    rw [hu] at h4
    obtain rfl := Option.some.inj h4
    exact absurd ⟨m, y, hm, h3, h5, h7⟩ (hn h6)
  · obtain rfl : m = n := by omega
    rw [hu] at h3
    obtain rfl := Option.some.inj h3
    exact absurd ⟨k, z, hk, h4, h6, h7.symm⟩ (hn h5)
  · omega
theorem rev_step {l : List Wd} {n : Nat} {u : Wd} (h : l[n]? = some u) : (l.drop (n + 1)).reverse ++ [u] = (l.drop n).reverse := by
  have hn : n < l.length := (List.getElem?_eq_some_iff.1 h).1
  have e : l[n] = u := (List.getElem?_eq_some_iff.1 h).2
  rw [List.drop_eq_getElem_cons hn, e, List.reverse_cons]
theorem made (w : World) (o : Obj) : OM ((w.alloc o).alloc (.map #[] 0)) (w.heap.size + 1) 0 (.map []) := by
  have e : (w.alloc o).heap.size = w.heap.size + 1 := by simp
  exact e ▸ World.ownsMap_made (w.alloc o) Try.prog _ _
theorem om_below {w w1 : World} {b n : Nat} {D : DW} (h : OM w b n D) (hb : Below w.heap.size w w1) : OM w1 b n D := h.kept (grown_of_below hb none) (by simp)
set_option maxHeartbeats 1600000 in
set_option maxRecDepth 100000 in
theorem lawOrders (A : Option Addr) (c : Nat) (l : List Wd) (x r : Int) (w : World) (hc : kW.C w A l.length l) (hs : l.length * 16 ≤ 140737488351232) :
    Calls Try.prog 7 #[.slice A l.length c, .int .u32 x, .int .u32 r] w fun e w' => e = .returned (.bool true) ∧ Below w.heap.size w w' := by
  have HC := Lib.hid hc
  have HL := Lib.hid hs
  have hm : l.length ≤ 9223372036854775807 := hc.2.1
  have HB := Lib.hid (Below.refl w.heap.size w)
  have HB1 := Lib.hid (below_alloc (below_alloc HB.out (.cells #[] 23)) (.map #[] 0))
  have HO0 : Hid (kW.R 23 ((w.alloc (.cells #[] 23)).alloc (.map #[] 0)) w.heap.size (fun k => k ≠ w.heap.size + 1) (.slice (some ⟨w.heap.size, 0, none⟩) 0 0) []) :=
    Lib.hid (Kd.R_alloc ⟨fun k hk => by have hk : some w.heap.size = some k := hk; injection hk with hk; omega, OwnRow.lit w w.heap.size (ps := []) (inner := []) (Reps.none _ _) (Nat.le_refl _) (Nat.zero_le _)⟩ _)
  have HM0 : Hid (OM ((w.alloc (.cells #[] 23)).alloc (.map #[] 0)) (w.heap.size + 1) 0 (.map [])) := Lib.hid (made _ _)
  have hmm := @run_makeMap Try.prog
  clear hc hs HB
  go_enter Try.func7, Try.ntmps7
  go_wp2_with fail
  go_loopw [7, 9] (fun v i' wr => ∃ (n : Nat) (i : Int) (D : DW), i' = .int .i64 i ∧ i = (n : Int) - 1 ∧ Hid (n ≤ l.length ∧ Held x r l n D ∧ unlike x r l n) ∧ Hid (OM wr (w.heap.size + 1) (l.length - n) D) ∧ Hid (kW.R 23 wr w.heap.size (fun k => k ≠ w.heap.size + 1) v (l.drop n).reverse) ∧ Hid (Below w.heap.size w wr)) (fun _ i' _ => (intOf i' + 1).toNat)
  case atStart =>
    refine ⟨l.length, _, .map [], rfl, ?_, Lib.hid ⟨Nat.le_refl _, ?_, ?_⟩, Lib.hid ?_, Lib.hid ?_, HB1⟩
    · first | rfl | (unfold wrap64; omega)
    · intro v
      constructor
      · intro h; cases h
      · rintro ⟨m, u, h1, h2, _⟩
        have := (List.getElem?_eq_some_iff.1 h2).1; omega
    · intro m k u v h1 _ h2
      have := (List.getElem?_eq_some_iff.1 h2).1; omega
    · have := HM0.out; simpa using this
    · have := HO0.out; simpa using this
  case round =>
    obtain ⟨n, i, D, rfl, hi, HI, HM, HO, HB⟩ := hrel
    cases n with
    | zero =>
      obtain rfl : i = -1 := by omega
      clear hi
      obtain ⟨k, hk⟩ : ∃ k, k = l.reverse := ⟨_, rfl⟩
      have ho := HO.out
      rw [List.drop_zero, ← hk] at ho
      have hkl : k.length = l.length := by rw [hk, List.length_reverse]
      have HK := Lib.hid hk
      obtain ⟨A2, c2, rfl, _, hC⟩ := Kd.R_reads ho
      have HC2 := Lib.hid hC
      rw [hkl]
      have HN := Lib.hid (orders (pick_best x r l) ((show ∀ b, Best x r k b → Best x r l.reverse b from fun b hb => hk ▸ hb) _ (pick_best x r k)) (fun m n u v h1 h2 => HI.out.2.2 m n u v (Nat.zero_le _) (Nat.zero_le _) h1 h2))
      clear ho hC hk hkl HO HM HI
      go_wp2_with fail
      refine (choose_calls A _ l x r _ (Kd.C_below HC.out HB.out)).mono ?_
      rintro e w1 ⟨rfl, hb⟩
      have HB2 := Lib.hid (below_then HB.out HB.out.size hb)
      have T := choose_calls A2 c2 k x r w1
      rw [show k.length = l.length by rw [HK.out, List.length_reverse]] at T
      have T := Lib.hid (T (Kd.C_below (by have := HC2.out; rwa [show k.length = l.length by rw [HK.out, List.length_reverse]] at this) hb))
      clear hb HB
      go_wp2_with fail
      refine T.out.mono ?_
      rintro e w2 ⟨rfl, hb⟩
      have HB := Lib.hid (below_then HB2.out HB2.out.size hb)
      clear hb HB2 T HC2 HC
      generalize pick x r l = p at *
      generalize pick x r k = q at *
      by_cases h1 : p < 0
      · have e1 : p = q := by have := HN.out; rwa [if_pos (.inl h1)] at this
        have b1 : (p == q) = true := beq_iff_eq.2 e1
        have d1 : decide (p < 0) = true := decide_eq_true h1
        clear e1 HN h1
        go_wp2_with fail
        refine (awake_calls _).mono ?_
        rintro e w7 ⟨rfl, hb⟩
        have HB7 := Lib.hid (below_then HB.out HB.out.size hb)
        clear hb
        go_wp2_with fail
        go_ret
        exact ⟨rfl, HB7.out⟩
      · have d1 : decide (p < 0) = false := decide_eq_false h1
        by_cases h2 : q < 0
        · have e1 : p = q := by have := HN.out; rwa [if_pos (.inr h2)] at this
          have b1 : (p == q) = true := beq_iff_eq.2 e1
          have d2 : decide (q < 0) = true := decide_eq_true h2
          clear e1 HN h1 h2
          go_wp2_with fail
          refine (awake_calls _).mono ?_
          rintro e w7 ⟨rfl, hb⟩
          have HB7 := Lib.hid (below_then HB.out HB.out.size hb)
          clear hb
          go_wp2_with fail
          go_ret
          exact ⟨rfl, HB7.out⟩
        · have e1 : p = l.length - 1 - q := by have := HN.out; rwa [if_neg (by omega)] at this
          have d2 : decide (q < 0) = false := decide_eq_false h2
          have b1 : (p == wrap64 ((l.length : Int) - 1 - q)) = true := beq_iff_eq.2 (by unfold wrap64; omega)
          have b2 : (p == (l.length : Int) - 1 - q) = true := beq_iff_eq.2 e1
          clear e1 HN h1 h2
          go_wp2_with fail
          refine (awake_calls _).mono ?_
          rintro e w7 ⟨rfl, hb⟩
          have HB7 := Lib.hid (below_then HB.out HB.out.size hb)
          clear hb
          go_wp2_with fail
          go_ret
          exact ⟨rfl, HB7.out⟩
    | succ n =>
      obtain rfl : i = (n : Int) := by omega
      clear hi
      have hn : n < l.length := by have := HI.out.1; omega
      obtain ⟨ad, u, hu, hA, c0w, c1w⟩ := at_W HC.out n hn
      subst hA
      obtain ⟨c0, c1⟩ := keep2 HB.out c0w c1w
      have HCW := Lib.hid (And.intro c0w c1w)
      clear c0w c1w
      have i0 : (0 : Int) ≤ n := by omega
      have hk1 : decide (n < l.length) = true := decide_eq_true hn
      have HU := Lib.hid hu
      clear hu
      go_wp2_with fail
      refine (draw_calls _ _ x r _).mono ?_
      rintro e w1 ⟨rfl, hb⟩
      obtain ⟨c0, c1⟩ := keep2 hb c0 c1
      have HM1 := Lib.hid (om_below HM.out hb)
      have HO1 := Lib.hid (Kd.R_below HO.out hb)
      have HB2 := Lib.hid (below_then HB.out HB.out.size hb)
      clear hb HM HO HB
      have hw := drV_wf x r u
      obtain ⟨d, hd⟩ : ∃ d, drV x r ⟨u.id, u.wt⟩ = d := ⟨_, rfl⟩
      have HD := Lib.hid (show drV x r u = d from hd)
      rw [hd]
      rw [show drV x r u = d from hd] at hw
      obtain ⟨cm, hrun, hat⟩ := look_met HM1.out d hw
      have HW := Lib.hid hw
      have HA := Lib.hid hat
      have HIM := Lib.hid HM1.out.isMap
      clear hd hw hat
      cases hdr : drB ⟨u.id, u.wt⟩
      · have HR := Lib.hid hdr
        go_wp2_with (first | (at_builtin; go_must (refine Kd.R_append kW (w0 := w) w.heap.size rfl _ _ 29 23 (.agg #[.int .i64 0, .int .i64 0]) 16 rfl Try.underlying29 infoW rfl (by decide) (by decide) _ _ u [.int .i64 u.id, .int .i64 u.wt] (fun k => k ≠ w.heap.size + 1) (fun _ => False) rfl rfl (kW_mkM _ _ _ u) (fun _ hk => hk.elim) ?hf (by exact HO1.out) (by exact HB2.out) (by exact HB2.out.size) ?hl ?_; (case hf => intro k hk; have := HM1.out.lt; omega); (case hl => have := HL.out; rw [List.length_reverse, List.length_drop]; omega)); intro v2 w3 ho hb hg hg2; have HM3 := Lib.hid (HM1.out.kept hg (Kd.R_away HO1.out (fun k hk => hk))); have HO3 := Lib.hid ho; have HB3 := Lib.hid hb; clear ho hb hg hg2 HM1 HO1 HB2))
        go_roundw
        case rel =>
          refine ⟨n, _, _, rfl, ?_, Lib.hid ⟨by omega, ?_, ?_⟩, Lib.hid (HM3.out.mono (by omega)), Lib.hid ?_, HB3⟩
          · first | rfl | (unfold wrap64; omega)
          · exact held_skip HI.out.2.1 HU.out HR.out
          · exact unlike_more HI.out.2.2 HU.out (fun h => absurd (h.symm.trans HR.out) (by decide))
          · have := HO3.out
            rwa [rev_step HU.out] at this
        case measure => simp only [intOf]; first | omega | (unfold wrap64; omega)
      · have HR := Lib.hid hdr
        cases cm
        · go_wp2_with (first | (at_mapUpdate; go_must (refine wpList_mapUpdate_own _ rfl _ _ _ 36 rfl 3 4 keyI Try.underlying36 _ (w.heap.size + 1) (l.length - (n + 1)) D rfl (by exact HM1.out) ?hn _ _ (.int .i64 d) rfl rfl (keyOf_int_mk Try.underlying3 HW.out) (.lit (.bool true)) [] (plainElem_bool Try.underlying4 true) ?_; (case hn => have := HL.out; simp only [maxLen]; omega)); intro w2 ho hg; have HM2 := Lib.hid ho; have HO2 := Lib.hid (Kd.R_grown HO1.out hg (fun k hk e => by injection e with e; exact hk e)); have HB4 := Lib.hid (HB2.out.grown hg HB2.out.size (fun k hk => by injection hk with hk; omega)); clear ho hg HM1 HO1 HB2; obtain ⟨c0, c1⟩ := keep2 HB4.out HCW.out.1 HCW.out.2; have HM1 := HM2; have HO1 := HO2; have HB2 := HB4; clear HM2 HO2 HB4) | (at_builtin; go_must (refine Kd.R_append kW (w0 := w) w.heap.size rfl _ _ 29 23 (.agg #[.int .i64 0, .int .i64 0]) 16 rfl Try.underlying29 infoW rfl (by decide) (by decide) _ _ u [.int .i64 u.id, .int .i64 u.wt] (fun k => k ≠ w.heap.size + 1) (fun _ => False) rfl rfl (kW_mkM _ _ _ u) (fun _ hk => hk.elim) ?hf (by exact HO1.out) (by exact HB2.out) (by exact HB2.out.size) ?hl ?_; (case hf => intro k hk; have := HM1.out.lt; omega); (case hl => have := HL.out; rw [List.length_reverse, List.length_drop]; omega)); intro v2 w3 ho hb hg hg2; have HM3 := Lib.hid (HM1.out.kept hg (Kd.R_away HO1.out (fun k hk => hk))); have HO3 := Lib.hid ho; have HB3 := Lib.hid hb; clear ho hb hg hg2 HM1 HO1 HB2))
          go_roundw
          case rel =>
            refine ⟨n, _, _, rfl, ?_, Lib.hid ⟨by omega, ?_, ?_⟩, Lib.hid (HM3.out.mono (by omega)), Lib.hid ?_, HB3⟩
            · first | rfl | (unfold wrap64; omega)
            · have := held_put HI.out.2.1 HIM.out HU.out HR.out; rwa [HD.out] at this
            · refine unlike_more HI.out.2.2 HU.out (fun _ hm => ?_); rw [HD.out] at hm; have := ((HI.out.2.1 d).2 hm).symm.trans HA.out; injection this with this; injection this with this; cases this
            · have := HO3.out
              rwa [rev_step HU.out] at this
          case measure => simp only [intOf]; first | omega | (unfold wrap64; omega)
        · go_wp2_with fail
          refine (awake_calls _).mono ?_
          rintro e w7 ⟨rfl, hb⟩
          have HB7 := Lib.hid (below_then HB2.out HB2.out.size hb)
          clear hb
          go_wp2_with fail
          go_ret
          exact ⟨rfl, HB7.out⟩
theorem walkOrders (A : Option Addr) (c : Nat) (l : List Wd) (x r : Int) (w : World) (_ : l.length ≤ c) (hc : kW.C w A l.length l) (hg : (∀ x ∈ l, (Lit.int .i64 x.id).wf = true ∧ (Lit.int .i64 x.wt).wf = true) ∧ l.length * 16 ≤ reachBytes) (_ : (Lit.int .u32 x).wf = true) (_ : (Lit.int .u32 r).wf = true) :
    Calls Try.prog 7 #[.slice A l.length c, .int .u32 x, .int .u32 r] w fun e w' => e = .returned (.bool true) ∧ Below w.heap.size w w' := lawOrders A c l x r w hc hg.2
end Go.Proofs.Ytkppgljndnljhaa.StrO
