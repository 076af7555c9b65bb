import Derived.Test.YtkppgljndnljhaaProg
import Derived.Test.YtkppgljndnljhaaStrW
import Derived.WalkKit
import Derived.WalkSpells
import Derived.Lib.Hide
import Derived.BigQuiet
import Derived.Deep.RegionWith
/- The laws of straws in which a weight is turned. -/
namespace Go.Proofs.Ytkppgljndnljhaa.StrM
open Go.RowKit Go.Proofs.YtkppgljndnljhaaW.PrintWords KW MixP MixW StrP StrW

theorem infoW : (Try.prog.info? 23).map (fun i => (i.zero, i.size, i.bytes)) = some (some (.agg #[.int .i64 0, .int .i64 0]), kW.sz, 16) := by kernel_rfl
theorem infoI : (Try.prog.info? 3).map (·.size) = some ([.int .i64 0] : List Value).length := by kernel_rfl
theorem R_empty {α : Type} (d : Kd α) (e : Nat) (W : World) (base H : Nat) (hH : W.heap.size = H) (hb : base ≤ W.heap.size) : d.R e (W.alloc (.cells #[] e)) base (fun _ => True) (.slice (some ⟨H, 0, none⟩) 0 0) [] := hH ▸
  ⟨fun _ _ => trivial, OwnRow.lit W base (ps := []) (inner := []) (Reps.none _ _) hb (Nat.zero_le _)⟩
section
variable {ops : Array Oper} {rest : List Oper} {o : Oper} {a : Act} {Q : Exit → Act → World → Prop}
/-- append(v, ys...), of Weighed. -/
theorem append_Ws {w0 W : World} (base : Nat) (hgd : o.guard = none) (s x : Operand) (ho : o.op = .call { callee := .builtin .append, args := #[s, x], argTypes := #[29, 29] })
    (v : Value) (xs ys : List Wd) (A : Option Addr) (m c : Nat) (hs : a.eval s = v) (hx : a.eval x = .slice A m c) (HO : kW.R 23 W base (fun _ => True) v xs) (HR : kW.C W A m ys)
    (HB : Below base w0 W) (hbase : base ≤ W.heap.size) (hl : (xs.length + m) * 16 ≤ 140737488355328)
    (h : ∀ v1 w1, kW.R 23 w1 base (fun _ => True) v1 (xs ++ ys) → Below base w0 w1 → W.grownBy w1 v.ownBlock → wpList Try.prog ops Q rest (a.put o.dst v1) w1) : wpList Try.prog ops Q (o :: rest) a W :=
  Kd.R_append_rows kW (w0 := w0) base hgd s x 29 23 (.agg #[.int .i64 0, .int .i64 0]) 16 ho Try.underlying29 infoW rfl (by decide) (by decide) v xs ys A m c (fun _ => True) (fun _ => False) hs hx HO HR
    (fun y cs hk => by rw [kW_open hk]; exact kW_mkM _ _ _ y) (fun _ hk => hk.elim) (fun _ _ => trivial) HB hbase hl (fun v1 w1 h1 h2 h3 _ => h v1 w1 h1 h2 h3)
/-- v[i].Weight = nw. -/
theorem store_wt {w0 W : World} (base : Nat) (hN : o.dst = none) (hgd : o.guard = none) (p x : Operand) (ho : o.op = .store 3 p x) {g n cap o' : Nat} (i : Nat) (xs : List Wd) (u : Wd) (nw : Int)
    (haddr : a.eval p = .pointer (some ⟨g, o', none⟩)) (hoff : o' = i * 2 + 1) (hx : a.eval x = .int .i64 nw) (HO : kW.R 23 W base (fun _ => True) (.slice (some ⟨g, 0, none⟩) n cap) xs) (hu : xs[i]? = some u)
    (HB : Below base w0 W) (h : ∀ w1, kW.R 23 w1 base (fun _ => True) (.slice (some ⟨g, 0, none⟩) n cap) (xs.set i ⟨u.id, nw⟩) → Below base w0 w1 → W.grownBy w1 (some g) → wpList Try.prog ops Q rest a w1) : wpList Try.prog ops Q (o :: rest) a W := by
  obtain ⟨hn, _, hC⟩ := Kd.R_reads' HO
  have hi : i < xs.length := (List.getElem?_eq_some_iff.1 hu).1
  obtain ⟨ad, y, hy, hA, c0, c1⟩ := at_W hC i hi
  rw [hu] at hy
  obtain rfl := Option.some.inj hy
  injection hA with hA
  subst hA
  refine Kd.R_store kW (w0 := w0) base hN hgd 3 p x ho 23 (i : Int) 1 xs ⟨u.id, nw⟩ (.int .i64 nw) [.int .i64 nw] [.int .i64 u.id, .int .i64 u.wt] (fun _ => True) (fun _ => False) haddr hoff hx rfl infoI (by simp [Value.oneCell'])
    HO (by omega) (by omega) rfl ?_ (Nat.le_refl 2) (kW_mkM _ _ _ ⟨u.id, nw⟩) (fun _ hk => hk.elim) HB h
  rw [add_plain] at c0 c1
  intro j v hj
  match j, hj with
  | 0, hj => obtain rfl := Option.some.inj hj; exact c0
  | 1, hj => obtain rfl := Option.some.inj hj; exact c1
  | j + 2, hj => cases hj
end
theorem getD_get {l : List Wd} {i : Nat} {u : Wd} (h : l[i]? = some u) : i < l.length := (List.getElem?_eq_some_iff.1 h).1
theorem pick_or (x r : Int) (l : List Wd) (i : Nat) (u : Wd) (nw : Int) (_ : l[i]? = some u) : (pick x r l == pick x r (l.set i ⟨u.id, nw⟩) || pick x r l == (i : Int) || pick x r (l.set i ⟨u.id, nw⟩) == (i : Int)) = true := by
  have := moves (i := i) (pick_best x r l) (pick_best x r (l.set i ⟨u.id, nw⟩))
  simp only [Bool.or_eq_true, beq_iff_eq]
  rcases this with h | h | h
  · exact .inl (.inl h)
  · exact .inl (.inr h)
  · exact .inr h
set_option maxHeartbeats 1600000 in
set_option maxRecDepth 100000 in
theorem moves_at (A : Option Addr) (c : Nat) (l : List Wd) (a b x : Int) (i : Nat) (u : Wd) (w : World) (hc : kW.C w A l.length l) (hs : l.length * 16 ≤ 140737488351232) (hu : l[i]? = some u)
    (he : a.tmod l.length = (i : Int) ∨ a.tmod l.length = (i : Int) - l.length) :
    Calls Try.prog 5 #[.slice A l.length c, .agg #[.int .i64 a, .int .i64 b], .int .u32 x] w fun e w' => e = .returned (.bool true) ∧ Below w.heap.size w w' := by
  have hil := getD_get hu
  have HL := Lib.hid hs
  have hm : l.length ≤ 9223372036854775807 := hc.2.1
  have HU := Lib.hid hu
  have HC := Lib.hid hc
  have HB := Lib.hid (Below.refl w.heap.size w)
  have n0 : ((l.length : Int) == 0) = false := by rw [beq_eq_false_iff_ne]; omega
  clear hs hc hu
  rcases he with he | he
  · go_enter Try.func5, Try.ntmps5
    go_wp2_with (first | ((with_reducible refine gate_store (t := 3) (p := 34) (v := .tmp 32) rfl ?_); go_must (refine store_wt (w0 := w) w.heap.size rfl rfl _ _ rfl i l u b rfl rfl rfl HO.out HU.out HB1.out ?_; intro w2 ho hb hg; have HC1 := Lib.hid (Kd.C_below HC.out hb); have HK := Lib.hid ho; have HB2 := Lib.hid hb; clear ho hb hg HO HB1)) | (at_builtin; go_must (refine append_Ws (w0 := w) w.heap.size rfl _ _ rfl _ [] l A l.length c rfl rfl ?aO ?aR ?aB ?aS ?aL ?_; (case aO => exact R_empty _ _ (w.alloc (.cells #[.int .i64 a, .int .i64 b] 33)) _ (w.heap.size + 1) (by simp) (below_alloc HB.out _).size); (case aR => exact Kd.C_alloc (Kd.C_alloc HC.out _) _); (case aB => exact below_alloc (below_alloc HB.out _) _); (case aS => exact (below_alloc (below_alloc HB.out _) _).size); (case aL => have := HL.out; simp only [List.length_nil, Nat.zero_add]; omega); intro v1 w1 ho hb hg; rw [List.nil_append] at ho; obtain ⟨g, cap, rfl, _, _, _⟩ := Kd.R_form ho (by omega); have c9 := blk_cell (blk_grown (blk_alloc (blk_new w (.cells #[.int .i64 a, .int .i64 b] 33)) (.cells #[] 23)) hg (by go_must (simp [Value.ownBlock, Act.eval]))) 1; have c8 : w1.cell? ⟨w.heap.size, 1, none⟩ = some (.int .i64 b) := c9; clear c9; have HO := Lib.hid ho; have HB1 := Lib.hid hb; clear ho hb hg)))
    refine (choose_calls A c l x 0 _ HC1.out).mono ?_
    rintro e w3 ⟨rfl, hb⟩
    obtain ⟨e9, e8, hC⟩ := Kd.R_reads' (Kd.R_below HK.out hb)
    clear e9 e8
    have T := fun r => choose_calls (some ⟨g, 0, none⟩) cap (l.set i ⟨u.id, b⟩) x r _ hC
    rw [List.length_set] at T
    have T := Lib.hid T
    have HB3 := Lib.hid (below_then HB2.out HB2.out.size hb)
    clear hb hC HC HC1 HK HB2 c8 HL
    go_wp2_with fail
    refine (T.out 0).mono ?_
    rintro e w4 ⟨rfl, hb⟩
    have HB4 := Lib.hid (below_then HB3.out HB3.out.size hb)
    have HP := Lib.hid (moves (i := i) (pick_best x 0 l) (pick_best x 0 (l.set i ⟨u.id, b⟩)))
    clear hb HB3 T HU
    generalize pick x 0 l = p at *
    generalize pick x 0 (l.set i ⟨u.id, b⟩) = q at *
    have t1 : ((p == q) || (p == (i : Int)) || (q == (i : Int))) = true := by
      simp only [Bool.or_eq_true, beq_iff_eq]
      rcases HP.out with h | h | h
      · exact .inl (.inl h)
      · exact .inl (.inr h)
      · exact .inr h
    clear HP
    cases h1 : (p == q)
    · cases h2 : (p == (i : Int))
      · cases h3 : (q == (i : Int))
        · rw [h1, h2, h3] at t1; cases t1
        · clear t1
          go_wp2_with fail
          refine (awake_calls _).mono ?_
          rintro e w5 ⟨rfl, hb⟩
          have HB5 := Lib.hid (below_then HB4.out HB4.out.size hb)
          clear hb
          go_wp2_with fail
          go_ret
          exact ⟨rfl, HB5.out⟩
      · clear t1
        go_wp2_with fail
        refine (awake_calls _).mono ?_
        rintro e w5 ⟨rfl, hb⟩
        have HB5 := Lib.hid (below_then HB4.out HB4.out.size hb)
        clear hb
        go_wp2_with fail
        go_ret
        exact ⟨rfl, HB5.out⟩
    · clear t1
      go_wp2_with fail
      refine (awake_calls _).mono ?_
      rintro e w5 ⟨rfl, hb⟩
      have HB5 := Lib.hid (below_then HB4.out HB4.out.size hb)
      clear hb
      go_wp2_with fail
      go_ret
      exact ⟨rfl, HB5.out⟩
  · go_enter Try.func5, Try.ntmps5
    go_wp2_with (first | ((with_reducible refine gate_store (t := 3) (p := 34) (v := .tmp 32) rfl ?_); go_must (refine store_wt (w0 := w) w.heap.size rfl rfl _ _ rfl i l u b rfl rfl rfl HO.out HU.out HB1.out ?_; intro w2 ho hb hg; have HC1 := Lib.hid (Kd.C_below HC.out hb); have HK := Lib.hid ho; have HB2 := Lib.hid hb; clear ho hb hg HO HB1)) | (at_builtin; go_must (refine append_Ws (w0 := w) w.heap.size rfl _ _ rfl _ [] l A l.length c rfl rfl ?aO ?aR ?aB ?aS ?aL ?_; (case aO => exact R_empty _ _ (w.alloc (.cells #[.int .i64 a, .int .i64 b] 33)) _ (w.heap.size + 1) (by simp) (below_alloc HB.out _).size); (case aR => exact Kd.C_alloc (Kd.C_alloc HC.out _) _); (case aB => exact below_alloc (below_alloc HB.out _) _); (case aS => exact (below_alloc (below_alloc HB.out _) _).size); (case aL => have := HL.out; simp only [List.length_nil, Nat.zero_add]; omega); intro v1 w1 ho hb hg; rw [List.nil_append] at ho; obtain ⟨g, cap, rfl, _, _, _⟩ := Kd.R_form ho (by omega); have c9 := blk_cell (blk_grown (blk_alloc (blk_new w (.cells #[.int .i64 a, .int .i64 b] 33)) (.cells #[] 23)) hg (by go_must (simp [Value.ownBlock, Act.eval]))) 1; have c8 : w1.cell? ⟨w.heap.size, 1, none⟩ = some (.int .i64 b) := c9; clear c9; have HO := Lib.hid ho; have HB1 := Lib.hid hb; clear ho hb hg)))
    refine (choose_calls A c l x 0 _ HC1.out).mono ?_
    rintro e w3 ⟨rfl, hb⟩
    obtain ⟨e9, e8, hC⟩ := Kd.R_reads' (Kd.R_below HK.out hb)
    clear e9 e8
    have T := fun r => choose_calls (some ⟨g, 0, none⟩) cap (l.set i ⟨u.id, b⟩) x r _ hC
    rw [List.length_set] at T
    have T := Lib.hid T
    have HB3 := Lib.hid (below_then HB2.out HB2.out.size hb)
    clear hb hC HC HC1 HK HB2 c8 HL
    go_wp2_with fail
    refine (T.out 0).mono ?_
    rintro e w4 ⟨rfl, hb⟩
    have HB4 := Lib.hid (below_then HB3.out HB3.out.size hb)
    have HP := Lib.hid (moves (i := i) (pick_best x 0 l) (pick_best x 0 (l.set i ⟨u.id, b⟩)))
    clear hb HB3 T HU
    generalize pick x 0 l = p at *
    generalize pick x 0 (l.set i ⟨u.id, b⟩) = q at *
    have t1 : ((p == q) || (p == (i : Int)) || (q == (i : Int))) = true := by
      simp only [Bool.or_eq_true, beq_iff_eq]
      rcases HP.out with h | h | h
      · exact .inl (.inl h)
      · exact .inl (.inr h)
      · exact .inr h
    clear HP
    cases h1 : (p == q)
    · cases h2 : (p == (i : Int))
      · cases h3 : (q == (i : Int))
        · rw [h1, h2, h3] at t1; cases t1
        · clear t1
          go_wp2_with fail
          refine (awake_calls _).mono ?_
          rintro e w5 ⟨rfl, hb⟩
          have HB5 := Lib.hid (below_then HB4.out HB4.out.size hb)
          clear hb
          go_wp2_with fail
          go_ret
          exact ⟨rfl, HB5.out⟩
      · clear t1
        go_wp2_with fail
        refine (awake_calls _).mono ?_
        rintro e w5 ⟨rfl, hb⟩
        have HB5 := Lib.hid (below_then HB4.out HB4.out.size hb)
        clear hb
        go_wp2_with fail
        go_ret
        exact ⟨rfl, HB5.out⟩
    · clear t1
      go_wp2_with fail
      refine (awake_calls _).mono ?_
      rintro e w5 ⟨rfl, hb⟩
      have HB5 := Lib.hid (below_then HB4.out HB4.out.size hb)
      clear hb
      go_wp2_with fail
      go_ret
      exact ⟨rfl, HB5.out⟩
end Go.Proofs.Ytkppgljndnljhaa.StrM
namespace Go.Proofs.Ytkppgljndnljhaa.StrM
open Go.RowKit Go.Proofs.YtkppgljndnljhaaW.PrintWords KW MixP MixW StrP StrW
theorem moves_none (A : Option Addr) (c : Nat) (a b x : Int) (w : World) :
    Calls Try.prog 5 #[.slice A 0 c, .agg #[.int .i64 a, .int .i64 b], .int .u32 x] w fun e w' => e = .returned (.bool true) ∧ Below w.heap.size w w' := by
  have HB := Lib.hid (below_alloc (Below.refl w.heap.size w) (.cells #[.int .i64 a, .int .i64 b] 33))
  go_enter Try.func5, Try.ntmps5
  go_wp2_with fail
  refine (awake_calls _).mono ?_
  rintro e w5 ⟨rfl, hb⟩
  have HB5 := Lib.hid (below_then HB.out HB.out.size hb)
  clear hb
  go_wp2_with fail
  go_ret
  exact ⟨rfl, HB5.out⟩
/-- Which one is meant. -/
theorem which {l : List Wd} (h : l ≠ []) (a : Int) : ∃ (i : Nat) (u : Wd), l[i]? = some u ∧ (a.tmod l.length = (i : Int) ∨ a.tmod l.length = (i : Int) - l.length) := by
  have hp : 0 < l.length := List.length_pos_iff.2 h
  have h1 := Int.emod_nonneg a (b := l.length) (by omega)
  have h2 := Int.emod_lt_of_pos a (b := l.length) (by omega)
  obtain ⟨i, hi⟩ := Int.eq_ofNat_of_zero_le h1
  have hil : i < l.length := by omega
  refine ⟨i, l[i], List.getElem?_eq_getElem hil, ?_⟩
  have e1 := Int.tmod_add_mul_tdiv a l.length
  rcases Int.lt_or_le a 0 with ha | ha
  · by_cases hz : i = 0
    · left
      have : (l.length : Int) ∣ a := Int.dvd_of_emod_eq_zero (by rw [hi, hz]; rfl)
      rw [Int.tmod_eq_zero_of_dvd this, hz]; rfl
    · right
      have e := Int.tmod_eq_emod (a := a) (b := l.length)
      rw [e, hi]
      have hd : ¬ (l.length : Int) ∣ a := fun hd => hz (by have := Int.emod_eq_zero_of_dvd hd; omega)
      rw [if_neg (by intro h; rcases h with h | h
                     · omega
                     · exact hd h)]
      simp
  · left
    rw [Int.tmod_eq_emod_of_nonneg ha, hi]
theorem lawMoves (A : Option Addr) (c : Nat) (l : List Wd) (a b x : Int) (w : World) (hc : kW.C w A l.length l) (hs : l.length * 16 ≤ 140737488351232) :
    Calls Try.prog 5 #[.slice A l.length c, .agg #[.int .i64 a, .int .i64 b], .int .u32 x] w fun e w' => e = .returned (.bool true) ∧ Below w.heap.size w w' := by
  by_cases h : l = []
  · subst h
    exact moves_none A c a b x w
  · obtain ⟨i, u, hu, he⟩ := which h a
    exact moves_at A c l a b x i u w hc hs hu he
end Go.Proofs.Ytkppgljndnljhaa.StrM
namespace Go.Proofs.Ytkppgljndnljhaa.StrM
open Go.RowKit Go.Proofs.YtkppgljndnljhaaW.PrintWords KW MixP MixW StrP StrW
theorem keep2 {W w1 : World} (hb : Below W.heap.size W w1) {p q : Addr} {u v : Value} (h1 : W.cell? p = some u) (h2 : W.cell? q = some v) : w1.cell? p = some u ∧ w1.cell? q = some v :=
  ⟨(hb.cell (World.block_lt_of_cell? _ _ h1)).trans h1, (hb.cell (World.block_lt_of_cell? _ _ h2)).trans h2⟩
theorem weight_calls (a b : Int) (w : World) :
    Calls Try.prog 21 #[.agg #[.int .i64 a, .int .i64 b]] w fun e w' => e = .returned (.int .i64 (weight ⟨a, b⟩)) ∧ Below w.heap.size w w' := by
  have HB := Lib.hid (below_alloc (Below.refl w.heap.size w) (.cells #[.int .i64 a, .int .i64 b] 23))
  by_cases h1 : 1 ≤ b
  · by_cases h2 : b ≤ 1073741824
    · have e1 : weight ⟨a, b⟩ = b := by unfold weight; rw [if_pos ((drB_iff _).2 ⟨h1, h2⟩)]
      rw [e1]
      have d2 : decide (1073741824 < b) = false := decide_eq_false (by omega)
      clear e1 h2
      go_enter Try.func21, Try.ntmps21
      go_wp2
      go_ret
      exact ⟨rfl, HB.out⟩
    · have e1 : weight ⟨a, b⟩ = 0 := by unfold weight; rw [if_neg (fun hc => h2 ((drB_iff _).1 hc).2)]
      rw [e1]
      have d2 : decide (1073741824 < b) = true := decide_eq_true (by omega)
      clear e1 h2
      go_enter Try.func21, Try.ntmps21
      go_wp2
      go_ret
      exact ⟨rfl, HB.out⟩
  · have e1 : weight ⟨a, b⟩ = 0 := by unfold weight; rw [if_neg (fun hc => h1 ((drB_iff _).1 hc).1)]
    rw [e1]
    clear e1
    go_enter Try.func21, Try.ntmps21
    go_wp2
    go_ret
    exact ⟨rfl, HB.out⟩
set_option maxHeartbeats 1600000 in
set_option maxRecDepth 100000 in
theorem grows_at (A : Option Addr) (c : Nat) (l : List Wd) (a b x : Int) (i : Nat) (u : Wd) (w : World) (hc : kW.C w A l.length l) (hs : l.length * 16 ≤ 140737488351232) (hu : l[i]? = some u)
    (he : a.tmod l.length = (i : Int) ∨ a.tmod l.length = (i : Int) - l.length) :
    Calls Try.prog 6 #[.slice A l.length c, .agg #[.int .i64 a, .int .i64 b], .int .u32 x] w fun e w' => e = .returned (.bool true) ∧ Below w.heap.size w w' := by
  have hil := getD_get hu
  have HL := Lib.hid hs
  have hm : l.length ≤ 9223372036854775807 := hc.2.1
  have HU := Lib.hid hu
  have HC := Lib.hid hc
  have HB := Lib.hid (Below.refl w.heap.size w)
  have n0 : ((l.length : Int) == 0) = false := by rw [beq_eq_false_iff_ne]; omega
  clear hs hc hu
  rcases he with he | he
  · go_enter Try.func6, Try.ntmps6
    go_wp2_with (first | ((with_reducible refine gate_store (t := 3) (p := 36) (v := .tmp 34) rfl ?_); go_must (refine store_wt (w0 := w) w.heap.size rfl rfl _ _ rfl i l u b rfl rfl rfl HO.out HU.out HB1.out ?_; intro w2 ho hb hg; have HC1 := Lib.hid (Kd.C_below HC.out hb); have HK := Lib.hid ho; have HB2 := Lib.hid hb; clear ho hb hg HO HB1)) | (at_builtin; go_must (refine append_Ws (w0 := w) w.heap.size rfl _ _ rfl _ [] l A l.length c rfl rfl ?aO ?aR ?aB ?aS ?aL ?_; (case aO => exact R_empty _ _ (w.alloc (.cells #[.int .i64 a, .int .i64 b] 33)) _ (w.heap.size + 1) (by simp) (below_alloc HB.out _).size); (case aR => exact Kd.C_alloc (Kd.C_alloc HC.out _) _); (case aB => exact below_alloc (below_alloc HB.out _) _); (case aS => exact (below_alloc (below_alloc HB.out _) _).size); (case aL => have := HL.out; simp only [List.length_nil, Nat.zero_add]; omega); intro v1 w1 ho hb hg; rw [List.nil_append] at ho; obtain ⟨g, cap, rfl, _, _, _⟩ := Kd.R_form ho (by omega); have c9 := blk_cell (blk_grown (blk_alloc (blk_new w (.cells #[.int .i64 a, .int .i64 b] 33)) (.cells #[] 23)) hg (by go_must (simp [Value.ownBlock, Act.eval]))) 1; have c8 : w1.cell? ⟨w.heap.size, 1, none⟩ = some (.int .i64 b) := c9; clear c9; have HO := Lib.hid ho; have HB1 := Lib.hid hb; clear ho hb hg)))
    refine (choose_calls A c l x 1 _ HC1.out).mono ?_
    rintro e w3 ⟨rfl, hb⟩
    obtain ⟨e9, e8, hC⟩ := Kd.R_reads' (Kd.R_below HK.out hb)
    clear e9 e8
    have T := fun r => choose_calls (some ⟨g, 0, none⟩) cap (l.set i ⟨u.id, b⟩) x r _ hC
    rw [List.length_set] at T
    have T := Lib.hid T
    have HB3 := Lib.hid (below_then HB2.out HB2.out.size hb)
    have HC3 := Lib.hid (Kd.C_below HC1.out hb)
    have HK3 := Lib.hid (Kd.R_below HK.out hb)
    clear hb hC HC HC1 HK HB2 c8 HL
    go_wp2_with fail
    refine (T.out 1).mono ?_
    rintro e w4 ⟨rfl, hb⟩
    have HB4 := Lib.hid (below_then HB3.out HB3.out.size hb)
    have HP := Lib.hid (grows (i := i) (nw := b) HU.out (pick_best x 1 l) (pick_best x 1 (l.set i ⟨u.id, b⟩)))
    obtain ⟨ad, y, hy, hA, c0, c1⟩ := at_W (Kd.C_below HC3.out hb) i hil
    rw [HU.out] at hy
    obtain rfl := Option.some.inj hy
    subst hA
    obtain ⟨e9, e8, hC⟩ := Kd.R_reads' (Kd.R_below HK3.out hb)
    clear e9 e8 hy
    obtain ⟨ad2, y, hy, hA, c2, c3⟩ := at_W hC i (by rw [List.length_set]; exact hil)
    have hy2 : (l.set i ⟨u.id, b⟩)[i]? = some ⟨u.id, b⟩ := by simp [hil]
    rw [hy2] at hy
    obtain rfl := Option.some.inj hy
    injection hA with hA
    subst hA
    rw [add_plain] at c2 c3
    clear hb hC HB3 T HU HC3 HK3 hy hy2
    generalize pick x 1 l = p at *
    generalize pick x 1 (l.set i ⟨u.id, b⟩) = q at *
    obtain ⟨wa, hwa⟩ : ∃ z, weight u = z := ⟨_, rfl⟩
    obtain ⟨wb, hwb⟩ : ∃ z, weight ⟨u.id, b⟩ = z := ⟨_, rfl⟩
    have T1 : Hid (∀ w, Calls Try.prog 21 #[.agg #[.int .i64 u.id, .int .i64 u.wt]] w fun e w' => e = .returned (.int .i64 wa) ∧ Below w.heap.size w w') := Lib.hid (fun w => by rw [← hwa]; exact weight_calls _ _ _)
    have T2 : Hid (∀ w, Calls Try.prog 21 #[.agg #[.int .i64 u.id, .int .i64 b]] w fun e w' => e = .returned (.int .i64 wb) ∧ Below w.heap.size w w') := Lib.hid (fun w => by rw [← hwb]; exact weight_calls _ _ _)
    rw [hwa, hwb] at HP
    clear hwa hwb
    go_wp2_with fail
    go_region_with (go_at_call 21; ((first | (with_reducible refine (T1.out _).mono ?_) | (with_reducible refine (T2.out _).mono ?_)); rintro e w5 ⟨rfl, hb⟩; obtain ⟨c0, c1⟩ := keep2 hb c0 c1; obtain ⟨c2, c3⟩ := keep2 hb c2 c3; have hB := Lib.hid (below_then (by first | exact HB4.out | exact below_drew HB4.out | exact pw_below_drewN HB4.out _) (by exact HB4.out.size) hb); clear hb HB4; have HB4 := hB; clear hB))
    all_goals
      clear c0 c1 c2 c3 T1 T2
      cases h1 : (p == (i : Int)) <;> cases h2 : (q == (i : Int)) <;> by_cases h3 : wa ≤ wb <;> by_cases h4 : wb ≤ wa
      all_goals first
        | (exfalso; have a1 := HP.out.1 (by omega); have a2 := HP.out.2 (by omega); simp only [beq_iff_eq, beq_eq_false_iff_ne] at h1 h2; first | (exact h2 (a1 h1)) | (exact a2 h1 h2))
        | (exfalso; have a1 := HP.out.1 (by omega); simp only [beq_iff_eq, beq_eq_false_iff_ne] at h1 h2; exact h2 (a1 h1))
        | (exfalso; have a2 := HP.out.2 (by omega); simp only [beq_iff_eq, beq_eq_false_iff_ne] at h1 h2; exact a2 h1 h2)
        | (exfalso; omega)
        | (clear HP
           have h5 : (q != (i : Int)) = !(q == (i : Int)) := rfl
           rw [h2] at h5
           simp only [Bool.not_true, Bool.not_false] at h5
           go_wp2_with fail
           refine (awake_calls _).mono ?_
           rintro e w7 ⟨rfl, hb⟩
           have HB7 := Lib.hid (below_then HB4.out HB4.out.size hb)
           clear hb
           go_wp2_with fail
           go_ret
           exact ⟨rfl, HB7.out⟩)
  · go_enter Try.func6, Try.ntmps6
    go_wp2_with (first | ((with_reducible refine gate_store (t := 3) (p := 36) (v := .tmp 34) rfl ?_); go_must (refine store_wt (w0 := w) w.heap.size rfl rfl _ _ rfl i l u b rfl rfl rfl HO.out HU.out HB1.out ?_; intro w2 ho hb hg; have HC1 := Lib.hid (Kd.C_below HC.out hb); have HK := Lib.hid ho; have HB2 := Lib.hid hb; clear ho hb hg HO HB1)) | (at_builtin; go_must (refine append_Ws (w0 := w) w.heap.size rfl _ _ rfl _ [] l A l.length c rfl rfl ?aO ?aR ?aB ?aS ?aL ?_; (case aO => exact R_empty _ _ (w.alloc (.cells #[.int .i64 a, .int .i64 b] 33)) _ (w.heap.size + 1) (by simp) (below_alloc HB.out _).size); (case aR => exact Kd.C_alloc (Kd.C_alloc HC.out _) _); (case aB => exact below_alloc (below_alloc HB.out _) _); (case aS => exact (below_alloc (below_alloc HB.out _) _).size); (case aL => have := HL.out; simp only [List.length_nil, Nat.zero_add]; omega); intro v1 w1 ho hb hg; rw [List.nil_append] at ho; obtain ⟨g, cap, rfl, _, _, _⟩ := Kd.R_form ho (by omega); have c9 := blk_cell (blk_grown (blk_alloc (blk_new w (.cells #[.int .i64 a, .int .i64 b] 33)) (.cells #[] 23)) hg (by go_must (simp [Value.ownBlock, Act.eval]))) 1; have c8 : w1.cell? ⟨w.heap.size, 1, none⟩ = some (.int .i64 b) := c9; clear c9; have HO := Lib.hid ho; have HB1 := Lib.hid hb; clear ho hb hg)))
    refine (choose_calls A c l x 1 _ HC1.out).mono ?_
    rintro e w3 ⟨rfl, hb⟩
    obtain ⟨e9, e8, hC⟩ := Kd.R_reads' (Kd.R_below HK.out hb)
    clear e9 e8
    have T := fun r => choose_calls (some ⟨g, 0, none⟩) cap (l.set i ⟨u.id, b⟩) x r _ hC
    rw [List.length_set] at T
    have T := Lib.hid T
    have HB3 := Lib.hid (below_then HB2.out HB2.out.size hb)
    have HC3 := Lib.hid (Kd.C_below HC1.out hb)
    have HK3 := Lib.hid (Kd.R_below HK.out hb)
    clear hb hC HC HC1 HK HB2 c8 HL
    go_wp2_with fail
    refine (T.out 1).mono ?_
    rintro e w4 ⟨rfl, hb⟩
    have HB4 := Lib.hid (below_then HB3.out HB3.out.size hb)
    have HP := Lib.hid (grows (i := i) (nw := b) HU.out (pick_best x 1 l) (pick_best x 1 (l.set i ⟨u.id, b⟩)))
    obtain ⟨ad, y, hy, hA, c0, c1⟩ := at_W (Kd.C_below HC3.out hb) i hil
    rw [HU.out] at hy
    obtain rfl := Option.some.inj hy
    subst hA
    obtain ⟨e9, e8, hC⟩ := Kd.R_reads' (Kd.R_below HK3.out hb)
    clear e9 e8 hy
    obtain ⟨ad2, y, hy, hA, c2, c3⟩ := at_W hC i (by rw [List.length_set]; exact hil)
    have hy2 : (l.set i ⟨u.id, b⟩)[i]? = some ⟨u.id, b⟩ := by simp [hil]
    rw [hy2] at hy
    obtain rfl := Option.some.inj hy
    injection hA with hA
    subst hA
    rw [add_plain] at c2 c3
    clear hb hC HB3 T HU HC3 HK3 hy hy2
    generalize pick x 1 l = p at *
    generalize pick x 1 (l.set i ⟨u.id, b⟩) = q at *
    obtain ⟨wa, hwa⟩ : ∃ z, weight u = z := ⟨_, rfl⟩
    obtain ⟨wb, hwb⟩ : ∃ z, weight ⟨u.id, b⟩ = z := ⟨_, rfl⟩
    have T1 : Hid (∀ w, Calls Try.prog 21 #[.agg #[.int .i64 u.id, .int .i64 u.wt]] w fun e w' => e = .returned (.int .i64 wa) ∧ Below w.heap.size w w') := Lib.hid (fun w => by rw [← hwa]; exact weight_calls _ _ _)
    have T2 : Hid (∀ w, Calls Try.prog 21 #[.agg #[.int .i64 u.id, .int .i64 b]] w fun e w' => e = .returned (.int .i64 wb) ∧ Below w.heap.size w w') := Lib.hid (fun w => by rw [← hwb]; exact weight_calls _ _ _)
    rw [hwa, hwb] at HP
    clear hwa hwb
    go_wp2_with fail
    go_region_with (go_at_call 21; ((first | (with_reducible refine (T1.out _).mono ?_) | (with_reducible refine (T2.out _).mono ?_)); rintro e w5 ⟨rfl, hb⟩; obtain ⟨c0, c1⟩ := keep2 hb c0 c1; obtain ⟨c2, c3⟩ := keep2 hb c2 c3; have hB := Lib.hid (below_then (by first | exact HB4.out | exact below_drew HB4.out | exact pw_below_drewN HB4.out _) (by exact HB4.out.size) hb); clear hb HB4; have HB4 := hB; clear hB))
    all_goals
      clear c0 c1 c2 c3 T1 T2
      cases h1 : (p == (i : Int)) <;> cases h2 : (q == (i : Int)) <;> by_cases h3 : wa ≤ wb <;> by_cases h4 : wb ≤ wa
      all_goals first
        | (exfalso; have a1 := HP.out.1 (by omega); have a2 := HP.out.2 (by omega); simp only [beq_iff_eq, beq_eq_false_iff_ne] at h1 h2; first | (exact h2 (a1 h1)) | (exact a2 h1 h2))
        | (exfalso; have a1 := HP.out.1 (by omega); simp only [beq_iff_eq, beq_eq_false_iff_ne] at h1 h2; exact h2 (a1 h1))
        | (exfalso; have a2 := HP.out.2 (by omega); simp only [beq_iff_eq, beq_eq_false_iff_ne] at h1 h2; exact a2 h1 h2)
        | (exfalso; omega)
        | (clear HP
           have h5 : (q != (i : Int)) = !(q == (i : Int)) := rfl
           rw [h2] at h5
           simp only [Bool.not_true, Bool.not_false] at h5
           go_wp2_with fail
           refine (awake_calls _).mono ?_
           rintro e w7 ⟨rfl, hb⟩
           have HB7 := Lib.hid (below_then HB4.out HB4.out.size hb)
           clear hb
           go_wp2_with fail
           go_ret
           exact ⟨rfl, HB7.out⟩)
end Go.Proofs.Ytkppgljndnljhaa.StrM
