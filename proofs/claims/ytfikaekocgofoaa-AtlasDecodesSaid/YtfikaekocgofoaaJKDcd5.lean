import Derived.Test.YtfikaekocgofoaaJKDcd4
import Derived.Laws.BytesArg
import Derived.Test.YtfikaekocgofoaaRows
import Derived.WalkKit
import Derived.ProofKit
import Derived.OpenShut
import Derived.ShutString
import Derived.ChangeOld
import Derived.Below
import Derived.SizedLaws
import Derived.JoinedCond
import Derived.Deep.CondSized
/- Merged texts, one behind the other: AtO, LcA, LdA, RowAtlasDecodes. -/
/- What the rows ask for: maps, changes, pools. -/
namespace Go.Proofs.Ytfikaekocgofoaa.AtO
open Go Go.RowKit Go.Proofs.YtfikaekocgofoaaW.PrintWords Opns PAll KW AtA Grp AtB McW AtS LaA UpsO
structure Pl where
  f0 : Int
  f1 : Int
  f2 : Int
  f3 : Int
structure Mp where
  f0 : Int
  f1 : Pl
  f2 : List S37
end Go.Proofs.Ytfikaekocgofoaa.AtO
/- Maps' and changes' bytes, and that they are read back. -/
set_option linter.unusedSimpArgs false
namespace Go.Proofs.Ytfikaekocgofoaa.LcA
open Go Go.RowKit Go.Proofs.YtfikaekocgofoaaW.PrintWords Go.Proofs.YtfikaekocgofoaaW.PrintLast Go.Proofs.YtfikaekocgofoaaW.PrintMore Mem PAll KW AtA AtB Sl Dsc MayP ApP Fnd PlF Roo Awk McW ApY ApZ ApW AtK AtV AtX AtD AtC AtP Ins AtQ AtR AtS AtF AtW AtE WireP UvW Put Puo EnP Enc RdW RdL Get Dec LaA AtO
open CrP hiding Od
theorem uv_byte : ∀ (k n : Nat), n < k → ∀ x ∈ uv n, 0 ≤ x ∧ x < 256 := by
  intro k
  induction k with
  | zero => intro n h; omega
  | succ k ih =>
    intro n h x hx
    by_cases h1 : n < 128
    · rw [uv_lt h1] at hx
      have := List.mem_singleton.1 hx
      omega
    · rw [uv_ge (by omega)] at hx
      rcases List.mem_cons.1 hx with rfl | hx
      · omega
      · exact ih (n / 128) (by omega) x hx
theorem uvs_byte (l : List Int) : ∀ x ∈ uvs l, 0 ≤ x ∧ x < 256 := by
  intro x hx
  obtain ⟨n, _, hx⟩ := List.mem_flatMap.1 hx
  exact uv_byte _ _ (Nat.lt_succ_self _) x hx
/-- Decode's answer in one shape. -/
theorem decM_uni {xs : List Int} {w w' : World} {e : Ending} (h : DecM xs w w' e) : Below w.heap.size w w' ∧ ∃ (ep k m p d : Int) (l : List Od) (A : Option Addr) (c : Nat) (pe : Int), e = .returned (.tuple #[.agg (boxM ep k m p d A c l), .int .i64 pe]) ∧ l.length ≤ c ∧ kO.C w' A l.length l ∧ ((pe = 0 ∧ mayB ep k m p d l = true ∧ encL ep k m p d l = xs) ∨ (pe = 5 ∧ boxM ep k m p d A c l = zM ∧ l = [] ∧ ep = 0 ∧ k = 0 ∧ m = 0 ∧ p = 0 ∧ d = 0 ∧ ∀ (ep k m p d : Int) (l : List Od), mayB ep k m p d l = true → encL ep k m p d l ≠ xs)) := by
  obtain ⟨hb, ⟨ep, k, m, p, d, l, A, c, h1, h2, h3, h4, h5⟩ | ⟨h1, h2⟩⟩ := h
  · exact ⟨hb, ep, k, m, p, d, l, A, c, 0, h1, h2, h3, .inl ⟨rfl, h4, h5⟩⟩
  · refine ⟨hb, 0, 0, 0, 0, 0, [], none, 0, 5, h1, Nat.le_refl _, ?_, .inr ⟨rfl, rfl, rfl, rfl, rfl, rfl, rfl, rfl, h2⟩⟩
    have hn := Kd.R_reads' (Kd.R_nil kO 37 w' 0 (fun _ => True))
    exact hn.2.2
theorem decC_uni {xs : List Int} {w w' : World} {e : Ending} (h : DecC xs w w' e) : Below w.heap.size w w' ∧ ∃ (kd : Int) (o : Od) (pe : Int), e = .returned (.tuple #[.agg (chA kd o), .int .i64 pe]) ∧ ((pe = 0 ∧ mayC kd o = true ∧ encC kd o = xs) ∨ (pe = 5 ∧ kd = 0 ∧ o = ⟨0, false, false, 0, 0, 0, 0, 0⟩ ∧ ∀ (kd : Int) (o : Od), mayC kd o = true → encC kd o ≠ xs)) := by
  obtain ⟨hb, ⟨kd, o, h1, h2, h3⟩ | ⟨h1, h2⟩⟩ := h
  · exact ⟨hb, kd, o, 0, h1, .inl ⟨rfl, h2, h3⟩⟩
  · exact ⟨hb, 0, ⟨0, false, false, 0, 0, 0, 0, 0⟩, 5, h1, .inr ⟨rfl, rfl, rfl, h2⟩⟩
end Go.Proofs.Ytfikaekocgofoaa.LcA
/- Which map, or change, any bytes are: both answers alike. -/
set_option linter.unusedSimpArgs false
namespace Go.Proofs.Ytfikaekocgofoaa.LdA
open Go Go.RowKit Go.Proofs.YtfikaekocgofoaaW.PrintWords Go.Proofs.YtfikaekocgofoaaW.PrintLast Go.Proofs.YtfikaekocgofoaaW.PrintMore Mem PAll KW AtA AtB Sl Dsc MayP ApP Fnd PlF Roo Awk McW ApY ApZ ApW AtK AtV AtX AtD AtC AtP Ins AtQ AtR AtS AtF AtW AtE WireP UvW Put Puo EnP Enc RdW RdL Get Dec Rde LaA AtO LcA
open CrP hiding Od
/-- One map's part of an answer. -/
def OneM (xs : List Int) (ep k m p d : Int) (l : List Od) (pe : Int) : Prop := (pe = 0 ∧ mayB ep k m p d l = true ∧ encL ep k m p d l = xs) ∨ (pe = 5 ∧ l = [] ∧ ep = 0 ∧ k = 0 ∧ m = 0 ∧ p = 0 ∧ d = 0 ∧ ∀ (ep k m p d : Int) (l : List Od), mayB ep k m p d l = true → encL ep k m p d l ≠ xs)
def OneC (xs : List Int) (kd : Int) (o : Od) (pe : Int) : Prop := (pe = 0 ∧ mayC kd o = true ∧ encC kd o = xs) ∨ (pe = 5 ∧ kd = 0 ∧ o = ⟨0, false, false, 0, 0, 0, 0, 0⟩ ∧ ∀ (kd : Int) (o : Od), mayC kd o = true → encC kd o ≠ xs)
theorem decM_one {xs : List Int} {w w' : World} {e : Ending} (h : DecM xs w w' e) : Below w.heap.size w w' ∧ ∃ (ep k m p d : Int) (l : List Od) (A : Option Addr) (c : Nat) (pe : Int), e = .returned (.tuple #[.agg (boxM ep k m p d A c l), .int .i64 pe]) ∧ l.length ≤ c ∧ kO.C w' A l.length l ∧ OneM xs ep k m p d l pe := by
  obtain ⟨hb, ep, k, m, p, d, l, A, c, pe, h1, h2, h3, h4⟩ := decM_uni h
  refine ⟨hb, ep, k, m, p, d, l, A, c, pe, h1, h2, h3, ?_⟩
  rcases h4 with h4 | ⟨q1, _, q3⟩
  · exact .inl h4
  · exact .inr ⟨q1, q3⟩
theorem oneM_two {xs : List Int} {ep k m p d ep' k' m' p' d' pe pe' : Int} {l l' : List Od} (h : OneM xs ep k m p d l pe) (h' : OneM xs ep' k' m' p' d' l' pe') : pe' = pe ∧ sameB ep k m p d l ep' k' m' p' d' l' = true := by
  rcases h with ⟨a1, a2, a3⟩ | ⟨a1, a2, a3, a4, a5, a6, a7, a8⟩ <;> rcases h' with ⟨b1, b2, b3⟩ | ⟨b1, b2, b3, b4, b5, b6, b7, b8⟩
  · exact ⟨b1.trans a1.symm, (encL_inj a2 b2).1 (a3.trans b3.symm)⟩
  · exact absurd a3 (b8 _ _ _ _ _ _ a2)
  · exact absurd b3 (a8 _ _ _ _ _ _ b2)
  · subst a2; subst a3; subst a4; subst a5; subst a6; subst a7; subst b2; subst b3; subst b4; subst b5; subst b6; subst b7
    exact ⟨b1.trans a1.symm, same_self _ _ _ _ _ _⟩
theorem oneC_two {xs : List Int} {kd kd' pe pe' : Int} {o o' : Od} (h : OneC xs kd o pe) (h' : OneC xs kd' o' pe') : pe' = pe ∧ (kd == kd' && eqO o o') = true := by
  rw [Bool.and_eq_true, beq_iff_eq, eqO_iff']
  rcases h with ⟨a1, a2, a3⟩ | ⟨a1, a2, a3, a4⟩ <;> rcases h' with ⟨b1, b2, b3⟩ | ⟨b1, b2, b3, b4⟩
  · exact ⟨b1.trans a1.symm, (encC_inj a2 b2).1 (a3.trans b3.symm)⟩
  · exact absurd a3 (b4 _ _ a2)
  · exact absurd b3 (a4 _ _ b2)
  · exact ⟨b1.trans a1.symm, a2.trans b2.symm, a3.trans b3.symm⟩
set_option maxHeartbeats 16000000 in
set_option maxRecDepth 100000 in
theorem decodes_calls (A0 : Option Addr) (cz : Nat) (xs : List Int) (w : World) (hc : xs.length ≤ cz) (hx : BK.C w A0 xs.length xs) (hb : ∀ c ∈ xs, 0 ≤ c ∧ c < 256) (hl : xs.length ≤ 140737488355328) :
    Calls Try.prog 6 #[.slice A0 xs.length cz] w fun e w' => e = .returned (.bool true) ∧ Below w.heap.size w w' := by
  have HBY := Lib.hid hb
  have HL := Lib.hid hl
  have HC := Lib.hid hc
  have HX0 := Lib.hid hx
  have HB0 := Lib.hid (below_alloc (Below.refl w.heap.size w) (.cells #[] 5))
  have HO0 : Hid (BK.R 5 (w.alloc (.cells #[] 5)) w.heap.size (fun _ => True) (.slice (some ⟨w.heap.size, 0, none⟩) 0 0) []) := Lib.hid ⟨fun _ _ => trivial, OwnRow.lit w w.heap.size (ps := []) (inner := []) (Reps.none _ _) (Nat.le_refl _) (Nat.zero_le _)⟩
  clear hc hx hb hl
  go_enter Try.func6, Try.ntmps6
  go_wp2_with (at_builtin; go_must (refine Kd.R_append_rows BK (w0 := w) w.heap.size rfl _ _ 45 5 (.int .u8 0) 1 rfl Try.underlying45 info5 rfl (by decide) (by decide) _ [] xs A0 xs.length cz (fun _ => True) (fun _ => False) rfl rfl (by exact HO0.out) (by exact Kd.C_alloc HX0.out _) (fun y cs hk => hk) (fun _ hk => hk.elim) (fun _ _ => trivial) (by exact HB0.out) (by exact HB0.out.size) ?hl ?_; (case hl => have := HL.out; simp; omega)); intro v1 w1 ho hb hg hg2; rw [List.nil_append] at ho; have HB1 := Lib.hid hb; obtain ⟨A1, c1, rfl, hc1, hC1⟩ := Kd.R_reads ho; have HX1 := Lib.hid hC1; have HC1 := Lib.hid hc1; clear ho hb hg hg2 HO0 HB0 hc1 hC1)
  refine (adec_calls A1 c1 xs w1 HC1.out HX1.out HBY.out HL.out).mono ?_
  rintro e w2 hd
  obtain ⟨hb, ep, k, m, p, d, l, A, c, pe, rfl, hcl, hcc, hor⟩ := decM_one hd
  have HB2 := Lib.hid (below_then HB1.out HB1.out.size hb)
  have HCL := Lib.hid hcl
  have HRA2 := Lib.hid hcc
  have HOR := Lib.hid hor
  clear hcl hcc hor HX1 HC1
  unfold boxM
  clear hd hb HB1 
  have HB3 := Lib.hid (below_alloc HB2.out (.cells #[.int .i64 ep, .int .i64 k, .int .i64 m, .int .i64 p, .int .i64 d, .slice A l.length c] 28))
  have HMA3 : Hid ((w2.alloc (.cells #[.int .i64 ep, .int .i64 k, .int .i64 m, .int .i64 p, .int .i64 d, .slice A l.length c] 28)).heap[w2.heap.size]? = some (.cells #[.int .i64 ep, .int .i64 k, .int .i64 m, .int .i64 p, .int .i64 d, .slice A l.length c] 28 (0, 0))) := Lib.hid (blk_new _ _)
  have HRA3 := Lib.hid (Kd.C_alloc HRA2.out (.cells #[.int .i64 ep, .int .i64 k, .int .i64 m, .int .i64 p, .int .i64 d, .slice A l.length c] 28))
  obtain ⟨w3, hw⟩ : ∃ w', w' = w2.alloc (.cells #[.int .i64 ep, .int .i64 k, .int .i64 m, .int .i64 p, .int .i64 d, .slice A l.length c] 28) := ⟨_, rfl⟩
  obtain ⟨g3, hgg⟩ : ∃ g, g = w2.heap.size := ⟨_, rfl⟩
  have HW3 := Lib.hid hw
  have HG3 := Lib.hid hgg
  rw [← hw] at HB3 HMA3 HRA3
  rw [← hgg] at HMA3
  clear hw hgg HB2 HRA2
  go_wp2_with fail
  rw [← HW3.out, ← HG3.out]
  clear HW3 HG3
  refine (rdec_calls A0 cz xs w3 HC.out (Kd.C_below HX0.out HB3.out) HBY.out).mono ?_
  rintro e w4 hd
  obtain ⟨hb, ep', k', m', p', d', l', A', c', pe', rfl, hcl, hcc, hor⟩ := decM_one hd
  have HB4 := Lib.hid (below_then HB3.out HB3.out.size hb)
  have HMA4 := Lib.hid (blk_below HMA3.out hb)
  have HRA4 := Lib.hid (Kd.C_below HRA3.out hb)
  have HCL' := Lib.hid hcl
  have HRB4 := Lib.hid hcc
  have HOR' := Lib.hid hor
  clear hcl hcc hor
  unfold boxM
  clear hd hb HB3 HMA3 HRA3
  have HB5 := Lib.hid (below_alloc HB4.out (.cells #[.int .i64 ep', .int .i64 k', .int .i64 m', .int .i64 p', .int .i64 d', .slice A' l'.length c'] 28))
  have HMB5 : Hid ((w4.alloc (.cells #[.int .i64 ep', .int .i64 k', .int .i64 m', .int .i64 p', .int .i64 d', .slice A' l'.length c'] 28)).heap[w4.heap.size]? = some (.cells #[.int .i64 ep', .int .i64 k', .int .i64 m', .int .i64 p', .int .i64 d', .slice A' l'.length c'] 28 (0, 0))) := Lib.hid (blk_new _ _)
  have HMA5 := Lib.hid (blk_alloc HMA4.out (.cells #[.int .i64 ep', .int .i64 k', .int .i64 m', .int .i64 p', .int .i64 d', .slice A' l'.length c'] 28))
  have HRA5 := Lib.hid (Kd.C_alloc HRA4.out (.cells #[.int .i64 ep', .int .i64 k', .int .i64 m', .int .i64 p', .int .i64 d', .slice A' l'.length c'] 28))
  have HRB5 := Lib.hid (Kd.C_alloc HRB4.out (.cells #[.int .i64 ep', .int .i64 k', .int .i64 m', .int .i64 p', .int .i64 d', .slice A' l'.length c'] 28))
  obtain ⟨w5, hw⟩ : ∃ w', w' = w4.alloc (.cells #[.int .i64 ep', .int .i64 k', .int .i64 m', .int .i64 p', .int .i64 d', .slice A' l'.length c'] 28) := ⟨_, rfl⟩
  obtain ⟨g5, hgg⟩ : ∃ g, g = w4.heap.size := ⟨_, rfl⟩
  have HW5 := Lib.hid hw
  have HG5 := Lib.hid hgg
  rw [← hw] at HB5 HMA5 HMB5 HRA5 HRB5
  rw [← hgg] at HMB5
  clear hw hgg HB4 HMA4 HRA4 HRB4
  go_wp2_with fail
  rw [← HW5.out, ← HG5.out]
  clear HW5 HG5
  refine (adecc_calls A0 cz xs w5 HC.out (Kd.C_below HX0.out HB5.out) HBY.out HL.out).mono ?_
  rintro e w6 hd
  obtain ⟨hb, kd, o, qe, rfl, hor⟩ := decC_uni hd
  have HB6 := Lib.hid (below_then HB5.out HB5.out.size hb)
  have HMA6 := Lib.hid (blk_below HMA5.out hb)
  have HMB6 := Lib.hid (blk_below HMB5.out hb)
  have HRA6 := Lib.hid (Kd.C_below HRA5.out hb)
  have HRB6 := Lib.hid (Kd.C_below HRB5.out hb)
  have HOC : Hid (OneC xs kd o qe) := Lib.hid hor
  clear hor
  unfold chA
  clear hd hb HB5 HMA5 HMB5 HRA5 HRB5
  have HB7 := Lib.hid (below_alloc HB6.out (.cells #[.int .i64 kd, .int .i64 o.f0, .bool o.f1, .bool o.f2, .int .i64 o.f3, .int .i64 o.f4, .int .i64 o.f5, .int .i64 o.f6, .int .i64 o.f7] 39))
  have HCA7 : Hid ((w6.alloc (.cells #[.int .i64 kd, .int .i64 o.f0, .bool o.f1, .bool o.f2, .int .i64 o.f3, .int .i64 o.f4, .int .i64 o.f5, .int .i64 o.f6, .int .i64 o.f7] 39)).heap[w6.heap.size]? = some (.cells #[.int .i64 kd, .int .i64 o.f0, .bool o.f1, .bool o.f2, .int .i64 o.f3, .int .i64 o.f4, .int .i64 o.f5, .int .i64 o.f6, .int .i64 o.f7] 39 (0, 0))) := Lib.hid (blk_new _ _)
  have HMA7 := Lib.hid (blk_alloc HMA6.out (.cells #[.int .i64 kd, .int .i64 o.f0, .bool o.f1, .bool o.f2, .int .i64 o.f3, .int .i64 o.f4, .int .i64 o.f5, .int .i64 o.f6, .int .i64 o.f7] 39))
  have HMB7 := Lib.hid (blk_alloc HMB6.out (.cells #[.int .i64 kd, .int .i64 o.f0, .bool o.f1, .bool o.f2, .int .i64 o.f3, .int .i64 o.f4, .int .i64 o.f5, .int .i64 o.f6, .int .i64 o.f7] 39))
  have HRA7 := Lib.hid (Kd.C_alloc HRA6.out (.cells #[.int .i64 kd, .int .i64 o.f0, .bool o.f1, .bool o.f2, .int .i64 o.f3, .int .i64 o.f4, .int .i64 o.f5, .int .i64 o.f6, .int .i64 o.f7] 39))
  have HRB7 := Lib.hid (Kd.C_alloc HRB6.out (.cells #[.int .i64 kd, .int .i64 o.f0, .bool o.f1, .bool o.f2, .int .i64 o.f3, .int .i64 o.f4, .int .i64 o.f5, .int .i64 o.f6, .int .i64 o.f7] 39))
  obtain ⟨w7, hw⟩ : ∃ w', w' = w6.alloc (.cells #[.int .i64 kd, .int .i64 o.f0, .bool o.f1, .bool o.f2, .int .i64 o.f3, .int .i64 o.f4, .int .i64 o.f5, .int .i64 o.f6, .int .i64 o.f7] 39) := ⟨_, rfl⟩
  obtain ⟨g7, hgg⟩ : ∃ g, g = w6.heap.size := ⟨_, rfl⟩
  have HW7 := Lib.hid hw
  have HG7 := Lib.hid hgg
  rw [← hw] at HB7 HMA7 HMB7 HCA7 HRA7 HRB7
  rw [← hgg] at HCA7
  clear hw hgg HB6 HMA6 HMB6 HRA6 HRB6
  go_wp2_with fail
  rw [← HW7.out, ← HG7.out]
  clear HW7 HG7
  refine (rdecc_calls A0 cz xs w7 HC.out (Kd.C_below HX0.out HB7.out) HBY.out).mono ?_
  rintro e w8 hd
  obtain ⟨hb, kd', o', qe', rfl, hor⟩ := decC_uni hd
  have HB8 := Lib.hid (below_then HB7.out HB7.out.size hb)
  have HMA8 := Lib.hid (blk_below HMA7.out hb)
  have HMB8 := Lib.hid (blk_below HMB7.out hb)
  have HCA8 := Lib.hid (blk_below HCA7.out hb)
  have HRA8 := Lib.hid (Kd.C_below HRA7.out hb)
  have HRB8 := Lib.hid (Kd.C_below HRB7.out hb)
  have HOC' : Hid (OneC xs kd' o' qe') := Lib.hid hor
  clear hor
  unfold chA
  clear hd hb HB7 HMA7 HMB7 HCA7 HRA7 HRB7
  have HB9 := Lib.hid (below_alloc HB8.out (.cells #[.int .i64 kd', .int .i64 o'.f0, .bool o'.f1, .bool o'.f2, .int .i64 o'.f3, .int .i64 o'.f4, .int .i64 o'.f5, .int .i64 o'.f6, .int .i64 o'.f7] 39))
  have HCB9 : Hid ((w8.alloc (.cells #[.int .i64 kd', .int .i64 o'.f0, .bool o'.f1, .bool o'.f2, .int .i64 o'.f3, .int .i64 o'.f4, .int .i64 o'.f5, .int .i64 o'.f6, .int .i64 o'.f7] 39)).heap[w8.heap.size]? = some (.cells #[.int .i64 kd', .int .i64 o'.f0, .bool o'.f1, .bool o'.f2, .int .i64 o'.f3, .int .i64 o'.f4, .int .i64 o'.f5, .int .i64 o'.f6, .int .i64 o'.f7] 39 (0, 0))) := Lib.hid (blk_new _ _)
  have HMA9 := Lib.hid (blk_alloc HMA8.out (.cells #[.int .i64 kd', .int .i64 o'.f0, .bool o'.f1, .bool o'.f2, .int .i64 o'.f3, .int .i64 o'.f4, .int .i64 o'.f5, .int .i64 o'.f6, .int .i64 o'.f7] 39))
  have HMB9 := Lib.hid (blk_alloc HMB8.out (.cells #[.int .i64 kd', .int .i64 o'.f0, .bool o'.f1, .bool o'.f2, .int .i64 o'.f3, .int .i64 o'.f4, .int .i64 o'.f5, .int .i64 o'.f6, .int .i64 o'.f7] 39))
  have HCA9 := Lib.hid (blk_alloc HCA8.out (.cells #[.int .i64 kd', .int .i64 o'.f0, .bool o'.f1, .bool o'.f2, .int .i64 o'.f3, .int .i64 o'.f4, .int .i64 o'.f5, .int .i64 o'.f6, .int .i64 o'.f7] 39))
  have HRA9 := Lib.hid (Kd.C_alloc HRA8.out (.cells #[.int .i64 kd', .int .i64 o'.f0, .bool o'.f1, .bool o'.f2, .int .i64 o'.f3, .int .i64 o'.f4, .int .i64 o'.f5, .int .i64 o'.f6, .int .i64 o'.f7] 39))
  have HRB9 := Lib.hid (Kd.C_alloc HRB8.out (.cells #[.int .i64 kd', .int .i64 o'.f0, .bool o'.f1, .bool o'.f2, .int .i64 o'.f3, .int .i64 o'.f4, .int .i64 o'.f5, .int .i64 o'.f6, .int .i64 o'.f7] 39))
  obtain ⟨w9, hw⟩ : ∃ w', w' = w8.alloc (.cells #[.int .i64 kd', .int .i64 o'.f0, .bool o'.f1, .bool o'.f2, .int .i64 o'.f3, .int .i64 o'.f4, .int .i64 o'.f5, .int .i64 o'.f6, .int .i64 o'.f7] 39) := ⟨_, rfl⟩
  obtain ⟨g9, hgg⟩ : ∃ g, g = w8.heap.size := ⟨_, rfl⟩
  have HW9 := Lib.hid hw
  have HG9 := Lib.hid hgg
  rw [← hw] at HB9 HMA9 HMB9 HCA9 HCB9 HRA9 HRB9
  rw [← hgg] at HCB9
  clear hw hgg HB8 HMA8 HMB8 HCA8 HRA8 HRB8
  obtain ⟨hpe, hsm⟩ := oneM_two HOR.out HOR'.out
  obtain ⟨hqe, hcm⟩ := oneC_two HOC.out HOC'.out
  subst hpe
  subst hqe
  have m0 := blk_cell HMA9.out 0
  have n0 := blk_cell HMB9.out 0
  have m1 := blk_cell HMA9.out 1
  have n1 := blk_cell HMB9.out 1
  have m2 := blk_cell HMA9.out 2
  have n2 := blk_cell HMB9.out 2
  have m3 := blk_cell HMA9.out 3
  have n3 := blk_cell HMB9.out 3
  have m4 := blk_cell HMA9.out 4
  have n4 := blk_cell HMB9.out 4
  have m5 := blk_cell HMA9.out 5
  have n5 := blk_cell HMB9.out 5
  rw [HW9.out] at m0 m1 m2 m3 m4 m5 n0 n1 n2 n3 n4 n5
  have T := Lib.hid (rsame_calls ep k m p d A c l ep' k' m' p' d' A' c' l' w9 HRA9.out HCL.out HRB9.out HCL'.out)
  rw [hsm] at T
  unfold boxM at T
  clear hsm
  have hE := eql_C kd o kd' o'
  rw [hcm] at hE
  clear hcm
  go_wp2_with fail
  rw [← HW9.out, ← HG9.out]
  refine T.out.mono ?_
  rintro e w10 ⟨rfl, hb⟩
  have HBA := Lib.hid (below_then HB9.out HB9.out.size hb)
  have HCA10 := Lib.hid (blk_below HCA9.out hb)
  have HCB10 := Lib.hid (blk_below HCB9.out hb)
  clear hb T m0 m1 m2 m3 m4 m5 n0 n1 n2 n3 n4 n5
  have m0 := blk_cell HCA10.out 0
  have n0 := blk_cell HCB10.out 0
  have m1 := blk_cell HCA10.out 1
  have n1 := blk_cell HCB10.out 1
  have m2 := blk_cell HCA10.out 2
  have n2 := blk_cell HCB10.out 2
  have m3 := blk_cell HCA10.out 3
  have n3 := blk_cell HCB10.out 3
  have m4 := blk_cell HCA10.out 4
  have n4 := blk_cell HCB10.out 4
  have m5 := blk_cell HCA10.out 5
  have n5 := blk_cell HCB10.out 5
  have m6 := blk_cell HCA10.out 6
  have n6 := blk_cell HCB10.out 6
  have m7 := blk_cell HCA10.out 7
  have n7 := blk_cell HCB10.out 7
  have m8 := blk_cell HCA10.out 8
  have n8 := blk_cell HCB10.out 8
  go_wp2_with fail
  refine (awake13_calls _).mono ?_
  rintro e wz ⟨rfl, hb⟩
  have HBZ := Lib.hid (below_then HBA.out HBA.out.size hb)
  clear hb
  go_wp2_with fail
  go_ret
  exact ⟨rfl, HBZ.out⟩
theorem walkDecodes (A : Option Addr) (c : Nat) (x : List Int) (w : World) (hl : x.length ≤ c) (hc : BK.C w A x.length x) (g : (∀ y ∈ x, (Lit.int .u8 y).wf = true) ∧ x.length * 1 ≤ reachBytes) :
    Calls Try.prog 6 #[.slice A x.length c] w fun e w' => e = .returned (.bool true) ∧ Below w.heap.size w w' := by
  refine decodes_calls A c x w hl hc (fun y hy => ?_) ?_
  · have h := g.1 y hy
    simp only [Lit.wf, Bool.and_eq_true, decide_eq_true_eq] at h
    have e1 : IntKind.u8.min = 0 := by decide
    have e2 : IntKind.u8.max = 255 := by decide
    rw [e1, e2] at h
    omega
  · have h := g.2
    have e : reachBytes = 140737488351232 := rfl
    rw [e] at h
    omega
theorem opens_bytes : Opns.Opens 45 (Kd.slice 5 (Kd.int .u8)) (fun xs => (∀ x ∈ xs, (Lit.int .u8 x).wf = true) ∧ xs.length * 1 ≤ reachBytes) (fun xs => Opns.lbulk (fun _ => 1) xs + 1) :=
  Opns.opens_slice Try.underlying45 (by kernel_rfl) (by kernel_rfl) (Opns.opens_int Try.underlying5)
end Go.Proofs.Ytfikaekocgofoaa.LdA
/- It is proved that mooringlaw13.AtlasDecodes returns true for every slice of bytes: both answers tell alike which map, or change, they are, or that they are none. No condition. -/
namespace Go.Proofs.Ytfikaekocgofoaa.atlasDecodes
open Go.ChangeShapes Go.WideShapes Go.ChangeAt Go.RowKit Go.Proofs.Ytfikaekocgofoaa.Opns
open Go.ChangeMaps (open_string shut_string)
set_option linter.unusedVariables false
theorem own : ownKnob Try.prog.godebug = none := by kernel_rfl
theorem laidOut : laidOutB Try.prog = true := by kernel_rfl
set_option maxRecDepth 100000 in
theorem lifted (os : Os) (started : os.Started) (H : Type) (enc : TypeId × Value → H) :
    ReturnsInHanded {} Try.checked os 6 .any (Rows.atlasDecodesSpec.pre6 enc Try.prog Try.f6 Rows.atlasDecodesRow.domain false) (Rows.atlasDecodesSpec.post enc Try.prog Try.f6 false true false false) := by
  refine returnsInHanded_of_change_sized (C := Try.checked) own started (by kernel_rfl) Try.func6
    (ChangeSpec.witness6 (enc := enc) (C := Try.checked) false ⟨#[], #[.slice none 0 0], []⟩ 8 (by kernel_rfl) (by kernel_rfl) (by kernel_rfl) (by kernel_rfl)) ?_
  intro W base args ds gs before hval0 hW hcnd hsz0 _
  have hsz : (DataW.weightsEach Try.prog (Try.f6.params.toList ++ Rows.atlasDecodesSpec.plain.varTypes Try.prog) (ds ++ gs)).all (· ≤ reachBytes) = true := hsz0
  have hval : ∀ (j : Nat) t v, Try.f6.params[j]? = some t → args[j]? = some v → Value.okWide Try.prog W .any base t v := hval0
  have hW' := hW
  obtain ⟨p, q, hA0, hV, rfl, hfz, hnd⟩ := hW
  have hA : DataW.TrodAll enc Try.prog W 0 (fun _ => true) true Try.f6.params.toList args.toList ds p := hA0
  rw [Try.params6] at hA hval hsz
  obtain ⟨v0, vs0, d0, ds0, p0, q0, hargs, rfl, rfl, h0, r0⟩ := trodAll_cons hA
  obtain ⟨rfl, rfl, rfl⟩ := trodAll_nil r0
  obtain rfl : args = #[v0] := by cases args; simp_all
  obtain ⟨rfl, rfl⟩ := trodVars_none hV
  have m0 := weigh (j := 0) (t := 45) hsz rfl rfl
  have k0 := h0
  have lt0 : ∀ x ∈ p0, x.block < W.heap.size := by obtain ⟨m, hm⟩ := k0; exact DataW.trod_lt m _ _ _ hm
  obtain ⟨A0, len0, cap0, rfl⟩ := okWide_slice Try.underlying45 (hval 0 45 v0 rfl rfl)
  obtain ⟨x0, rfl, l0, c0, g0, b0⟩ := arg_slice LdA.opens_bytes h0 m0
  clear hA0 hval0 hsz0 hsz
  refine (LdA.walkDecodes A0 cap0 x0 W l0 c0 g0).mono fun e W' ⟨he, bel⟩ => ?_
  subst he
  exact ⟨_, rfl, _, _, _, [], _, [], hW', trodAll_mk1 (shut_bool Try.underlying4 _), (trodAll_cons_mk (Below.trod laidOut (by kernel_rfl) (of_decide_eq_true (by kernel_rfl)) k0 bel lt0) trodAll_mk0), rfl, bel.frame _, fun h => by cases h⟩
theorem over : Rows.atlasDecodesRow.holds Try.pinned (OpenSpec.ofChange Rows.atlasDecodesSpec) :=
  OpenClaim.holds_of_wide 6 Try.f6 rfl rfl rfl rfl rfl rfl rfl ⟨rfl, rfl, rfl, rfl, rfl⟩ rfl rfl rfl rfl rfl (by kernel_rfl) Try.func6 (by kernel_rfl)
    (of_decide_eq_true (by kernel_rfl)) (by unfold Func.isWrapper; first | (rw [if_pos (by decide +kernel)]; kernel_rfl) | (rw [if_neg (by decide +kernel)]; exact ⟨rfl, rfl⟩))
    (fun os started H enc _ => lifted os started H enc)
theorem proved : Rows.AtlasDecodesSaid := over
#print axioms proved
end Go.Proofs.Ytfikaekocgofoaa.atlasDecodes
