import Derived.Test.YtdogkhbfpbdfpaaWireQ
import Derived.Deep.RegionLaw
/- One thing read in both. -/
namespace Go.Proofs.Ytdogkhbfpbdfpaa.WireY
open Go.RowKit Go.Proofs.YtdogkhbfpbdfpaaW.PrintWords Go.Proofs.YtdogkhbfpbdfpaaW.PrintMore Mem WireP WireW WireV WireR WireS WireT WireU WireX WireQ
theorem IsRd.grownO {w w1 : World} {base p g : Nat} {xs : List Int} {a : Nat} {e : Int} {cells : Array Value} (h : IsRd w base p xs a e) (hg : w.grownBy w1 (some g)) (hb : w.heap[g]? = some (.cells cells 61 (0, 0))) (hne : p ≠ g) : IsRd w1 base p xs a e := by
  obtain ⟨A, c, h1, h2, h3, h4⟩ := h
  exact ⟨A, c, Kd.R_mono (Kd.R_grown (Kd.R_types h1 hb (by intro q hq; rcases List.mem_cons.1 hq with rfl | hq <;> first | decide | exact (List.not_mem_nil hq).elim)) hg (fun k hk => by simp; exact hk.2)) (fun k hk => hk.1), blk_grown h2 hg (by simp; exact hne), h3, h4⟩
/-- Both readers, at one place. -/
structure Both (w0 w : World) (p g : Nat) (xs : List Int) (a : Nat) (e : Int) : Prop where
  rd : IsRd w w0.heap.size p xs a e
  rf : IsS61 w0 w g xs a e
  ne : p ≠ g
  be : Below w0.heap.size w0 w
theorem Both.grown {w0 w w1 : World} {p g : Nat} {xs : List Int} {a : Nat} {e : Int} (h : Both w0 w p g xs a e) (hb : Below w.heap.size w w1) : Both w0 w1 p g xs a e :=
  ⟨h.rd.grown hb, h.rf.below hb, h.ne, below_then h.be h.be.size hb⟩
/-- Behind the program's read: the document's reader is as it was. -/
structure Half (w0 w : World) (p g : Nat) (xs : List Int) (a : Nat) (e : Int) (a' : Nat) (e' : Int) : Prop where
  rd : IsRd w w0.heap.size p xs a' e'
  rf : IsS61 w0 w g xs a e
  ne : p ≠ g
  be : Below w0.heap.size w0 w
theorem Half.grown {w0 w w1 : World} {p g : Nat} {xs : List Int} {a a' : Nat} {e e' : Int} (h : Half w0 w p g xs a e a' e') (hb : Below w.heap.size w w1) : Half w0 w1 p g xs a e a' e' :=
  ⟨h.rd.grown hb, h.rf.below hb, h.ne, below_then h.be h.be.size hb⟩
theorem Both.prog {w0 w w1 : World} {p g : Nat} {xs : List Int} {a a' : Nat} {e e' : Int} (h : Both w0 w p g xs a e) (hr : IsRd w1 w0.heap.size p xs a' e') (hg : w.grownBy w1 (some p)) : Half w0 w1 p g xs a e a' e' :=
  ⟨hr, h.rf.grown hg (by simp; exact fun x => h.ne x.symm), h.ne, h.be.grown hg h.be.size (fun k hk => by injection hk with hk; obtain ⟨_, _, _, _, hh, _⟩ := h.rd; omega)⟩
theorem Half.refd {w0 w w1 : World} {p g : Nat} {xs : List Int} {a a' : Nat} {e e' : Int} (h : Half w0 w p g xs a e a' e') (hr : IsS61 w0 w1 g xs a' e') (hb : Below w0.heap.size w0 w1) (hg : w.grownBy w1 (some g)) : Both w0 w1 p g xs a' e' := by
  refine ⟨?_, hr, h.ne, hb⟩
  obtain ⟨A, c, h1, _⟩ := h.rf
  exact IsRd.grownO h.rd hg h1 h.ne
theorem left_quiet (base p : Nat) (xs : List Int) (a : Nat) (e : Int) (w : World) (h : IsRd w base p xs a e) :
    Calls Try.prog 26 #[.pointer (some ⟨p, 0, none⟩)] w fun r w' => r = .returned (.int .i64 ((xs.length - a : Nat) : Int)) ∧ ∃ m, w' = w.drewN m := by
  obtain ⟨A, c, _, _, c0, c1, c2, cf⟩ := h.cells
  have ha := h.le
  have hs := h.small
  obtain ⟨z, hz⟩ : ∃ z : Int, z = ((xs.length - a : Nat) : Int) := ⟨_, rfl⟩
  have e1 : wrap64 z = z := by unfold wrap64; omega
  have e2 : ((xs.length : Int) - a) = z := by omega
  rw [← hz]
  clear h hz ha hs
  go_enter Try.func26, Try.ntmps26
  go_wp2_with fail
  go_quiet (fail)
  go_wp2_with fail
  go_ret
  exact ⟨congrArg (fun y => Ending.returned (Value.int .i64 y)) e1, _, rfl⟩
theorem done_quiet (base p : Nat) (xs : List Int) (a : Nat) (e : Int) (w : World) (h : IsRd w base p xs a e) :
    Calls Try.prog 34 #[.pointer (some ⟨p, 0, none⟩)] w fun r w' => r = .returned (.int .i64 (if e = 0 then (if a < xs.length then 5 else 0) else e)) ∧ ∃ m, w' = w.drewN m := by
  have H := Lib.hid h
  have ha := h.le
  clear h
  by_cases he : e = 0
  · subst he
    rw [if_pos rfl]
    by_cases hl : a < xs.length
    · rw [if_pos hl]
      have h1 : decide ((0 : Int) < ((xs.length - a : Nat) : Int)) = true := decide_eq_true (by omega)
      obtain ⟨z, hz⟩ : ∃ z : Int, z = ((xs.length - a : Nat) : Int) := ⟨_, rfl⟩
      rw [← hz] at h1
      have HZ := Lib.hid hz
      clear hz hl ha
      go_enter Try.func34, Try.ntmps34
      go_wp2_with fail
      refine (err_calls base p xs a 0 w H.out).mono ?_
      rintro r w1 ⟨rfl, rfl⟩
      go_wp2_with fail
      refine (left_quiet base p xs a 0 w H.out).mono ?_
      rw [← HZ.out]
      rintro r w1 ⟨rfl, m, rfl⟩
      go_wp2_with fail
      go_ret
      exact ⟨rfl, m, rfl⟩
    · rw [if_neg hl]
      have hz : xs.length - a = 0 := by omega
      have HZ := Lib.hid hz
      clear hz hl ha
      go_enter Try.func34, Try.ntmps34
      go_wp2_with fail
      refine (err_calls base p xs a 0 w H.out).mono ?_
      rintro r w1 ⟨rfl, rfl⟩
      go_wp2_with fail
      refine (left_quiet base p xs a 0 w H.out).mono ?_
      rw [HZ.out]
      rintro r w1 ⟨rfl, m, rfl⟩
      go_wp2_with fail
      go_ret
      exact ⟨rfl, m, rfl⟩
  · have h1 : (e == 0) = false := beq_eq_false_iff_ne.2 he
    have h2 : (e != 0) = true := by rw [bne_iff_ne]; exact he
    rw [if_neg he]
    clear he ha
    go_enter Try.func34, Try.ntmps34
    go_wp2_with fail
    refine (err_calls base p xs a e w H.out).mono ?_
    rintro r w1 ⟨rfl, rfl⟩
    go_wp2_with fail
    go_ret
    exact ⟨rfl, 0, rfl⟩
/-- What the last test asks. -/
structure Asks (w : World) (p g : Nat) (n z d e : Int) (A : Option Addr) (c : Nat) (xs : List Int) : Prop where
  te : ∀ m, Calls Try.prog 27 #[.pointer (some ⟨p, 0, none⟩)] (w.drewN m) fun r w' => r = .returned (.int .i64 e) ∧ ∃ k, w' = (w.drewN m).drewN k
  tl : ∀ m, Calls Try.prog 26 #[.pointer (some ⟨p, 0, none⟩)] (w.drewN m) fun r w' => r = .returned (.int .i64 z) ∧ ∃ k, w' = (w.drewN m).drewN k
  td : ∀ m, Calls Try.prog 34 #[.pointer (some ⟨p, 0, none⟩)] (w.drewN m) fun r w' => r = .returned (.int .i64 d) ∧ ∃ k, w' = (w.drewN m).drewN k
  rd : ∀ m, Calls Try.prog 59 #[.pointer (some ⟨g, 0, none⟩)] (w.drewN m) fun r w' => r = .returned (.int .i64 d) ∧ ∃ k, w' = (w.drewN m).drewN k
  c0 : w.cell? ⟨g, 0, none⟩ = some (.slice A xs.length c)
  c1 : w.cell? ⟨g, 1, none⟩ = some (.int .i64 n)
  c2 : w.cell? ⟨g, 2, none⟩ = some (.int .i64 e)
  e1 : wrap64 z = z
  e2 : (xs.length : Int) - n = z
theorem Both.asks {w0 w : World} {p g : Nat} {xs : List Int} {a : Nat} {e : Int} (h : Both w0 w p g xs a e) : ∃ z d A c, Asks w p g a z d e A c xs := by
  have dr : ∀ m, Both w0 (w.drewN m) p g xs a e := fun m => h.grown (pw_below_drewN (Below.refl _ _) _)
  obtain ⟨A, c, hb, _, _⟩ := h.rf
  have h1 := h.rd.le
  have h2 := h.rd.small
  exact ⟨((xs.length - a : Nat) : Int), _, A, c, fun m => (err_calls _ p xs a e _ (dr m).rd).mono (fun r w' ⟨k1, k2⟩ => ⟨k1, 0, k2.symm⟩), fun m => left_quiet _ p xs a e _ (dr m).rd, fun m => done_quiet _ p xs a e _ (dr m).rd,
    fun m => refDone g xs a e w0 _ (dr m).rf, cellS61_0 hb, cellS61_1 hb, cellS61_2 hb, by unfold wrap64; omega, by omega⟩
theorem rdF_range {xs : List Int} {a k : Nat} {e n e' : Int} {a' : Nat} (h : RdF xs a e k n a' e') (hx : ∀ c ∈ xs, 0 ≤ c ∧ c < 256) (hk : k ≤ 8) : IntKind.u64.wrap n = n := by
  have key : 0 ≤ n ∧ n < 18446744073709551616 := by
    rcases h with ⟨_, h, _⟩ | ⟨_, _, h, _⟩ | ⟨_, _, h, _⟩
    · omega
    · omega
    · have h1 := lev_range ((xs.drop a).take k) (fun c hc => hx c (List.mem_of_mem_drop (List.mem_of_mem_take hc)))
      have h2 : (256 ^ ((xs.drop a).take k).length : Nat) ≤ 18446744073709551616 := Nat.le_trans (Nat.pow_le_pow_right (by decide) (Nat.le_trans (List.length_take_le _ _) hk)) (by decide)
      have h3 : (256 : Int) ^ ((xs.drop a).take k).length = ((256 ^ ((xs.drop a).take k).length : Nat) : Int) := by rw [Int.natCast_pow]; rfl
      rw [h3, ← h] at h1
      omega
  rw [Go.IntKind.wrap_u64]; omega
theorem keepG {w w1 : World} {b j q : Nat} {v : Option Value} (hg : w.grownBy w1 (some q)) (hlt : b < w.heap.size) (hne : q ≠ b) (c : w.cell? ⟨b, j, none⟩ = v) : w1.cell? ⟨b, j, none⟩ = v :=
  (World.cell?_of_block (hg.block b hlt (fun h => hne (by injection h with h; exact h.symm)))).trans c
theorem Both.lt {w0 w : World} {p g : Nat} {xs : List Int} {a : Nat} {e : Int} (h : Both w0 w p g xs a e) : p < w.heap.size ∧ g < w.heap.size := ⟨h.rd.lt, h.rf.lt⟩
set_option maxHeartbeats 1600000 in
theorem reads0 (w0 w : World) (p g : Nat) (xs : List Int) (a : Nat) (e : Int) (h : Both w0 w p g xs a e) (hx : ∀ c ∈ xs, 0 ≤ c ∧ c < 256) (hs : xs.length ≤ 140737488355328) (n : Int) (B : Value) (most : Int) :
    Calls Try.prog 37 #[.pointer (some ⟨p, 0, none⟩), .pointer (some ⟨g, 0, none⟩), .agg #[.int .i64 0, .int .u64 n, B, .int .i64 most]] w fun r w' => ∃ a' e', r = .returned (.bool true) ∧ Both w0 w' p g xs a' e' := by
  have H := Lib.hid (h.grown (below_alloc (Below.refl _ _) (.cells #[.int .i64 0, .int .u64 n, B, .int .i64 most] 28)))
  have HX := Lib.hid hx
  have HS := Lib.hid hs
  have HA := Lib.hid h.rd.le
  clear h hx hs
  go_enter Try.func37, Try.ntmps37
  go_wp2_with fail
  refine (uvarintR_calls _ p xs a e _ H.out.rd HX.out).mono ?_
  rintro r w1 ⟨n1, a1, e1, rfl, h1, h2, h3⟩
  have H1 := Lib.hid (H.out.prog h2 h3)
  have HR := Lib.hid h1
  clear h1 h2 h3 H
  go_wp2_with fail
  refine (refUv g xs a e w0 w1 H1.out.rf H1.out.be HX.out (by have := HS.out; omega) HA.out).mono ?_
  rintro r w2 ⟨n2, a2, e2, rfl, k1, k2, k3, k4⟩
  obtain ⟨rfl, rfl, rfl⟩ := rd1_unique HR.out k1
  have H2 := Lib.hid (H1.out.refd k2 k3 k4)
  clear k1 k2 k3 k4 HR H1
  obtain ⟨z, d, A, c, hq⟩ := H2.out.asks
  have c0 := hq.c0
  have c1 := hq.c1
  have c2 := hq.c2
  have q1 := hq.e1
  have q2 := hq.e2
  have HQ := Lib.hid hq
  clear hq
  go_wp2_with fail
  go_quiet (first | (go_at_call 27; exact quiet_any HQ.out.te) | (go_at_call 26; exact quiet_any HQ.out.tl) | (go_at_call 34; exact quiet_any HQ.out.td) | (go_at_call 59; exact quiet_any HQ.out.rd))
  go_wp2_with fail
  go_ret
  exact ⟨a1, e1, rfl, H2.out.grown (pw_below_drewN (Below.refl _ _) _)⟩
set_option maxHeartbeats 1600000 in
theorem reads1 (w0 w : World) (p g : Nat) (xs : List Int) (a : Nat) (e : Int) (h : Both w0 w p g xs a e) (hx : ∀ c ∈ xs, 0 ≤ c ∧ c < 256) (hs : xs.length ≤ 140737488355328) (n : Int) (B : Value) (most : Int) :
    Calls Try.prog 37 #[.pointer (some ⟨p, 0, none⟩), .pointer (some ⟨g, 0, none⟩), .agg #[.int .i64 1, .int .u64 n, B, .int .i64 most]] w fun r w' => ∃ a' e', r = .returned (.bool true) ∧ Both w0 w' p g xs a' e' := by
  have H := Lib.hid (h.grown (below_alloc (Below.refl _ _) (.cells #[.int .i64 1, .int .u64 n, B, .int .i64 most] 28)))
  have HX := Lib.hid hx
  have HS := Lib.hid hs
  have HA := Lib.hid h.rd.le
  clear h hx hs
  go_enter Try.func37, Try.ntmps37
  go_wp2_with fail
  refine (varintR_calls _ p xs a e _ H.out.rd HX.out).mono ?_
  rintro r w1 ⟨n1, a1, e1, rfl, h1, h2, h3⟩
  have H1 := Lib.hid (H.out.prog h2 h3)
  have HR := Lib.hid h1
  clear h1 h2 h3 H
  go_wp2_with fail
  refine (refVr g xs a e w0 w1 H1.out.rf H1.out.be HX.out (by have := HS.out; omega) HA.out).mono ?_
  rintro r w2 ⟨n2, a2, e2, rfl, k1, k2, k3, k4⟩
  obtain ⟨rfl, rfl, rfl⟩ := rd1_unique HR.out k1
  have H2 := Lib.hid (H1.out.refd k2 k3 k4)
  clear k1 k2 k3 k4 HR H1
  obtain ⟨z, d, A, c, hq⟩ := H2.out.asks
  have c0 := hq.c0
  have c1 := hq.c1
  have c2 := hq.c2
  have q1 := hq.e1
  have q2 := hq.e2
  have HQ := Lib.hid hq
  clear hq
  go_wp2_with fail
  go_quiet (first | (go_at_call 27; exact quiet_any HQ.out.te) | (go_at_call 26; exact quiet_any HQ.out.tl) | (go_at_call 34; exact quiet_any HQ.out.td) | (go_at_call 59; exact quiet_any HQ.out.rd))
  go_wp2_with fail
  go_ret
  exact ⟨a1, e1, rfl, H2.out.grown (pw_below_drewN (Below.refl _ _) _)⟩
set_option maxHeartbeats 1600000 in
theorem reads2 (w0 w : World) (p g : Nat) (xs : List Int) (a : Nat) (e : Int) (h : Both w0 w p g xs a e) (hx : ∀ c ∈ xs, 0 ≤ c ∧ c < 256) (hs : xs.length ≤ 140737488355328) (n : Int) (B : Value) (most : Int) :
    Calls Try.prog 37 #[.pointer (some ⟨p, 0, none⟩), .pointer (some ⟨g, 0, none⟩), .agg #[.int .i64 2, .int .u64 n, B, .int .i64 most]] w fun r w' => ∃ a' e', r = .returned (.bool true) ∧ Both w0 w' p g xs a' e' := by
  have H := Lib.hid (h.grown (below_alloc (Below.refl _ _) (.cells #[.int .i64 2, .int .u64 n, B, .int .i64 most] 28)))
  have HX := Lib.hid hx
  have HS := Lib.hid hs
  have HA := Lib.hid h.rd.le
  clear h hx hs
  go_enter Try.func37, Try.ntmps37
  go_wp2_with fail
  refine (fixed4R _ p xs a e _ H.out.rd HX.out).mono ?_
  rintro r w1 ⟨n1, a1, e1, rfl, h1, h2, h3⟩
  have H1 := Lib.hid (H.out.prog h2 h3)
  have HR := Lib.hid h1
  clear h1 h2 h3 H
  go_wp2_with fail
  refine (refFx g xs a e w0 w1 4 (by decide) (by decide) H1.out.rf H1.out.be HX.out (by have := HS.out; omega) HA.out).mono ?_
  rintro r w2 ⟨n2, a2, e2, rfl, k1, k2, k3, k4⟩
  obtain ⟨rfl, rfl, rfl⟩ := rdF_unique HR.out k1
  have q3 := rdF_range HR.out HX.out (by decide)
  have H2 := Lib.hid (H1.out.refd k2 k3 k4)
  clear k1 k2 k3 k4 HR H1
  obtain ⟨z, d, A, c, hq⟩ := H2.out.asks
  have c0 := hq.c0
  have c1 := hq.c1
  have c2 := hq.c2
  have q1 := hq.e1
  have q2 := hq.e2
  have HQ := Lib.hid hq
  clear hq
  go_wp2_with fail
  go_quiet (first | (go_at_call 27; exact quiet_any HQ.out.te) | (go_at_call 26; exact quiet_any HQ.out.tl) | (go_at_call 34; exact quiet_any HQ.out.td) | (go_at_call 59; exact quiet_any HQ.out.rd))
  go_wp2_with fail
  go_ret
  exact ⟨a1, e1, rfl, H2.out.grown (pw_below_drewN (Below.refl _ _) _)⟩
set_option maxHeartbeats 1600000 in
theorem reads3 (w0 w : World) (p g : Nat) (xs : List Int) (a : Nat) (e : Int) (h : Both w0 w p g xs a e) (hx : ∀ c ∈ xs, 0 ≤ c ∧ c < 256) (hs : xs.length ≤ 140737488355328) (n : Int) (B : Value) (most : Int) :
    Calls Try.prog 37 #[.pointer (some ⟨p, 0, none⟩), .pointer (some ⟨g, 0, none⟩), .agg #[.int .i64 3, .int .u64 n, B, .int .i64 most]] w fun r w' => ∃ a' e', r = .returned (.bool true) ∧ Both w0 w' p g xs a' e' := by
  have H := Lib.hid (h.grown (below_alloc (Below.refl _ _) (.cells #[.int .i64 3, .int .u64 n, B, .int .i64 most] 28)))
  have HX := Lib.hid hx
  have HS := Lib.hid hs
  have HA := Lib.hid h.rd.le
  clear h hx hs
  go_enter Try.func37, Try.ntmps37
  go_wp2_with fail
  refine (fixed8R _ p xs a e _ H.out.rd HX.out).mono ?_
  rintro r w1 ⟨n1, a1, e1, rfl, h1, h2, h3⟩
  have H1 := Lib.hid (H.out.prog h2 h3)
  have HR := Lib.hid h1
  clear h1 h2 h3 H
  go_wp2_with fail
  refine (refFx g xs a e w0 w1 8 (by decide) (by decide) H1.out.rf H1.out.be HX.out (by have := HS.out; omega) HA.out).mono ?_
  rintro r w2 ⟨n2, a2, e2, rfl, k1, k2, k3, k4⟩
  obtain ⟨rfl, rfl, rfl⟩ := rdF_unique HR.out k1
  have H2 := Lib.hid (H1.out.refd k2 k3 k4)
  clear k1 k2 k3 k4 HR H1
  obtain ⟨z, d, A, c, hq⟩ := H2.out.asks
  have c0 := hq.c0
  have c1 := hq.c1
  have c2 := hq.c2
  have q1 := hq.e1
  have q2 := hq.e2
  have HQ := Lib.hid hq
  clear hq
  go_wp2_with fail
  go_quiet (first | (go_at_call 27; exact quiet_any HQ.out.te) | (go_at_call 26; exact quiet_any HQ.out.tl) | (go_at_call 34; exact quiet_any HQ.out.td) | (go_at_call 59; exact quiet_any HQ.out.rd))
  go_wp2_with fail
  go_ret
  exact ⟨a1, e1, rfl, H2.out.grown (pw_below_drewN (Below.refl _ _) _)⟩
set_option maxHeartbeats 1600000 in
theorem reads4 (w0 w : World) (p g : Nat) (xs : List Int) (a : Nat) (e : Int) (h : Both w0 w p g xs a e) (hx : ∀ c ∈ xs, 0 ≤ c ∧ c < 256) (hs : xs.length ≤ 140737488355328) (n : Int) (B : Value) (most : Int) :
    Calls Try.prog 37 #[.pointer (some ⟨p, 0, none⟩), .pointer (some ⟨g, 0, none⟩), .agg #[.int .i64 4, .int .u64 n, B, .int .i64 most]] w fun r w' => ∃ a' e', r = .returned (.bool true) ∧ Both w0 w' p g xs a' e' := by
  have H := Lib.hid (h.grown (below_alloc (Below.refl _ _) (.cells #[.int .i64 4, .int .u64 n, B, .int .i64 most] 28)))
  have HX := Lib.hid hx
  have HS := Lib.hid hs
  have HA := Lib.hid h.rd.le
  clear h hx hs
  go_enter Try.func37, Try.ntmps37
  go_wp2_with fail
  refine (byteR _ p xs a e _ H.out.rd).mono ?_
  rintro r w1 ⟨n1, a1, e1, rfl, h1, h2, h3⟩
  have H1 := Lib.hid (H.out.prog h2 h3)
  have HR := Lib.hid h1
  clear h1 h2 h3 H
  go_wp2_with fail
  refine (refFx g xs a e w0 w1 1 (by decide) (by decide) H1.out.rf H1.out.be HX.out (by have := HS.out; omega) HA.out).mono ?_
  rintro r w2 ⟨n2, a2, e2, rfl, k1, k2, k3, k4⟩
  obtain ⟨rfl, rfl, rfl⟩ := rdF_unique HR.out k1
  have q3 := rdF_range HR.out HX.out (by decide)
  have H2 := Lib.hid (H1.out.refd k2 k3 k4)
  clear k1 k2 k3 k4 HR H1
  obtain ⟨z, d, A, c, hq⟩ := H2.out.asks
  have c0 := hq.c0
  have c1 := hq.c1
  have c2 := hq.c2
  have q1 := hq.e1
  have q2 := hq.e2
  have HQ := Lib.hid hq
  clear hq
  go_wp2_with fail
  go_quiet (first | (go_at_call 27; exact quiet_any HQ.out.te) | (go_at_call 26; exact quiet_any HQ.out.tl) | (go_at_call 34; exact quiet_any HQ.out.td) | (go_at_call 59; exact quiet_any HQ.out.rd))
  go_wp2_with fail
  go_ret
  exact ⟨a1, e1, rfl, H2.out.grown (pw_below_drewN (Below.refl _ _) _)⟩
set_option maxHeartbeats 3200000 in
theorem reads5 (w0 w : World) (p g : Nat) (xs : List Int) (a : Nat) (e : Int) (h : Both w0 w p g xs a e) (hx : ∀ c ∈ xs, 0 ≤ c ∧ c < 256) (hs : xs.length ≤ 140737488355328) (n : Int) (B : Value) (most : Int) (hm : -9223372036854775808 ≤ most ∧ most < 9223372036854775808) :
    Calls Try.prog 37 #[.pointer (some ⟨p, 0, none⟩), .pointer (some ⟨g, 0, none⟩), .agg #[.int .i64 5, .int .u64 n, B, .int .i64 most]] w fun r w' => ∃ a' e', r = .returned (.bool true) ∧ Both w0 w' p g xs a' e' := by
  have H := Lib.hid (h.grown (below_alloc (Below.refl _ _) (.cells #[.int .i64 5, .int .u64 n, B, .int .i64 most] 28)))
  have c3 : (w.alloc (.cells #[.int .i64 5, .int .u64 n, B, .int .i64 most] 28)).cell? ⟨w.heap.size, 3, none⟩ = some (.int .i64 most) := blk_cell (blk_new w (.cells #[.int .i64 5, .int .u64 n, B, .int .i64 most] 28)) 3
  have HZ : Hid (w.heap.size < (w.alloc (.cells #[.int .i64 5, .int .u64 n, B, .int .i64 most] 28)).heap.size) := Lib.hid (by simp)
  have HX := Lib.hid hx
  have HS := Lib.hid hs
  have HM := Lib.hid hm
  have HA := Lib.hid h.rd.le
  have HL := Lib.hid h.lt
  have TOK : Hid True := Lib.hid trivial
  clear h hx hs hm
  go_enter Try.func37, Try.ntmps37
  go_wp2_with fail
  go_region_with (first
    | (go_at_call 36; go_must (refine (numberR _ p xs a e most _ (by first | exact H.out.rd | exact (H.out.grown (below_drew (Below.refl _ _))).rd | exact (H.out.grown (pw_below_drewN (Below.refl _ _) _)).rd) HX.out HM.out).mono ?_; rintro r w1 ⟨n1, a1, e1, rfl, h1, h2, h3⟩; have H1 := Lib.hid (Both.prog (by first | exact H.out | exact H.out.grown (below_drew (Below.refl _ _)) | exact H.out.grown (pw_below_drewN (Below.refl _ _) _)) h2 h3); have c3' := keepG h3 (by exact HZ.out) (by have := HL.out; omega) c3; have HR := Lib.hid h1; have HZ1 : Hid (w.heap.size < w1.heap.size) := Lib.hid (Nat.lt_of_lt_of_le (by exact HZ.out) h3.size); clear h1 h2 h3 H TOK HZ c3))
    | (go_at_call 57; go_must (refine (refNm g xs a e w0 _ most HM.out (by first | exact H1.out.rf | exact (H1.out.grown (below_drew (Below.refl _ _))).rf | exact (H1.out.grown (pw_below_drewN (Below.refl _ _) _)).rf) (by first | exact H1.out.be | exact below_drew H1.out.be | exact pw_below_drewN H1.out.be _) HX.out (by have := HS.out; omega) HA.out).mono ?_; rintro r w2 ⟨n2, a2, e2, rfl, k1, k2, k3, k4⟩; obtain ⟨rfl, rfl, rfl⟩ := rdN_unique HR.out k1; have H2 := Lib.hid (Half.refd (by first | exact H1.out | exact H1.out.grown (below_drew (Below.refl _ _)) | exact H1.out.grown (pw_below_drewN (Below.refl _ _) _)) k2 k3 k4); clear k1 k2 k3 k4 HR H1 c3')))
  all_goals
    obtain ⟨z, d, A, c, hq⟩ := H2.out.asks
    have c0 := hq.c0
    have c1 := hq.c1
    have c2 := hq.c2
    have q1 := hq.e1
    have q2 := hq.e2
    have HQ := Lib.hid hq
    clear hq
    go_wp2_with fail
    go_simp
    go_quiet (first | (go_at_call 27; exact quiet_any HQ.out.te) | (go_at_call 26; exact quiet_any HQ.out.tl) | (go_at_call 34; exact quiet_any HQ.out.td) | (go_at_call 59; exact quiet_any HQ.out.rd))
    go_wp2_with fail
    go_ret
    exact ⟨a1, e1, rfl, H2.out.grown (pw_below_drewN (Below.refl _ _) _)⟩
theorem same_yes (A1 : Option Addr) (c1 : Nat) (A2 : Option Addr) (c2 : Nat) (ys : List Int) (w : World) (h1 : ys.length ≤ c1) (h2 : BK.C w A1 ys.length ys) (h3 : ys.length ≤ c2) (h4 : BK.C w A2 ys.length ys) :
    Calls Try.prog 13 #[.slice A1 ys.length c1, .slice A2 ys.length c2] w fun r w' => r = .returned (.bool true) ∧ Below w.heap.size w w' :=
  (PWireReads.mooringlaw05_same.calls A1 c1 ys A2 c2 ys true w h2 h1 h4 h3 (by simp [PWireReads.mooringlaw05_same.f])).mono (fun r w' ⟨k1, ⟨n, k2⟩⟩ => ⟨k1, by rw [k2]; exact pw_below_drewN (Below.refl _ _) _⟩)
set_option maxHeartbeats 3200000 in
theorem reads6 (w0 w : World) (p g : Nat) (xs : List Int) (a : Nat) (e : Int) (h : Both w0 w p g xs a e) (hx : ∀ c ∈ xs, 0 ≤ c ∧ c < 256) (hs : xs.length ≤ 140737488355328) (n : Int) (B : Value) (most : Int) (hm : -9223372036854775808 ≤ most ∧ most < 9223372036854775808) (act : Int) (b0 : (act == 0) = false) (b1 : (act == 1) = false) (b2 : (act == 2) = false) (b3 : (act == 3) = false) (b4 : (act == 4) = false) (b5 : (act == 5) = false) :
    Calls Try.prog 37 #[.pointer (some ⟨p, 0, none⟩), .pointer (some ⟨g, 0, none⟩), .agg #[.int .i64 act, .int .u64 n, B, .int .i64 most]] w fun r w' => ∃ a' e', r = .returned (.bool true) ∧ Both w0 w' p g xs a' e' := by
  have H := Lib.hid (h.grown (below_alloc (Below.refl _ _) (.cells #[.int .i64 act, .int .u64 n, B, .int .i64 most] 28)))
  have c3 : (w.alloc (.cells #[.int .i64 act, .int .u64 n, B, .int .i64 most] 28)).cell? ⟨w.heap.size, 3, none⟩ = some (.int .i64 most) := blk_cell (blk_new w (.cells #[.int .i64 act, .int .u64 n, B, .int .i64 most] 28)) 3
  have HZ : Hid (w.heap.size < (w.alloc (.cells #[.int .i64 act, .int .u64 n, B, .int .i64 most] 28)).heap.size) := Lib.hid (by simp)
  have HX := Lib.hid hx
  have HS := Lib.hid hs
  have HM := Lib.hid hm
  have HA := Lib.hid h.rd.le
  have HL := Lib.hid h.lt
  have TOK : Hid True := Lib.hid trivial
  clear h hx hs hm
  go_enter Try.func37, Try.ntmps37
  go_wp2_with fail
  go_region_with (first
    | (go_at_call 33; go_must (refine (bytesR _ p xs a e most _ (by first | exact H.out.rd | exact (H.out.grown (below_drew (Below.refl _ _))).rd | exact (H.out.grown (pw_below_drewN (Below.refl _ _) _)).rd) HX.out HM.out HS.out).mono ?_; rintro r w1 ⟨A1, cc1, ys, a1, e1, rfl, ho, h1, h2, h3⟩; have HO1 := Lib.hid (Kd.R_mono (Kd.R_bound ho) (ok' := fun k => k ≠ g) (fun k hk => by have := hk.2.1; have := HL.out.2; have := HZ.out; simp at *; omega)); have H1 := Lib.hid (Both.prog (by first | exact H.out | exact H.out.grown (below_drew (Below.refl _ _)) | exact H.out.grown (pw_below_drewN (Below.refl _ _) _)) h2 h3); have c3' := keepG h3 (by exact HZ.out) (by have := HL.out; omega) c3; have HR := Lib.hid h1; have HZ1 : Hid (w.heap.size < w1.heap.size) := Lib.hid (Nat.lt_of_lt_of_le (by exact HZ.out) h3.size); clear h1 h2 h3 ho H TOK HZ c3))
    | (go_at_call 58; go_must (refine (refBy g xs a e w0 _ most HM.out (by first | exact H1.out.rf | exact (H1.out.grown (below_drew (Below.refl _ _))).rf | exact (H1.out.grown (pw_below_drewN (Below.refl _ _) _)).rf) (by first | exact H1.out.be | exact below_drew H1.out.be | exact pw_below_drewN H1.out.be _) HX.out HS.out HA.out).mono ?_; rintro r w2 ⟨A2, cc2, zs, a2, e2, rfl, hc2, hC2, k1, k2, k3, k4⟩; obtain ⟨rfl, rfl, rfl⟩ := rdB_unique HR.out k1; have HO2 := Lib.hid (Kd.R_reads' (Kd.R_grown (by first | exact HO1.out | exact Kd.R_below HO1.out (below_drew (Below.refl _ _)) | exact Kd.R_below HO1.out (pw_below_drewN (Below.refl _ _) _)) k4 (fun k hk => by simp; exact hk))).2; have HC2 := Lib.hid (And.intro hc2 hC2); have H2 := Lib.hid (Half.refd (by first | exact H1.out | exact H1.out.grown (below_drew (Below.refl _ _)) | exact H1.out.grown (pw_below_drewN (Below.refl _ _) _)) k2 k3 k4); clear k1 k2 k3 k4 HR H1 c3' hc2 hC2 HO1))
    | (go_at_call 13; go_must (refine (same_yes A1 cc1 A2 cc2 ys _ (by exact HO2.out.1) (by first | exact HO2.out.2 | exact Kd.C_below HO2.out.2 (below_drew (Below.refl _ _)) | exact Kd.C_below HO2.out.2 (pw_below_drewN (Below.refl _ _) _)) (by exact HC2.out.1) (by first | exact HC2.out.2 | exact Kd.C_below HC2.out.2 (below_drew (Below.refl _ _)) | exact Kd.C_below HC2.out.2 (pw_below_drewN (Below.refl _ _) _))).mono ?_; rintro r w3 ⟨rfl, hb⟩; have H3 := Lib.hid (by first | exact H2.out.grown hb | exact (H2.out.grown (below_drew (Below.refl _ _))).grown hb | exact (H2.out.grown (pw_below_drewN (Below.refl _ _) _)).grown hb); clear hb H2; have H2 := H3; clear H3)))
  all_goals
    obtain ⟨z, d, A, c, hq⟩ := H2.out.asks
    have c0 := hq.c0
    have c1 := hq.c1
    have c2 := hq.c2
    have q1 := hq.e1
    have q2 := hq.e2
    have HQ := Lib.hid hq
    clear hq
    go_wp2_with fail
    go_simp
    go_quiet (first | (go_at_call 27; exact quiet_any HQ.out.te) | (go_at_call 26; exact quiet_any HQ.out.tl) | (go_at_call 34; exact quiet_any HQ.out.td) | (go_at_call 59; exact quiet_any HQ.out.rd))
    go_wp2_with fail
    go_ret
    exact ⟨a1, e1, rfl, H2.out.grown (pw_below_drewN (Below.refl _ _) _)⟩
end Go.Proofs.Ytdogkhbfpbdfpaa.WireY
