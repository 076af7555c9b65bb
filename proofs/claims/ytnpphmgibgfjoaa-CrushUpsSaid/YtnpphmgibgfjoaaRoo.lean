import Derived.Test.YtnpphmgibgfjoaaAtB
/- crush.of and crush.Room. -/
namespace Go.Proofs.Ytnpphmgibgfjoaa.Roo
open Go Go.RowKit Go.Proofs.YtnpphmgibgfjoaaW.PrintWords Go.Proofs.YtnpphmgibgfjoaaW.PrintMore Mem PAll KW MixP MixW StrP StrW AtA Srt Grp Sl Dsc AtB
open CrP hiding Od
theorem eql_func_nil (w : World) (f : Fn) (a b : Array Value) : (binOp .eql 72 (.func f a b) .nilFunc).run Try.prog w = .ok (.bool false) w := by
  have h : ∀ d : Nat, (Op.equalIn (d + 1) 72 (.func f a b) .nilFunc).run Try.prog w = .ok false w := fun d => by
    simp [Op.equalIn, run_underlying Try.underlying72]
  simp only [binOp]
  simp [Op.equal, Op.maxDepth, h 9999]
theorem eql_nil_nil (w : World) : (binOp .eql 72 .nilFunc .nilFunc).run Try.prog w = .ok (.bool true) w := by
  have h : ∀ d : Nat, (Op.equalIn (d + 1) 72 .nilFunc .nilFunc).run Try.prog w = .ok true w := fun d => by
    simp [Op.equalIn, run_underlying Try.underlying72]
  simp only [binOp]
  simp [Op.equal, Op.maxDepth, h 9999]
def domL (d : Int) : Nat := if d = 0 then 3 else if d = 1 then 2 else 1
def domB (d : Int) : Bool := d == 0 || d == 1 || d == 2
def ofV (d : Int) : Value := if domB d = true then fvL (domL d) else .nilFunc
theorem of_calls (d : Int) (w : World) : Calls Try.prog 39 #[.int .i64 d] w fun e w' => e = .returned (ofV d) ∧ w = w' := by
  unfold ofV domB domL
  by_cases h0 : d = 0
  · subst h0
    go_enter Try.func39, Try.ntmps39
    go_wp2_with fail
    go_ret
    exact ⟨rfl, rfl⟩
  · by_cases h1 : d = 1
    · subst h1
      go_enter Try.func39, Try.ntmps39
      go_wp2_with fail
      go_ret
      exact ⟨rfl, rfl⟩
    · by_cases h2 : d = 2
      · subst h2
        go_enter Try.func39, Try.ntmps39
        go_wp2_with fail
        go_ret
        exact ⟨rfl, rfl⟩
      · have b0 : (d == 0) = false := beq_eq_false_iff_ne.2 h0
        have b1 : (d == 1) = false := beq_eq_false_iff_ne.2 h1
        have b2 : (d == 2) = false := beq_eq_false_iff_ne.2 h2
        have HE : Hid ((if (d == 0 || d == 1 || d == 2) = true then fvL (if d = 0 then 3 else if d = 1 then 2 else 1) else .nilFunc) = Value.nilFunc) := Lib.hid (by rw [b0, b1, b2]; rfl)
        rw [HE.out]
        clear HE h0 h1 h2
        go_enter Try.func39, Try.ntmps39
        go_wp2_with fail
        go_ret
        exact ⟨rfl, rfl⟩
def roomI (ok : Bool) (d : Int) (l : List Od) : Int := if (ok && domB d) = true then (room (domL d) l : Nat) else 0
theorem domL_any (d : Int) : domL d = 1 ∨ domL d = 2 ∨ domL d = 3 := by
  unfold domL
  split
  · exact .inr (.inr rfl)
  · split
    · exact .inr (.inl rfl)
    · exact .inl rfl
theorem cnt_succ {G : List Wd} {n : Nat} {u : Wd} (h : G[n]? = some u) : ((G.take (n + 1)).filter fun u => decide (0 < u.wt)).length = ((G.take n).filter fun u => decide (0 < u.wt)).length + (if 0 < u.wt then 1 else 0) := by
  rw [List.take_succ_eq_append_getElem (List.getElem?_eq_some_iff.1 h).1, (List.getElem?_eq_some_iff.1 h).2, List.filter_append, List.length_append]
  by_cases hw : 0 < u.wt <;> simp [hw]
set_option maxHeartbeats 1600000 in
set_option maxRecDepth 100000 in
theorem Room_calls (ep k m p d : Int) (A : Option Addr) (c : Nat) (l : List Od) (dm : Int) (w : World) (hx : kO.C w A l.length l) (hwf : WfL l) :
    Calls Try.prog 22 #[.agg (boxM ep k m p d A c l), .int .i64 dm] w fun e w' => e = .returned (.int .i64 (roomI (mayB ep k m p d l) dm l)) ∧ Below w.heap.size w w' := by
  have HC1 := Lib.hid (Kd.C_alloc hx (.cells (boxM ep k m p d A c l) 26))
  have HB1 := Lib.hid (below_alloc (Below.refl w.heap.size w) (.cells (boxM ep k m p d A c l) 26))
  have HM1 : Hid ((w.alloc (.cells (boxM ep k m p d A c l) 26)).heap[w.heap.size]? = some (.cells (boxM ep k m p d A c l) 26 (0, 0))) := Lib.hid (blk_new _ _)
  have T := Lib.hid (check_calls ep k m p d A c l (w.alloc (.cells (boxM ep k m p d A c l) 26)) HC1.out hwf)
  obtain ⟨mb, hmb⟩ : ∃ mb, mb = mayB ep k m p d l := ⟨_, rfl⟩
  rw [← hmb] at T ⊢
  have HGL : Hid (mb = true → GoodL l) := Lib.hid (fun h => may_goodL (hmb.symm.trans h))
  have TO := Lib.hid (of_calls dm (w.alloc (.cells (boxM ep k m p d A c l) 26)))
  obtain ⟨db, hdb⟩ : ∃ db, db = domB dm := ⟨_, rfl⟩
  unfold ofV at TO
  unfold roomI
  rw [← hdb] at TO ⊢
  clear hx hwf hmb hdb
  unfold boxM at *
  have hq1 := eql_func_nil
  have hq2 := eql_nil_nil
  go_enter Try.func22, Try.ntmps22
  go_wp2_with fail
  refine TO.out.mono ?_
  rintro e w0 ⟨rfl, rfl⟩
  clear TO
  cases db with
  | false =>
    rw [if_neg Bool.false_ne_true]
    go_wp2_with fail
    refine T.out.mono ?_
    rintro e w1 ⟨rfl, hb⟩
    have HB2 := Lib.hid (below_then HB1.out HB1.out.size hb)
    clear hb T
    cases mb with
    | false =>
      go_wp2_with fail
      go_ret
      exact ⟨rfl, HB2.out⟩
    | true =>
      go_wp2_with fail
      go_ret
      exact ⟨rfl, HB2.out⟩
  | true =>
    rw [if_pos rfl]
    obtain ⟨lv, hlv⟩ : ∃ lv, lv = domL dm := ⟨_, rfl⟩
    have HLV : Hid (lv = 1 ∨ lv = 2 ∨ lv = 3) := Lib.hid (by rw [hlv]; exact domL_any dm)
    have HLD := Lib.hid hlv
    rw [← hlv]
    clear hlv
    obtain ⟨kf, hkf⟩ : ∃ kf, kf = fnL lv := ⟨_, rfl⟩
    have HKF := Lib.hid hkf
    unfold fvL
    rw [← hkf]
    clear hkf
    go_wp2_with fail
    refine T.out.mono ?_
    rintro e w1 ⟨rfl, hb⟩
    have HC2 := Lib.hid (Kd.C_below HC1.out hb)
    have HB2 := Lib.hid (below_then HB1.out HB1.out.size hb)
    have HM2 := Lib.hid (blk_below HM1.out hb)
    clear hb T HC1 HB1 HM1
    cases mb with
    | false =>
      go_wp2_with fail
      go_ret
      exact ⟨rfl, HB2.out⟩
    | true =>
      have c5 := blk_cell HM2.out 5
      have T := Lib.hid (group_any lv HLV.out A c l w1 HC2.out (HGL.out rfl))
      rw [show fvL lv = .func (.func kf) #[] #[] by rw [HKF.out]] at T
      go_wp2_with fail
      refine T.out.mono ?_
      rintro e w2 ⟨v, rfl, hR, hb⟩
      obtain ⟨GA, gc, rfl⟩ := Kd.R_slice hR
      have HGC := Lib.hid (Kd.R_reads' hR).2.2
      have HB3 := Lib.hid (below_then HB2.out HB2.out.size hb)
      obtain ⟨G, hG⟩ : ∃ G, G = group lv l := ⟨_, rfl⟩
      rw [← hG] at HGC ⊢
      have HE : Hid (room lv l = (G.filter fun u => decide (0 < u.wt)).length) := Lib.hid (by rw [hG]; rfl)
      have hm : G.length ≤ 9223372036854775807 := HGC.out.2.1
      clear hG hR hb T c5 HC2 HB2 HM2
      have HGL2 : Hid (G.length ≤ 9223372036854775807) := Lib.hid hm
      have HB4 := Lib.hid (Below.refl w2.heap.size w2)
      go_wp2_with fail
      go_loopw [6, 23] (fun c' i' wr => ∃ (i n : Nat), c' = .int .i64 n ∧ i' = .int .i64 i ∧ Hid (i ≤ G.length) ∧ Hid (n = ((G.take i).filter fun u => decide (0 < u.wt)).length ∧ n ≤ i) ∧ Hid (Below w2.heap.size w2 wr)) (fun _ i' _ => (G.length - intOf i').toNat)
      case atStart => exact ⟨0, 0, rfl, rfl, Lib.hid (Nat.zero_le _), Lib.hid ⟨rfl, Nat.le_refl _⟩, HB4⟩
      case round =>
        obtain ⟨i, n, rfl, rfl, HI, HN, HB⟩ := hrel
        clear HB4
        have hi := HI.out
        have hni := HN.out.2
        by_cases h : i < G.length
        · have hlt : decide (i < G.length) = true := decide_eq_true h
          have i0 : (0 : Int) ≤ i := by omega
          obtain ⟨ad, u, hu, rfl, a0, a1⟩ := at_W (Kd.C_below HGC.out HB.out) i h
          have HCS := Lib.hid (cnt_succ hu)
          have HBA := Lib.hid (below_alloc HB.out (.cells #[.int .i64 u.id, .int .i64 u.wt] 83))
          have kw : IntKind.i64.wrap ((n : Int) + 1) = (n : Int) + 1 := IntWalk.i64_in _ (by omega)
          clear hu
          by_cases hw : 0 < u.wt
          · have HWT := Lib.hid hw
            have hd : decide (0 < u.wt) = true := decide_eq_true hw
            clear hw
            go_wp2_with fail
            go_roundw
            case rel => exact ⟨i + 1, n + 1, by go_num, by go_num, Lib.hid (by omega), Lib.hid ⟨by rw [HCS.out, if_pos HWT.out, HN.out.1], by omega⟩, HBA⟩
            case measure => simp only [intOf]; omega
          · have HWT := Lib.hid hw
            have hd : decide (0 < u.wt) = false := decide_eq_false hw
            clear hw
            go_wp2_with fail
            go_roundw
            case rel => exact ⟨i + 1, n, rfl, by go_num, Lib.hid (by omega), Lib.hid ⟨by rw [HCS.out, if_neg HWT.out, HN.out.1]; rfl, by omega⟩, HBA⟩
            case measure => simp only [intOf]; omega
        · obtain rfl : i = G.length := by omega
          have hlt : decide (G.length < G.length) = false := decide_eq_false (by omega)
          go_wp2_with fail
          go_ret
          have hnn := HN.out.1
          rw [List.take_length] at hnn
          refine ⟨?_, below_then HB3.out HB3.out.size HB.out⟩
          have e : ((room (domL dm) l : Nat) : Int) = (n : Int) := by rw [← HLD.out, HE.out, hnn]
          show _ = Ending.returned (.int .i64 ((room (domL dm) l : Nat) : Int))
          rw [e]
          rfl
end Go.Proofs.Ytnpphmgibgfjoaa.Roo
