import Derived.Test.YtffmhbblcihogaaPeerS
import Derived.BigQuiet
/- What infos come to: the walk of peer.Choose. -/
namespace Go.Proofs.Ytffmhbblcihogaa.PeerC
open Go.RowKit Go.Proofs.YtffmhbblcihogaaW.PrintWords PAll PeerP Opns Mem PeerK PeerT PeerF PeerS
abbrev xs_ (l : List Xe) : List Iv := l.map (·.x)
theorem falls_snoc : ∀ (xs : List Iv) (y z : Iv), falls (xs ++ [y, z]) = (falls (xs ++ [y]) && decide (z.fr < y.fr))
  | [], y, z => by simp [falls]
  | [a], y, z => by simp [falls]
  | a :: b :: r, y, z => by
    have := falls_snoc (b :: r) y z
    simp only [List.cons_append, falls] at this ⊢
    rw [this, Bool.and_assoc]
theorem falls_step (l : List Xe) (n : Nat) (h1 : 1 ≤ n) (p q : Xe) (hp : l[n]? = some p) (hq : l[n - 1]? = some q) : falls (xs_ (l.take (n + 1))) = (falls (xs_ (l.take n)) && decide (p.x.fr < q.x.fr)) := by
  obtain ⟨m, rfl⟩ : ∃ m, n = m + 1 := ⟨n - 1, by omega⟩
  have hn := (List.getElem?_eq_some_iff.1 hp).1
  have ep : l[m + 1] = p := (List.getElem?_eq_some_iff.1 hp).2
  have hm : m < l.length := by omega
  have eq : l[m] = q := (List.getElem?_eq_some_iff.1 (show l[m]? = some q from hq)).2
  rw [List.take_succ_eq_append_getElem hn, List.take_succ_eq_append_getElem hm, ep, eq]
  simp only [xs_, List.map_append, List.map_cons, List.map_nil, List.append_assoc]
  exact falls_snoc _ _ _
abbrev aggC (r : Ch) (A : Option Addr) (c : Nat) : Array Value := #[.int .i64 r.kind, .int .i64 r.since, .int .i64 r.head, .slice A r.n c]
def PostC (r : Ch) (er : Int) (w0 : World) (e : Ending) (w' : World) : Prop := ∃ A c, e = .returned (.tuple #[.agg (aggC r A c), .int .i64 er]) ∧ Below w0.heap.size w0 w'
def zeroCh : Ch := ⟨0, 0, 0, 0⟩
/-- What the result's block holds ahead of a store. -/
theorem blkR {w : World} {g : Nat} (h : w.heap[g]? = some (.cells #[.int .i64 0, .int .i64 0, .int .i64 0, .slice none 0 0] 27 (0, 0))) : (w.cell? ⟨g, 0, none⟩ = some (.int .i64 0) ∧ w.cell? ⟨g, 1, none⟩ = some (.int .i64 0) ∧ w.cell? ⟨g, 2, none⟩ = some (.int .i64 0) ∧ w.cell? ⟨g, 3, none⟩ = some (.slice none 0 0)) ∧ w.frozen? ⟨g, 0, none⟩ = false ∧ w.frozen? ⟨g, 1, none⟩ = false ∧ w.frozen? ⟨g, 2, none⟩ = false ∧ w.frozen? ⟨g, 3, none⟩ = false :=
  ⟨⟨blk_cell h 0, blk_cell h 1, blk_cell h 2, blk_cell h 3⟩, blk_frozen h 0, blk_frozen h 1, blk_frozen h 2, blk_frozen h 3⟩
theorem set4 {w0 w : World} {g : Nat} (h : Below w0.heap.size w0 w) (hg : w0.heap.size ≤ g) (a b c d : Value) : Below w0.heap.size w0 ((((w.setCell ⟨g, 0, none⟩ a).setCell ⟨g, 1, none⟩ b).setCell ⟨g, 2, none⟩ c).setCell ⟨g, 3, none⟩ d) :=
  (((h.setCell (p := ⟨g, 0, none⟩) hg _).setCell (p := ⟨g, 1, none⟩) hg _).setCell (p := ⟨g, 2, none⟩) hg _).setCell (p := ⟨g, 3, none⟩) hg _
theorem heads_take (x : Iv) (t : List Ie) (n : Nat) (q : Ie) (hq : t[n]? = some q) : heads x (t.take (n + 1)) = heads x (t.take n) ++ (hasO x q.x).toList := by
  have hn := (List.getElem?_eq_some_iff.1 hq).1
  have e : t[n] = q := (List.getElem?_eq_some_iff.1 hq).2
  rw [List.take_succ_eq_append_getElem hn, e]
  unfold heads
  rw [List.filterMap_append]
  cases h : hasO x q.x <;> simp [h]
section
variable (A1 : Option Addr) (c1 : Nat) (l : List Xe) (A2 : Option Addr) (c2 : Nat) (es : List Ie) (w : World)
set_option maxHeartbeats 1600000 in
set_option maxRecDepth 100000 in
/-- The walk to the end of the first loop, and what is refused. -/
theorem choose_bad (k : Int) (hl : kX.C w A1 l.length l) (hbad : k < 1 ∨ falls (xs_ l) = false) :
    Calls Try.prog 6 #[.slice A1 l.length c1, .slice A2 es.length c2, .int .i64 k] w (PostC zeroCh 1 w) := by
  have HC := Lib.hid hl
  have hm : l.length ≤ 9223372036854775807 := hl.2.1
  have HBAD := Lib.hid hbad
  have HB0 : Hid (Below w.heap.size w (w.alloc (.cells #[.int .i64 0, .int .i64 0, .int .i64 0, .slice none 0 0] 27))) := Lib.hid (below_alloc (Below.refl _ _) _)
  have HR0 : Hid ((w.alloc (.cells #[.int .i64 0, .int .i64 0, .int .i64 0, .slice none 0 0] 27)).heap[w.heap.size]? = some (.cells #[.int .i64 0, .int .i64 0, .int .i64 0, .slice none 0 0] 27 (0, 0))) := Lib.hid (blk_new _ _)
  clear hl hbad
  go_enter Try.func6, Try.ntmps6
  go_wp2_with fail
  go_loopw [8, 9] (fun b' i' wr => ∃ (n : Nat) (b : Bool), i' = .int .i64 n ∧ b' = .bool b ∧ Hid (1 ≤ n ∧ (n ≤ l.length ∨ n = 1)) ∧ Hid (b = falls (xs_ (l.take n))) ∧ Hid (wr.heap[w.heap.size]? = some (.cells #[.int .i64 0, .int .i64 0, .int .i64 0, .slice none 0 0] 27 (0, 0))) ∧ Hid (Below w.heap.size w wr)) (fun _ i' _ => (l.length - intOf i').toNat)
  case atStart =>
    refine ⟨1, true, rfl, rfl, Lib.hid ⟨Nat.le_refl _, .inr rfl⟩, Lib.hid ?_, HR0, HB0⟩
    cases l with
    | nil => rfl
    | cons a r => rfl
  case round =>
    obtain ⟨n, b, rfl, rfl, HN, HF, HR, HB⟩ := hrel
    have hn1 := HN.out.1
    by_cases h : n < l.length
    · have hlt : decide (n < l.length) = true := decide_eq_true h
      have i0 : (0 : Int) ≤ n := by omega
      obtain ⟨ad, p, hp, hA, a0, a1, a2, a3, a4, a5⟩ := at_X (Kd.C_below HC.out HB.out) n h
      obtain ⟨ad2, q, hq, hA2, b0, b1, b2, b3, b4, b5⟩ := at_X (Kd.C_below HC.out HB.out) (n - 1) (by omega)
      rw [hA] at hA2
      injection hA2 with hA2
      subst hA2
      subst hA
      have HST := Lib.hid (falls_step l n hn1 p q hp hq)
      have j0 : (0 : Int) ≤ (n : Int) - 1 := by omega
      have j1 : (n : Int) - 1 < l.length := by omega
      have jw : IntKind.i64.wrap ((n : Int) - 1) = (n : Int) - 1 := IntWalk.i64_in _ (by omega)
      have jn : ((n : Int) - 1).toNat = n - 1 := by omega
      clear hp hq a1 a2 a3 a4 a5 b1 b2 b3 b4 b5
      cases b
      · go_wp2_with fail
        go_quiet (fail)
        go_wp2_with fail
        go_roundw
        case rel => exact ⟨n + 1, false, by go_num, rfl, Lib.hid ⟨by omega, .inl (by omega)⟩, Lib.hid (by rw [HST.out, ← HF.out]; rfl), Lib.hid (blk_drewN HR.out _), Lib.hid (pw_below_drewN HB.out _)⟩
        case measure => simp only [intOf]; omega
      · cases hd : decide (p.x.fr < q.x.fr)
        · go_wp2_with fail
          go_quiet (fail)
          go_wp2_with fail
          go_roundw
          case rel => exact ⟨n + 1, false, by go_num, rfl, Lib.hid ⟨by omega, .inl (by omega)⟩, Lib.hid (by rw [HST.out, ← HF.out, hd]; rfl), Lib.hid (blk_drewN HR.out _), Lib.hid (pw_below_drewN HB.out _)⟩
          case measure => simp only [intOf]; omega
        · go_wp2_with fail
          go_quiet (fail)
          go_wp2_with fail
          go_roundw
          case rel => exact ⟨n + 1, true, by go_num, rfl, Lib.hid ⟨by omega, .inl (by omega)⟩, Lib.hid (by rw [HST.out, ← HF.out, hd]; rfl), Lib.hid (blk_drewN HR.out _), Lib.hid (pw_below_drewN HB.out _)⟩
          case measure => simp only [intOf]; omega
    · have hlt : decide (n < l.length) = false := decide_eq_false h
      have HF2 : Hid (b = falls (xs_ l)) := Lib.hid (by have := HF.out; rwa [List.take_of_length_le (by omega)] at this)
      obtain ⟨⟨e0, e1, e2, e3⟩, f0, f1, f2, f3⟩ := blkR HR.out
      have HZ := Lib.hid (set4 HB.out (Nat.le_refl _) (.int .i64 0) (.int .i64 0) (.int .i64 0) (.slice none 0 0))
      clear h
      by_cases hk : k < 1
      · have hd : decide (k < 1) = true := decide_eq_true hk
        clear hk
        go_wp2_with fail
        exact bodyPost_ret (v := .tuple #[.agg (aggC zeroCh none 0), .int .i64 1]) (by simp [results, Try.results6, go_sem, e0, e1, e2, e3, zeroCh]) rfl ⟨none, 0, rfl, HZ.out⟩
      · have hd : decide (k < 1) = false := decide_eq_false hk
        have hb : b = false := by
          rcases HBAD.out with h | h
          · exact absurd h hk
          · rw [HF2.out, h]
        subst hb
        clear hk
        go_wp2_with fail
        exact bodyPost_ret (v := .tuple #[.agg (aggC zeroCh none 0), .int .i64 1]) (by simp [results, Try.results6, go_sem, e0, e1, e2, e3, zeroCh]) rfl ⟨none, 0, rfl, HZ.out⟩
set_option maxHeartbeats 4000000 in
set_option maxRecDepth 100000 in
theorem choose_good (k : Nat) (hl : kX.C w A1 l.length l) (hgl : ∀ p ∈ l, GoodX w p) (he : kE.C w A2 es.length es) (hge : ∀ i ∈ es, GoodE w i ∧ (Lit.int .i64 i.x.osd).wf = true) (hs : es.length * 56 ≤ 140737488355328) (hk : 1 ≤ k) (hf : falls (xs_ l) = true) :
    Calls Try.prog 6 #[.slice A1 l.length c1, .slice A2 es.length c2, .int .i64 k] w (PostC (PeerP.choose es k (xs_ l)) 0 w) := by
  have HC := Lib.hid hl
  have hm : l.length ≤ 9223372036854775807 := hl.2.1
  have HGL := Lib.hid hgl
  have HE := Lib.hid he
  have HGE := Lib.hid hge
  have HS := Lib.hid hs
  have HK := Lib.hid hk
  have HFL := Lib.hid hf
  have HB0 : Hid (Below w.heap.size w (w.alloc (.cells #[.int .i64 0, .int .i64 0, .int .i64 0, .slice none 0 0] 27))) := Lib.hid (below_alloc (Below.refl _ _) _)
  have HR0 : Hid ((w.alloc (.cells #[.int .i64 0, .int .i64 0, .int .i64 0, .slice none 0 0] 27)).heap[w.heap.size]? = some (.cells #[.int .i64 0, .int .i64 0, .int .i64 0, .slice none 0 0] 27 (0, 0))) := Lib.hid (blk_new _ _)
  have hmf : ∀ (fn : Fn) (first cap : Array Value) (w : World), (Instr.makeFunc fn first cap).run Try.prog w = .ok (.func fn first cap) w := fun _ _ _ _ => rfl
  clear hl hgl he hge hs hk hf
  go_enter Try.func6, Try.ntmps6
  go_wp2_with fail
  go_loopw [8, 9] (fun b' i' wr => ∃ (n : Nat) (b : Bool), i' = .int .i64 n ∧ b' = .bool b ∧ Hid (1 ≤ n ∧ (n ≤ l.length ∨ n = 1)) ∧ Hid (b = falls (xs_ (l.take n))) ∧ Hid (wr.heap[w.heap.size]? = some (.cells #[.int .i64 0, .int .i64 0, .int .i64 0, .slice none 0 0] 27 (0, 0))) ∧ Hid (Below w.heap.size w wr)) (fun _ i' _ => (l.length - intOf i').toNat)
  case atStart =>
    refine ⟨1, true, rfl, rfl, Lib.hid ⟨Nat.le_refl _, .inr rfl⟩, Lib.hid ?_, HR0, HB0⟩
    cases l with
    | nil => rfl
    | cons a r => rfl
  case round =>
    obtain ⟨n, b, rfl, rfl, HN, HF, HR, HB⟩ := hrel
    have hn1 := HN.out.1
    by_cases h : n < l.length
    · have hlt : decide (n < l.length) = true := decide_eq_true h
      have i0 : (0 : Int) ≤ n := by omega
      obtain ⟨ad, p, hp, hA, a0, a1, a2, a3, a4, a5⟩ := at_X (Kd.C_below HC.out HB.out) n h
      obtain ⟨ad2, q, hq, hA2, b0, b1, b2, b3, b4, b5⟩ := at_X (Kd.C_below HC.out HB.out) (n - 1) (by omega)
      rw [hA] at hA2
      injection hA2 with hA2
      subst hA2
      subst hA
      have HST := Lib.hid (falls_step l n hn1 p q hp hq)
      have j0 : (0 : Int) ≤ (n : Int) - 1 := by omega
      have j1 : (n : Int) - 1 < l.length := by omega
      have jw : IntKind.i64.wrap ((n : Int) - 1) = (n : Int) - 1 := IntWalk.i64_in _ (by omega)
      have jn : ((n : Int) - 1).toNat = n - 1 := by omega
      clear hp hq a1 a2 a3 a4 a5 b1 b2 b3 b4 b5
      cases b
      · go_wp2_with fail
        go_quiet (fail)
        go_wp2_with fail
        go_roundw
        case rel => exact ⟨n + 1, false, by go_num, rfl, Lib.hid ⟨by omega, .inl (by omega)⟩, Lib.hid (by rw [HST.out, ← HF.out]; rfl), Lib.hid (blk_drewN HR.out _), Lib.hid (pw_below_drewN HB.out _)⟩
        case measure => simp only [intOf]; omega
      · cases hd : decide (p.x.fr < q.x.fr)
        · go_wp2_with fail
          go_quiet (fail)
          go_wp2_with fail
          go_roundw
          case rel => exact ⟨n + 1, false, by go_num, rfl, Lib.hid ⟨by omega, .inl (by omega)⟩, Lib.hid (by rw [HST.out, ← HF.out, hd]; rfl), Lib.hid (blk_drewN HR.out _), Lib.hid (pw_below_drewN HB.out _)⟩
          case measure => simp only [intOf]; omega
        · go_wp2_with fail
          go_quiet (fail)
          go_wp2_with fail
          go_roundw
          case rel => exact ⟨n + 1, true, by go_num, rfl, Lib.hid ⟨by omega, .inl (by omega)⟩, Lib.hid (by rw [HST.out, ← HF.out, hd]; rfl), Lib.hid (blk_drewN HR.out _), Lib.hid (pw_below_drewN HB.out _)⟩
          case measure => simp only [intOf]; omega
    · have hlt : decide (n < l.length) = false := decide_eq_false h
      have hb : b = true := by have := HF.out; rw [List.take_of_length_le (by omega), HFL.out] at this; exact this
      subst hb
      have hd : decide ((k : Int) < 1) = false := decide_eq_false (by have := HK.out; omega)
      clear h HF HN hn1
      obtain ⟨wf, hwf⟩ : ∃ wf, wf = wr := ⟨_, rfl⟩
      rw [← hwf] at HR HB ⊢
      clear hwf
      go_wp2_with fail
      go_loopw [48] (fun i' wr => ∃ (n : Nat), i' = .int .i64 n ∧ Hid (n ≤ l.length ∧ PeerP.choose es k (xs_ (l.drop n)) = PeerP.choose es k (xs_ l)) ∧ Hid (wr.heap[w.heap.size]? = some (.cells #[.int .i64 0, .int .i64 0, .int .i64 0, .slice none 0 0] 27 (0, 0))) ∧ Hid (Below w.heap.size w wr)) (fun i' _ => (l.length - intOf i').toNat)
      case atStart => exact ⟨0, rfl, Lib.hid ⟨Nat.zero_le _, rfl⟩, HR, HB⟩
      case round =>
        clear hlt hd
        obtain ⟨n, rfl, HN, HR', HB'⟩ := hrel
        clear HR HB
        have HR := Lib.hid HR'.out
        have HB := Lib.hid HB'.out
        clear HR' HB'
        have hn := HN.out.1
        by_cases h : n < l.length
        · have hlt : decide (n < l.length) = true := decide_eq_true h
          have i0 : (0 : Int) ≤ n := by omega
          obtain ⟨ad, p, hp, hA, a0, a1, a2, a3, a4, a5⟩ := at_X (Kd.C_below HC.out HB.out) n h
          subst hA
          have HST : Hid (PeerP.choose es k (xs_ l) = PeerP.choose es k (p.x :: xs_ (l.drop (n + 1)))) := Lib.hid (by rw [← HN.out.2, List.drop_eq_getElem_cons h, (List.getElem?_eq_some_iff.1 hp).2]; rfl)
          have HGP := Lib.hid (HGL.out p (List.mem_of_getElem? hp))
          have HBA := Lib.hid (below_alloc (Below.refl wr.heap.size wr) (.cells (aggX p) 33))
          have HX1 : Hid ((wr.alloc (.cells (aggX p) 33)).heap[wr.heap.size]? = some (.cells (aggX p) 33 (0, 0))) := Lib.hid (blk_new _ _)
          have HR1 := Lib.hid (blk_alloc HR.out (.cells (aggX p) 33))
          have HB1 := Lib.hid (below_alloc HB.out (.cells (aggX p) 33))
          have T := Lib.hid (enough_calls p (wr.alloc (.cells (aggX p) 33)) (HGP.out.below HB1.out) k)
          obtain ⟨y0, y1, y2, y3, y4, y5⟩ := blkX HX1.out
          clear hp HR HB
          go_wp2_with fail
          refine T.out.mono ?_
          rintro e w2 ⟨rfl, hb⟩
          have HX2 := Lib.hid (blk_below HX1.out hb)
          have HR2 := Lib.hid (blk_below HR1.out hb)
          have HB2 := Lib.hid (below_then HB1.out HB1.out.size hb)
          clear hb HX1 HR1 HB1 T y0 y1 y2 y3 y4 y5 a0 a1 a2 a3 a4 a5
          cases hen : decide (many p.x.act ≥ (k : Int))
          · have HST2 : Hid (PeerP.choose es k (xs_ (l.drop (n + 1))) = PeerP.choose es k (xs_ l)) := Lib.hid (by rw [HST.out]; simp only [PeerP.choose]; rw [if_neg (by simpa using hen)])
            clear hen
            go_wp2_with fail
            go_roundw
            case rel => exact ⟨n + 1, by go_num, Lib.hid ⟨by omega, HST2.out⟩, HR2, HB2⟩
            case measure => simp only [intOf]; omega
          · have HEN : Hid ((k : Int) ≤ many p.x.act) := Lib.hid (by simpa using hen)
            have T := Lib.hid (told_calls p A2 c2 es w2 (HGP.out.below HB2.out) (Kd.C_below HE.out HB2.out) (fun i hi => ⟨(HGE.out i hi).1.below HB2.out, (HGE.out i hi).2⟩) HS.out)
            obtain ⟨y0, y1, y2, y3, y4, y5⟩ := blkX HX2.out
            clear hen
            go_wp2_with fail
            refine T.out.mono ?_
            rintro e w3 ⟨tv, rfl, hR, hb⟩
            have HX3 := Lib.hid (blk_below HX2.out hb)
            have HR3 := Lib.hid (blk_below HR2.out hb)
            have HB3 := Lib.hid (below_then HB2.out HB2.out.size hb)
            have HT3 := Lib.hid (Kd.R_lower hR HB2.out.size)
            obtain ⟨ts, hts⟩ : ∃ ts, ts = told p.x [] es := ⟨_, rfl⟩
            have HTS := Lib.hid hts
            rw [← hts] at HT3
            have HGT : Hid (∀ i ∈ ts, GoodE w i) := Lib.hid (fun i hi => (HGE.out i (told_mem p.x es [] i (hts ▸ hi)).1).1)
            have HTL : Hid (ts.length ≤ 17592186044416) := Lib.hid (by have := told_len p.x es []; rw [← hts] at this; have := HS.out; omega)
            obtain ⟨At, ct, rfl⟩ := Kd.R_slice HT3.out
            have hml : ts.length ≤ 9223372036854775807 := by have := HTL.out; omega
            clear hb hR hts T HX2 HR2 HB2 y0 y1 y2 y3 y4 y5
            obtain ⟨wg, hwg⟩ : ∃ wg, wg = wr.heap.size := ⟨_, rfl⟩
            rw [← hwg] at HX3 ⊢
            have HWG := Lib.hid hwg
            clear hwg
            go_wp2_with fail
            go_loopw [13, 61] (fun v i' wr => ∃ (m : Nat), i' = .int .i64 m ∧ Hid (m ≤ ts.length) ∧ Hid (Ow .i64 3 wr w.heap.size v (heads p.x (ts.take m))) ∧ Hid (wr.heap[w.heap.size]? = some (.cells #[.int .i64 0, .int .i64 0, .int .i64 0, .slice none 0 0] 27 (0, 0))) ∧ Hid (wr.heap[wg]? = some (.cells (aggX p) 33 (0, 0))) ∧ Hid (kE.R 38 wr w.heap.size (fun _ => True) (.slice At ts.length ct) ts) ∧ Hid (Below w.heap.size w wr)) (fun _ i' _ => (ts.length - intOf i').toNat)
            case atStart => exact ⟨0, rfl, Lib.hid (Nat.zero_le _), Lib.hid (Ow.nil _ _ _ _), HR3, HX3, HT3, HB3⟩
            case round =>
              obtain ⟨m, rfl, HM, HO', HR', HX', HT', HB'⟩ := hrel
              clear HR3 HX3 HT3 HB3 hlt
              have HO := Lib.hid HO'.out
              have HR := Lib.hid HR'.out
              have HX := Lib.hid HX'.out
              have HT := Lib.hid HT'.out
              have HB := Lib.hid HB'.out
              clear HO' HR' HX' HT' HB'
              have hmm := HM.out
              obtain ⟨_, _, hC⟩ := Kd.R_reads' HT.out
              by_cases h2 : m < ts.length
              · have hlt : decide (m < ts.length) = true := decide_eq_true h2
                have j0 : (0 : Int) ≤ m := by omega
                obtain ⟨ae, q, hq, hA, a0, a1, a2, a3, a4⟩ := at_E hC m h2
                subst hA
                have HBA := Lib.hid (below_alloc (Below.refl wr.heap.size wr) (.cells (aggE q) 38))
                have HB1 := Lib.hid (below_alloc HB.out (.cells (aggE q) 38))
                have T := has_calls p q (wr.alloc (.cells (aggE q) 38)) (HGP.out.below HB1.out) ((HGT.out q (List.mem_of_getElem? hq)).below HB1.out)
                obtain ⟨r1, r2, hr⟩ : ∃ r1 r2, hasV (hasO p.x q.x) = (r1, r2) := ⟨_, _, rfl⟩
                rw [hr] at T
                have HH := Lib.hid (heads_take p.x ts m q hq)
                have HRR := Lib.hid hr
                have T := Lib.hid T
                have HX1 := Lib.hid (blk_alloc HX.out (.cells (aggE q) 38))
                have HR1 := Lib.hid (blk_alloc HR.out (.cells (aggE q) 38))
                have HT1 := Lib.hid (Kd.R_alloc HT.out (.cells (aggE q) 38))
                have HO1 := Lib.hid (Kd.R_alloc HO.out (.cells (aggE q) 38))
                obtain ⟨y0, y1, y2, y3, y4, y5⟩ := blkX HX1.out
                clear hr hq hC HX HR HT HO HB HBA
                go_wp2_with fail
                refine T.out.mono ?_
                rintro e w4 ⟨rfl, hb⟩
                have HX4 := Lib.hid (blk_below HX1.out hb)
                have HR4 := Lib.hid (blk_below HR1.out hb)
                have HT4 := Lib.hid (Kd.R_below HT1.out hb)
                have HO4 := Lib.hid (Kd.R_below HO1.out hb)
                have HB4 := Lib.hid (below_then HB1.out HB1.out.size hb)
                clear hb T HX1 HR1 HT1 HO1 HB1 y0 y1 y2 y3 y4 y5 a0 a1 a2 a3 a4
                cases r2
                · have HH2 : Hid (heads p.x (ts.take (m + 1)) = heads p.x (ts.take m)) := Lib.hid (by rw [HH.out]; have := HRR.out; cases hh : hasO p.x q.x with
                    | none => simp
                    | some z => rw [hh] at this; injection this with _ this; cases this)
                  go_wp2_with fail
                  go_roundw
                  case rel => exact ⟨m + 1, by go_num, Lib.hid (by omega), Lib.hid (by rw [HH2.out]; exact HO4.out), HR4, HX4, HT4, HB4⟩
                  case measure => simp only [intOf]; omega
                · have HH2 : Hid (heads p.x (ts.take (m + 1)) = heads p.x (ts.take m) ++ [r1]) := Lib.hid (by rw [HH.out]; have := HRR.out; cases hh : hasO p.x q.x with
                    | none => rw [hh] at this; injection this with _ this; cases this
                    | some z => rw [hh] at this; injection this with this _; subst this; rfl)
                  have HLW : Hid ((heads p.x (ts.take m)).length < ts.length) := Lib.hid (by have := heads_len p.x (ts.take m); have := List.length_take_le m ts; omega)
                  go_wp2_with (first | (at_builtin; go_must (refine Kd.R_append (Kd.int .i64) (w0 := w) w.heap.size rfl _ _ 25 3 (.int .i64 0) 8 rfl Try.underlying25 infoI rfl (by decide) (by decide) _ (heads p.x (ts.take m)) r1 [.int .i64 r1] (fun _ => True) (fun _ => False) rfl rfl rfl (fun _ hk => hk.elim) (fun _ _ => trivial) (by exact HO4.out) (by exact HB4.out) (by exact HB4.out.size) ?hl ?_; (case hl => have := HLW.out; have := HTL.out; omega)); intro v7 w7 ho hb hg hg2; have HX7 := Lib.hid (blk_grown HX4.out hg (Kd.R_ne HO4.out HX4.out (by decide))); have HR7 := Lib.hid (blk_grown HR4.out hg (Kd.R_ne HO4.out HR4.out (by decide))); have HT7 := Lib.hid (E_other HT4.out HO4.out hg); have HO7 := Lib.hid ho; have HB7 := Lib.hid hb; clear ho hb hg hg2 HX4 HR4 HT4 HO4 HB4))
                  go_roundw
                  case rel => exact ⟨m + 1, by go_num, Lib.hid (by omega), Lib.hid (by rw [HH2.out]; exact HO7.out), HR7, HX7, HT7, HB7⟩
                  case measure => simp only [intOf]; omega
              · obtain rfl : m = ts.length := by omega
                have hlt : decide (ts.length < ts.length) = false := decide_eq_false (by omega)
                rw [List.take_length] at HO
                obtain ⟨hs, hhs⟩ : ∃ hs, hs = heads p.x ts := ⟨_, rfl⟩
                have HHS := Lib.hid hhs
                rw [← hhs] at HO
                obtain ⟨Ah, ch, rfl⟩ := Kd.R_slice HO.out
                have hml2 : hs.length ≤ 9223372036854775807 := by have := heads_len p.x ts; rw [← hhs] at this; omega
                have HSTEP : Hid (PeerP.choose es k (xs_ l) = (if k ≤ hs.length then stateOf p.x ts k else if anyLacks p.x ts = true then PeerP.choose es k (xs_ (l.drop (n + 1))) else ⟨1, 0, 0, 0⟩)) := Lib.hid (by rw [HST.out]; simp only [PeerP.choose]; rw [if_pos HEN.out, ← HTS.out, ← hhs])
                clear hhs h2 hC hmm
                obtain ⟨y0, y1, y2, y3, y4, y5⟩ := blkX HX.out
                by_cases hk2 : k ≤ hs.length
                · have hd : decide (k ≤ hs.length) = true := decide_eq_true hk2
                  have HSTEP2 := Lib.hid (HSTEP.out.trans (if_pos hk2))
                  have T := Lib.hid (state_calls p At ct ts (.slice Ah hs.length ch) k w wr HGP.out HGT.out HT.out (by rw [← HHS.out]; exact HO.out) HK.out (by rw [← HHS.out]; exact hk2) HTL.out HB.out)
                  clear hk2
                  go_wp2_with fail
                  refine T.out.mono ?_
                  rintro e w6 ⟨Aw, cw, rfl, hg⟩
                  have HR6 := Lib.hid (blk_grown HR.out hg (Kd.R_ne HO.out HR.out (by decide)))
                  have HB6 := Lib.hid (HB.out.grown hg HB.out.size (fun z hz => (Kd.R_base HO.out z hz)))
                  clear hg T y0 y1 y2 y3 y4 y5
                  obtain ⟨⟨e0, e1, e2, e3⟩, f0, f1, f2, f3⟩ := blkR HR6.out
                  have HZ := Lib.hid (set4 HB6.out (Nat.le_refl _) (.int .i64 3) (.int .i64 p.x.fr) (.int .i64 (headOf p.x ts k)) (.slice Aw (ts.filter (reach p.x (headOf p.x ts k))).length cw))
                  go_wp2_with fail
                  refine bodyPost_ret (v := .tuple #[.agg (aggC (stateOf p.x ts k) Aw cw), .int .i64 0]) (by simp [results, Try.results6, go_sem, e0, e1, e2, e3, stateOf]) rfl ?_
                  rw [HSTEP2.out]
                  exact ⟨Aw, cw, rfl, HZ.out⟩
                · have hd : decide (k ≤ hs.length) = false := decide_eq_false hk2
                  have HSTEP2 := Lib.hid (HSTEP.out.trans (if_neg hk2))
                  have T := Lib.hid (contains_calls p At ct ts wg wr (HGP.out.below HB.out) (Kd.R_reads' HT.out).2.2 (fun i hi => (HGT.out i hi).below HB.out) HX.out)
                  clear hk2
                  go_wp2_with fail
                  refine T.out.mono ?_
                  rintro e w6 ⟨rfl, hb⟩
                  have HR6 := Lib.hid (blk_below HR.out hb)
                  have HB6 := Lib.hid (below_then HB.out HB.out.size hb)
                  clear hb T y0 y1 y2 y3 y4 y5
                  cases hal : anyLacks p.x ts
                  · have HS3 : Hid (PeerP.choose es k (xs_ l) = ⟨1, 0, 0, 0⟩) := Lib.hid (HSTEP2.out.trans (if_neg (by rw [hal]; decide)))
                    obtain ⟨⟨e0, e1, e2, e3⟩, f0, f1, f2, f3⟩ := blkR HR6.out
                    have HZ := Lib.hid (set4 HB6.out (Nat.le_refl _) (.int .i64 1) (.int .i64 0) (.int .i64 0) (.slice none 0 0))
                    clear hal
                    go_wp2_with fail
                    refine bodyPost_ret (v := .tuple #[.agg (aggC ⟨1, 0, 0, 0⟩ none 0), .int .i64 0]) (by simp [results, Try.results6, go_sem, e0, e1, e2, e3]) rfl ?_
                    rw [HS3.out]
                    exact ⟨none, 0, rfl, HZ.out⟩
                  · have HS3 : Hid (PeerP.choose es k (xs_ (l.drop (n + 1))) = PeerP.choose es k (xs_ l)) := Lib.hid ((HSTEP2.out.trans (if_pos hal)).symm)
                    clear hal
                    go_wp2_with fail
                    go_roundw
                    case rel => exact ⟨n + 1, by go_num, Lib.hid ⟨by omega, HS3.out⟩, HR6, HB6⟩
                    case measure => simp only [intOf]; omega
        · obtain rfl : n = l.length := by omega
          have hlt : decide (l.length < l.length) = false := decide_eq_false (by omega)
          have HE2 : Hid (PeerP.choose es k (xs_ l) = ⟨2, 0, 0, 0⟩) := Lib.hid (by rw [← HN.out.2, List.drop_length]; rfl)
          obtain ⟨⟨e0, e1, e2, e3⟩, f0, f1, f2, f3⟩ := blkR HR.out
          have HZ := Lib.hid (set4 HB.out (Nat.le_refl _) (.int .i64 2) (.int .i64 0) (.int .i64 0) (.slice none 0 0))
          clear h
          go_wp2_with fail
          refine bodyPost_ret (v := .tuple #[.agg (aggC ⟨2, 0, 0, 0⟩ none 0), .int .i64 0]) (by simp [results, Try.results6, go_sem, e0, e1, e2, e3]) rfl ?_
          rw [HE2.out]
          exact ⟨none, 0, rfl, HZ.out⟩
end
end Go.Proofs.Ytffmhbblcihogaa.PeerC
