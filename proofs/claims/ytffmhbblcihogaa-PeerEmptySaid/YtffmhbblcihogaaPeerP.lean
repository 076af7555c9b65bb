import Derived.Test.YtffmhbblcihogaaPAllx2
import Derived.Test.YtffmhbblcihogaaPAllx3
import Derived.Test.YtffmhbblcihogaaPAllx4
import Derived.Test.YtffmhbblcihogaaPAllx5
/- What peering asks of intervals and infos, on plain lists. -/
namespace Go.Proofs.Ytffmhbblcihogaa.PeerP
open Go.RowKit Go.Proofs.YtffmhbblcihogaaW.PrintWords PAll
abbrev St := S52
structure Iv where
  fr : Int
  til : Int
  act : List Int
  lives : List Int
  boots : List Int
  prim : Int
structure In where
  osd : Int
  life : Int
  now : Int
  head : Int
  next : List St
def cntL : List Int → List Int → Int → Int → Bool
  | a :: xs, l :: ls, o, f => (a == o && (a != -1 && l == f)) || cntL xs ls o f
  | _, _, _, _ => false
def cnt (x : Iv) (i : In) : Bool := cntL x.act x.lives i.osd i.life
def nextF : List St → Int → Option Int
  | [], _ => none
  | s :: r, f => if s.f0 = f then some s.f1 else nextF r f
def hasO (x : Iv) (i : In) : Option Int := if cnt x i then (if i.now = x.fr then some i.head else nextF i.next x.fr) else none
def hasV : Option Int → Int × Bool
  | some h => (h, true)
  | none => (0, false)
def lacks (x : Iv) (i : In) : Bool := cnt x i && ((hasO x i).isNone && decide (i.now < x.fr))
def many : List Int → Int
  | [] => 0
  | a :: r => (if a = -1 then 0 else 1) + many r
theorem many_le : ∀ l : List Int, 0 ≤ many l ∧ many l ≤ l.length
  | [] => by simp [many]
  | a :: r => by
    have := many_le r
    simp only [many, List.length_cons]
    split <;> omega
theorem cntL_nil (xs : List Int) (o f : Int) : cntL xs [] o f = false := by cases xs <;> rfl
theorem wrap_next {n : Nat} {m : Nat} (h : n < m) (hm : m ≤ 9223372036854775807) : wrap64 ((n : Int) + 1) = ((n + 1 : Nat) : Int) := by unfold wrap64; omega
theorem rd_drop {l : List Int} {n : Nat} (h : n < l.length) : l.drop n = rd l (n : Int) :: l.drop (n + 1) := by
  rw [List.drop_eq_getElem_cons h]
  simp [rd, List.getD_eq_getElem?_getD, List.getElem?_eq_getElem h]
theorem rdT_drop {l : List St} {n : Nat} (h : n < l.length) : l.drop n = rd_T52 l (n : Int) :: l.drop (n + 1) := by
  rw [List.drop_eq_getElem_cons h]
  simp [rd_T52, List.getD_eq_getElem?_getD, List.getElem?_eq_getElem h]
theorem place_at (a b : Int) (act lives boots : List Int) (p o f : Int) (hl : act.length ≤ 9223372036854775807) : ∀ (d k n : Nat), act.length - n = d → n ≤ act.length → d < k →
    ∃ r, interval_Place.l0 k o f act (act.length : Int) (n : Int) a b act lives boots p = some r ∧ decide (r ≥ 0) = cntL (act.drop n) (lives.drop n) o f := by
  intro d
  induction d with
  | zero =>
    intro k n hd hn hk
    obtain ⟨k, rfl⟩ : ∃ m, k = m + 1 := ⟨k - 1, by omega⟩
    refine ⟨-1, ?_, ?_⟩
    · simp only [interval_Place.l0]
      rw [if_neg (by omega)]
    · rw [List.drop_eq_nil_of_le (by omega)]; rfl
  | succ d ih =>
    intro k n hd hn hk
    obtain ⟨k, rfl⟩ : ∃ m, k = m + 1 := ⟨k - 1, by omega⟩
    have hlt : n < act.length := by omega
    obtain ⟨r, hr, hc⟩ := ih k (n + 1) (by omega) (by omega) (by omega)
    simp only [interval_Place.l0]
    rw [if_pos (by omega), if_pos (by omega), if_pos (by omega), wrap_next hlt hl, hr, rd_drop hlt]
    by_cases h1 : rd act (n : Int) = o
    · rw [if_pos h1]
      by_cases h2 : rd act (n : Int) = -1
      · rw [if_pos h2]
        refine ⟨r, rfl, ?_⟩
        rw [hc]
        rcases Nat.lt_or_ge n lives.length with h3 | h3
        · rw [rd_drop h3]
          simp [cntL, h2]
        · rw [List.drop_eq_nil_of_le h3, List.drop_eq_nil_of_le (by omega : lives.length ≤ n + 1), cntL_nil, cntL_nil]
      · rw [if_neg h2]
        rcases Nat.lt_or_ge n lives.length with h3 | h3
        · rw [if_pos (by omega), rd_drop h3]
          by_cases h4 : rd lives (n : Int) = f
          · rw [if_pos h4]
            refine ⟨n, rfl, ?_⟩
            have e1 : (rd act (n : Int) == o) = true := beq_iff_eq.2 h1
            have e2 : (rd act (n : Int) != -1) = true := bne_iff_ne.2 h2
            have e4 : (rd lives (n : Int) == f) = true := beq_iff_eq.2 h4
            have e5 : decide ((n : Int) ≥ 0) = true := decide_eq_true (by omega)
            rw [e5]
            simp only [cntL, e1, e2, e4]; rfl
          · rw [if_neg h4]
            refine ⟨r, rfl, ?_⟩
            have e4 : (rd lives (n : Int) == f) = false := beq_eq_false_iff_ne.2 h4
            rw [hc]
            simp only [cntL, e4, Bool.and_false, Bool.false_or]
        · rw [if_neg (by omega)]
          refine ⟨r, rfl, ?_⟩
          rw [hc, List.drop_eq_nil_of_le h3, List.drop_eq_nil_of_le (by omega : lives.length ≤ n + 1), cntL_nil, cntL_nil]
    · rw [if_neg h1]
      refine ⟨r, rfl, ?_⟩
      rw [hc]
      rcases Nat.lt_or_ge n lives.length with h3 | h3
      · rw [rd_drop h3]
        have e1 : (rd act (n : Int) == o) = false := beq_eq_false_iff_ne.2 h1
        simp only [cntL, e1, Bool.false_and, Bool.false_or]
      · rw [List.drop_eq_nil_of_le h3, List.drop_eq_nil_of_le (by omega : lives.length ≤ n + 1), cntL_nil, cntL_nil]
theorem counts_f (x : Iv) (i : In) (hl : x.act.length ≤ 9223372036854775807) (k : Nat) (hk : x.act.length < k) : peer_counts.f k x.fr x.til x.act x.lives x.boots x.prim i.osd i.life i.now i.head i.next = some (cnt x i) := by
  obtain ⟨r, hr, hc⟩ := place_at x.fr x.til x.act x.lives x.boots x.prim i.osd i.life hl x.act.length k 0 (by omega) (by omega) hk
  unfold peer_counts.f interval_Place.f
  have hr' : interval_Place.l0 k i.osd i.life x.act (x.act.length : Int) 0 x.fr x.til x.act x.lives x.boots x.prim = some r := hr
  rw [hr']
  simp only [Option.bind_some]
  rw [hc]
  rfl
theorem next_at (a b : Int) (act lives boots : List Int) (p : Int) (l : List St) (hl : l.length ≤ 9223372036854775807) : ∀ (d k n : Nat), l.length - n = d → n ≤ l.length → d < k →
    peer_Has.l0 k l (l.length : Int) (n : Int) a b act lives boots p = some (hasV (nextF (l.drop n) a)) := by
  intro d
  induction d with
  | zero =>
    intro k n hd hn hk
    obtain ⟨k, rfl⟩ : ∃ m, k = m + 1 := ⟨k - 1, by omega⟩
    simp only [peer_Has.l0]
    rw [if_neg (by omega), List.drop_eq_nil_of_le (by omega)]
    rfl
  | succ d ih =>
    intro k n hd hn hk
    obtain ⟨k, rfl⟩ : ∃ m, k = m + 1 := ⟨k - 1, by omega⟩
    have hlt : n < l.length := by omega
    simp only [peer_Has.l0]
    rw [if_pos (by omega), if_pos (by omega), if_pos (by omega), wrap_next hlt hl, ih k (n + 1) (by omega) (by omega) (by omega), rdT_drop hlt]
    simp only [nextF]
    by_cases h : (rd_T52 l (n : Int)).f0 = a
    · rw [if_pos h, if_pos h]; rfl
    · rw [if_neg h, if_neg h]
theorem has_f (x : Iv) (i : In) (hl : x.act.length ≤ 9223372036854775807) (hn : i.next.length ≤ 9223372036854775807) (k : Nat) (hk : x.act.length < k) (hk2 : i.next.length < k) :
    peer_Has.f k x.fr x.til x.act x.lives x.boots x.prim i.osd i.life i.now i.head i.next = some (hasV (hasO x i)) := by
  unfold peer_Has.f
  rw [counts_f x i hl k hk]
  simp only [Option.bind_some]
  unfold hasO
  by_cases h : cnt x i = true
  · rw [if_pos h, if_pos h]
    by_cases h2 : i.now = x.fr
    · rw [if_pos h2, if_pos h2]; rfl
    · rw [if_neg h2, if_neg h2]
      exact next_at x.fr x.til x.act x.lives x.boots x.prim i.next hn i.next.length k 0 (by omega) (by omega) hk2
  · rw [if_neg h, if_neg h]; rfl
theorem lacks_f (x : Iv) (i : In) (hl : x.act.length ≤ 9223372036854775807) (hn : i.next.length ≤ 9223372036854775807) (k : Nat) (hk : x.act.length < k) (hk2 : i.next.length < k) :
    peer_Lacks.f k x.fr x.til x.act x.lives x.boots x.prim i.osd i.life i.now i.head i.next = some (lacks x i) := by
  unfold peer_Lacks.f
  rw [has_f x i hl hn k hk hk2, counts_f x i hl k hk]
  simp only [Option.bind_some]
  unfold lacks
  cases h : cnt x i
  · rfl
  · cases h2 : hasO x i
    · simp [hasV]
    · simp [hasV]
theorem enough_at (m : Int) (act : List Int) (hl : act.length ≤ 9223372036854775807) : ∀ (d k n : Nat) (c : Int), act.length - n = d → n ≤ act.length → 0 ≤ c → c ≤ n → d < k →
    interval_Enough.l0 k m c act (act.length : Int) (n : Int) = some (decide (c + many (act.drop n) ≥ m)) := by
  intro d
  induction d with
  | zero =>
    intro k n c hd hn h0 hc hk
    obtain ⟨k, rfl⟩ : ∃ m, k = m + 1 := ⟨k - 1, by omega⟩
    simp only [interval_Enough.l0]
    rw [if_neg (by omega), List.drop_eq_nil_of_le (by omega)]
    simp [many]
  | succ d ih =>
    intro k n c hd hn h0 hc hk
    obtain ⟨k, rfl⟩ : ∃ m, k = m + 1 := ⟨k - 1, by omega⟩
    have hlt : n < act.length := by omega
    simp only [interval_Enough.l0]
    rw [if_pos (by omega), if_pos (by omega), if_pos (by omega), wrap_next hlt hl, rd_drop hlt]
    by_cases h : rd act (n : Int) = -1
    · rw [show many (rd act (n : Int) :: act.drop (n + 1)) = many (act.drop (n + 1)) by simp only [many]; rw [if_pos h, Int.zero_add]]
      rw [if_pos h, ih k (n + 1) c (by omega) (by omega) h0 (by omega) (by omega)]
    · rw [show many (rd act (n : Int) :: act.drop (n + 1)) = 1 + many (act.drop (n + 1)) by simp only [many]; rw [if_neg h]]
      rw [if_neg h, show wrap64 (c + 1) = c + 1 by unfold wrap64; omega, ih k (n + 1) (c + 1) (by omega) (by omega) (by omega) (by omega) (by omega)]
      rw [Int.add_assoc]
theorem enough_f (x : Iv) (m : Int) (hl : x.act.length ≤ 9223372036854775807) (k : Nat) (hk : x.act.length < k) : interval_Enough.f k x.fr x.til x.act x.lives x.boots x.prim m = some (decide (many x.act ≥ m)) := by
  have := enough_at m x.act hl x.act.length k 0 0 (by omega) (by omega) (by omega) (by omega) hk
  unfold interval_Enough.f
  rw [List.drop_zero, Int.zero_add] at this
  exact this
theorem count_at (a b : Int) (act lives boots : List Int) (p : Int) (hl : act.length ≤ 9223372036854775807) : ∀ (d k n : Nat) (c : Int), act.length - n = d → n ≤ act.length → 0 ≤ c → c ≤ n → d < k →
    mooringref17_Count.l0 k c (n : Int) a b act lives boots p = some (c + many (act.drop n)) := by
  intro d
  induction d with
  | zero =>
    intro k n c hd hn h0 hc hk
    obtain ⟨k, rfl⟩ : ∃ m, k = m + 1 := ⟨k - 1, by omega⟩
    simp only [mooringref17_Count.l0]
    rw [if_neg (by omega), List.drop_eq_nil_of_le (by omega)]
    simp [many]
  | succ d ih =>
    intro k n c hd hn h0 hc hk
    obtain ⟨k, rfl⟩ : ∃ m, k = m + 1 := ⟨k - 1, by omega⟩
    have hlt : n < act.length := by omega
    simp only [mooringref17_Count.l0]
    rw [if_pos (by omega), if_pos (by omega), wrap_next hlt hl, rd_drop hlt]
    simp only [many]
    by_cases h : rd act (n : Int) = -1
    · rw [if_pos h, if_pos h, ih k (n + 1) c (by omega) (by omega) h0 (by omega) (by omega)]
      simp
    · rw [if_neg h, if_neg h, show wrap64 (c + 1) = c + 1 by unfold wrap64; omega, ih k (n + 1) (c + 1) (by omega) (by omega) (by omega) (by omega) (by omega)]
      rw [Int.add_assoc]
theorem count_f (x : Iv) (hl : x.act.length ≤ 9223372036854775807) (k : Nat) (hk : x.act.length < k) : mooringref17_Count.f k x.fr x.til x.act x.lives x.boots x.prim = some (many x.act) := by
  have := count_at x.fr x.til x.act x.lives x.boots x.prim hl x.act.length k 0 0 (by omega) (by omega) (by omega) (by omega) hk
  unfold mooringref17_Count.f
  rw [List.drop_zero, Int.zero_add] at this
  exact this
theorem lcounts_at (x : Iv) (i : In) (hl : x.act.length ≤ 9223372036854775807) : ∀ (d k n : Nat), x.act.length - n = d → n ≤ x.act.length → 2 * d + 1 < k →
    mooringlaw22_counts.l0 k (n : Int) x.fr x.til x.act x.lives x.boots x.prim i.osd i.life i.now i.head i.next = some (cntL (x.act.drop n) (x.lives.drop n) i.osd i.life) := by
  intro d
  induction d with
  | zero =>
    intro k n hd hn hk
    obtain ⟨k, rfl⟩ : ∃ m, k = m + 2 := ⟨k - 2, by omega⟩
    simp only [mooringlaw22_counts.l0]
    rw [if_neg (by omega)]
    simp only [mooringlaw22_counts.j1]
    rw [if_neg (by decide), List.drop_eq_nil_of_le (by omega)]
    rfl
  | succ d ih =>
    intro k n hd hn hk
    obtain ⟨k, rfl⟩ : ∃ m, k = m + 2 := ⟨k - 2, by omega⟩
    have hlt : n < x.act.length := by omega
    simp only [mooringlaw22_counts.l0]
    rw [if_pos (by omega)]
    simp only [mooringlaw22_counts.j1]
    rw [wrap_next hlt hl, ih k (n + 1) (by omega) (by omega) (by omega), rd_drop hlt]
    rcases Nat.lt_or_ge n x.lives.length with h3 | h3
    · rw [if_pos (decide_eq_true (by omega)), if_pos (by omega), if_pos (by omega), rd_drop h3]
      by_cases h2 : rd x.act (n : Int) = -1
      · rw [if_pos h2]; simp [cntL, h2]
      · rw [if_neg h2]
        have e2 : (rd x.act (n : Int) != -1) = true := bne_iff_ne.2 h2
        by_cases h1 : rd x.act (n : Int) = i.osd
        · have e1 : (rd x.act (n : Int) == i.osd) = true := beq_iff_eq.2 h1
          rw [if_pos h1, if_pos (by omega)]
          by_cases h4 : rd x.lives (n : Int) = i.life
          · have e4 : (rd x.lives (n : Int) == i.life) = true := beq_iff_eq.2 h4
            rw [if_pos h4]
            simp only [cntL, e1, e2, e4]; rfl
          · have e4 : (rd x.lives (n : Int) == i.life) = false := beq_eq_false_iff_ne.2 h4
            rw [if_neg h4]
            simp only [cntL, e4, Bool.and_false, Bool.false_or]
        · have e1 : (rd x.act (n : Int) == i.osd) = false := beq_eq_false_iff_ne.2 h1
          rw [if_neg h1]
          simp only [cntL, e1, Bool.false_and, Bool.false_or]
    · rw [if_neg (by simp; omega), List.drop_eq_nil_of_le h3, cntL_nil]
theorem lcounts_f (x : Iv) (i : In) (hl : x.act.length ≤ 9223372036854775807) (k : Nat) (hk : 2 * x.act.length + 1 < k) :
    mooringlaw22_counts.f k x.fr x.til x.act x.lives x.boots x.prim i.osd i.life i.now i.head i.next = some (cnt x i) :=
  lcounts_at x i hl x.act.length k 0 (by omega) (by omega) hk
theorem rplace_at (x : Iv) (o f : Int) (hl : x.act.length ≤ 9223372036854775807) : ∀ (d k n : Nat), x.act.length - n = d → n ≤ x.act.length → 2 * d + 1 < k →
    ∃ r, mooringref22_place.l0 k o f (n : Int) x.fr x.til x.act x.lives x.boots x.prim = some r ∧ decide (r < 0) = !(cntL (x.act.drop n) (x.lives.drop n) o f) := by
  intro d
  induction d with
  | zero =>
    intro k n hd hn hk
    obtain ⟨k, rfl⟩ : ∃ m, k = m + 2 := ⟨k - 2, by omega⟩
    simp only [mooringref22_place.l0]
    rw [if_neg (by omega)]
    simp only [mooringref22_place.j1]
    rw [if_neg (by decide), List.drop_eq_nil_of_le (by omega)]
    exact ⟨-1, rfl, rfl⟩
  | succ d ih =>
    intro k n hd hn hk
    obtain ⟨k, rfl⟩ : ∃ m, k = m + 2 := ⟨k - 2, by omega⟩
    have hlt : n < x.act.length := by omega
    obtain ⟨r, hr, hc⟩ := ih k (n + 1) (by omega) (by omega) (by omega)
    simp only [mooringref22_place.l0]
    rw [if_pos (by omega)]
    simp only [mooringref22_place.j1]
    rw [wrap_next hlt hl, hr, rd_drop hlt]
    rcases Nat.lt_or_ge n x.lives.length with h3 | h3
    · rw [if_pos (decide_eq_true (by omega)), if_pos (by omega), if_pos (by omega), rd_drop h3]
      by_cases h2 : rd x.act (n : Int) = -1
      · rw [if_pos h2]
        exact ⟨r, rfl, by rw [hc]; simp [cntL, h2]⟩
      · rw [if_neg h2]
        have e2 : (rd x.act (n : Int) != -1) = true := bne_iff_ne.2 h2
        by_cases h1 : rd x.act (n : Int) = o
        · have e1 : (rd x.act (n : Int) == o) = true := beq_iff_eq.2 h1
          rw [if_pos h1, if_pos (by omega)]
          by_cases h4 : rd x.lives (n : Int) = f
          · have e4 : (rd x.lives (n : Int) == f) = true := beq_iff_eq.2 h4
            rw [if_pos h4]
            refine ⟨n, rfl, ?_⟩
            simp only [cntL, e1, e2, e4]
            exact decide_eq_false (by omega)
          · have e4 : (rd x.lives (n : Int) == f) = false := beq_eq_false_iff_ne.2 h4
            rw [if_neg h4]
            refine ⟨r, rfl, ?_⟩
            rw [hc]
            simp only [cntL, e4, Bool.and_false, Bool.false_or]
        · have e1 : (rd x.act (n : Int) == o) = false := beq_eq_false_iff_ne.2 h1
          rw [if_neg h1]
          refine ⟨r, rfl, ?_⟩
          rw [hc]
          simp only [cntL, e1, Bool.false_and, Bool.false_or]
    · rw [if_neg (by simp; omega), List.drop_eq_nil_of_le h3, cntL_nil]
      exact ⟨-1, rfl, rfl⟩
theorem rnext_at (x : Iv) (i : In) (hl : i.next.length ≤ 9223372036854775807) : ∀ (d k n : Nat), i.next.length - n = d → n ≤ i.next.length → d < k →
    mooringref22_Has.l0 k (n : Int) x.fr x.til x.act x.lives x.boots x.prim i.osd i.life i.now i.head i.next = some (hasV (nextF (i.next.drop n) x.fr)) := by
  intro d
  induction d with
  | zero =>
    intro k n hd hn hk
    obtain ⟨k, rfl⟩ : ∃ m, k = m + 1 := ⟨k - 1, by omega⟩
    simp only [mooringref22_Has.l0]
    rw [if_neg (by omega), List.drop_eq_nil_of_le (by omega)]
    rfl
  | succ d ih =>
    intro k n hd hn hk
    obtain ⟨k, rfl⟩ : ∃ m, k = m + 1 := ⟨k - 1, by omega⟩
    have hlt : n < i.next.length := by omega
    simp only [mooringref22_Has.l0]
    rw [if_pos (by omega), if_pos (by omega), wrap_next hlt hl, ih k (n + 1) (by omega) (by omega) (by omega), rdT_drop hlt]
    simp only [nextF]
    by_cases h : (rd_T52 i.next (n : Int)).f0 = x.fr
    · rw [if_pos h, if_pos h]; rfl
    · rw [if_neg h, if_neg h]
theorem rhas_f (x : Iv) (i : In) (hl : x.act.length ≤ 9223372036854775807) (hn : i.next.length ≤ 9223372036854775807) (k : Nat) (hk : 2 * x.act.length + 1 < k) (hk2 : i.next.length < k) :
    mooringref22_Has.f k x.fr x.til x.act x.lives x.boots x.prim i.osd i.life i.now i.head i.next = some (hasV (hasO x i)) := by
  obtain ⟨r, hr, hc⟩ := rplace_at x i.osd i.life hl x.act.length k 0 (by omega) (by omega) hk
  unfold mooringref22_Has.f mooringref22_place.f
  have hr' : mooringref22_place.l0 k i.osd i.life 0 x.fr x.til x.act x.lives x.boots x.prim = some r := hr
  rw [hr']
  simp only [Option.bind_some]
  unfold hasO cnt
  simp only [List.drop_zero] at hc
  cases h : cntL x.act x.lives i.osd i.life
  · rw [h] at hc
    rw [if_pos (of_decide_eq_true hc)]; rfl
  · rw [h] at hc
    rw [if_neg (of_decide_eq_false hc), if_pos rfl]
    by_cases h2 : i.now = x.fr
    · rw [if_pos h2, if_pos h2]; rfl
    · rw [if_neg h2, if_neg h2]
      exact rnext_at x i hn i.next.length k 0 (by omega) (by omega) hk2
theorem rlacks_f (x : Iv) (i : In) (hl : x.act.length ≤ 9223372036854775807) (hn : i.next.length ≤ 9223372036854775807) (k : Nat) (hk : 2 * x.act.length + 1 < k) (hk2 : i.next.length < k) :
    mooringref22_Lacks.f k x.fr x.til x.act x.lives x.boots x.prim i.osd i.life i.now i.head i.next = some (lacks x i) := by
  obtain ⟨r, hr, hc⟩ := rplace_at x i.osd i.life hl x.act.length k 0 (by omega) (by omega) hk
  unfold mooringref22_Lacks.f
  rw [rhas_f x i hl hn k hk hk2]
  unfold mooringref22_place.f
  have hr' : mooringref22_place.l0 k i.osd i.life 0 x.fr x.til x.act x.lives x.boots x.prim = some r := hr
  rw [hr']
  simp only [Option.bind_some]
  unfold lacks cnt
  simp only [List.drop_zero] at hc
  cases h : cntL x.act x.lives i.osd i.life
  · rw [h] at hc
    have := of_decide_eq_true hc
    rw [if_neg (by omega)]; rfl
  · rw [h] at hc
    have := of_decide_eq_false hc
    rw [if_pos (by omega)]
    cases h2 : hasO x i
    · simp [hasV]
    · simp [hasV]
end Go.Proofs.Ytffmhbblcihogaa.PeerP
