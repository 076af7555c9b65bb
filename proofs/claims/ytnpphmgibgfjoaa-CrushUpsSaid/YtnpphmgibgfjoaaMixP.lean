import Derived.Lib.BitFns
import Derived.Lib.ItoaNum
namespace Go.Proofs.Ytnpphmgibgfjoaa.MixP

/-! ### logarithms -/
def sq (y : Nat) : Nat := y * y / 2147483648
def stp (y : Nat) : Nat := if 4294967296 ≤ sq y then sq y / 2 else sq y
def bitv (y : Nat) : Nat := if 4294967296 ≤ sq y then 1 else 0
def run : Nat → Nat → Nat → Nat
  | 0, _, o => o
  | k + 1, y, o => run k (stp y) (2 * o + bitv y)
def exp2 (u : Nat) : Nat := Lib.bitLen u - 1
def norm (u : Nat) : Nat := u * 2 ^ (31 - exp2 u)
def logn (u : Nat) : Nat := run 24 (norm u) (exp2 u)
def Nrm (y : Nat) : Prop := 2147483648 ≤ y ∧ y < 4294967296

theorem sq_lo {y : Nat} (h : Nrm y) : 2147483648 ≤ sq y := by
  have : 2147483648 * 2147483648 ≤ y * y := Nat.mul_le_mul h.1 h.1
  unfold sq; omega
theorem sq_hi {y : Nat} (h : Nrm y) : sq y < 8589934592 := by
  have h2 := h.2
  have : y * y ≤ 4294967295 * 4294967295 := Nat.mul_le_mul (by omega) (by omega)
  unfold sq; omega
theorem stp_nrm {y : Nat} (h : Nrm y) : Nrm (stp y) := by
  have h1 := sq_lo h
  have h2 := sq_hi h
  unfold stp Nrm
  split <;> omega
theorem bitv_le (y : Nat) : bitv y ≤ 1 := by unfold bitv; split <;> omega

theorem exp2_spec {u : Nat} (h0 : u ≠ 0) (h : u ≤ 65536) : 2 ^ exp2 u ≤ u ∧ u < 2 ^ (exp2 u + 1) ∧ exp2 u ≤ 16 := by
  obtain ⟨a, b, c⟩ := Lib.bitLenAux_bounds 64 u (by omega) h0
  have e : Lib.bitLen u = exp2 u + 1 := by unfold exp2 Lib.bitLen; omega
  have b' : 2 ^ exp2 u ≤ u := b
  refine ⟨b', by rw [← e]; exact c, ?_⟩
  rcases Nat.lt_or_ge 16 (exp2 u) with hc | hc
  · have : 2 ^ 17 ≤ 2 ^ exp2 u := Nat.pow_le_pow_right (by decide) hc
    omega
  · exact hc
theorem exp2_unique {u n : Nat} (h : u ≤ 65536) (h1 : 2 ^ n ≤ u) (h2 : u < 2 ^ (n + 1)) : exp2 u = n := by
  have hp : 0 < 2 ^ n := Nat.pow_pos (by decide)
  obtain ⟨a, b, _⟩ := exp2_spec (u := u) (by omega) h
  rcases Nat.lt_trichotomy (exp2 u) n with hc | hc | hc
  · have : 2 ^ (exp2 u + 1) ≤ 2 ^ n := Nat.pow_le_pow_right (by decide) hc
    omega
  · exact hc
  · have : 2 ^ (n + 1) ≤ 2 ^ exp2 u := Nat.pow_le_pow_right (by decide) hc
    omega
theorem norm_nrm {u : Nat} (h0 : u ≠ 0) (h : u ≤ 65536) : Nrm (norm u) := by
  obtain ⟨a, b, c⟩ := exp2_spec h0 h
  have e1 : 2 ^ exp2 u * 2 ^ (31 - exp2 u) = 2147483648 := by rw [← Nat.pow_add]; rw [show exp2 u + (31 - exp2 u) = 31 from by omega]
  have e2 : 2 ^ (exp2 u + 1) * 2 ^ (31 - exp2 u) = 4294967296 := by rw [← Nat.pow_add]; rw [show exp2 u + 1 + (31 - exp2 u) = 32 from by omega]
  have hp : 0 < 2 ^ (31 - exp2 u) := Nat.pow_pos (by decide)
  unfold norm Nrm
  constructor
  · rw [← e1]; exact Nat.mul_le_mul_right _ a
  · rw [← e2]; exact Nat.mul_lt_mul_of_pos_right b hp
theorem norm_two {u : Nat} (h0 : u ≠ 0) (h : u ≤ 32768) : norm (2 * u) = norm u ∧ exp2 (2 * u) = exp2 u + 1 := by
  obtain ⟨a, b, _⟩ := exp2_spec h0 (by omega)
  have e : exp2 (2 * u) = exp2 u + 1 := exp2_unique (by omega) (by rw [Nat.pow_succ]; omega) (by rw [Nat.pow_succ (n := 2) (m := exp2 u + 1)]; omega)
  have c : exp2 u ≤ 15 := by
    rcases Nat.lt_or_ge 15 (exp2 u) with hc | hc
    · have : 2 ^ 16 ≤ 2 ^ exp2 u := Nat.pow_le_pow_right (by decide) hc
      omega
    · exact hc
  refine ⟨?_, e⟩
  unfold norm
  rw [e, show 31 - exp2 u = (31 - (exp2 u + 1)) + 1 from by omega, Nat.pow_succ, Nat.mul_comm 2 u, Nat.mul_assoc, Nat.mul_comm 2]
theorem run_add (k : Nat) : ∀ y o c, run k y (o + c) = run k y o + 2 ^ k * c := by
  induction k with
  | zero => intro y o c; simp [run]
  | succ k ih =>
    intro y o c
    simp only [run]
    rw [show 2 * (o + c) + bitv y = (2 * o + bitv y) + 2 * c from by omega, ih, Nat.pow_succ, Nat.mul_assoc]
theorem run_lt (k : Nat) : ∀ y o, run k y o < 2 ^ k * (o + 1) := by
  induction k with
  | zero => intro y o; simp [run]
  | succ k ih =>
    intro y o
    simp only [run]
    have h1 := ih (stp y) (2 * o + bitv y)
    have h2 := bitv_le y
    have h3 : 2 ^ k * (2 * o + bitv y + 1) ≤ 2 ^ k * (2 * (o + 1)) := Nat.mul_le_mul_left _ (by omega)
    rw [Nat.pow_succ, Nat.mul_assoc]
    exact Nat.lt_of_lt_of_le h1 h3
theorem run_ge (k : Nat) : ∀ y o, 2 ^ k * o ≤ run k y o := by
  induction k with
  | zero => intro y o; simp [run]
  | succ k ih =>
    intro y o
    simp only [run]
    have h1 := ih (stp y) (2 * o + bitv y)
    have h3 : 2 ^ k * (2 * o) ≤ 2 ^ k * (2 * o + bitv y) := Nat.mul_le_mul_left _ (by omega)
    rw [Nat.pow_succ, Nat.mul_assoc]
    exact Nat.le_trans h3 h1
theorem sq_mono {y z : Nat} (h : y ≤ z) : sq y ≤ sq z := by
  unfold sq; exact Nat.div_le_div_right (Nat.mul_le_mul h h)
theorem run_mono (k : Nat) : ∀ y z o, y ≤ z → run k y o ≤ run k z o := by
  induction k with
  | zero => intro y z o _; simp [run]
  | succ k ih =>
    intro y z o h
    have hs := sq_mono h
    simp only [run]
    by_cases h1 : 4294967296 ≤ sq y
    · have h2 : 4294967296 ≤ sq z := by omega
      have e1 : bitv y = 1 := by simp [bitv, h1]
      have e2 : bitv z = 1 := by simp [bitv, h2]
      rw [e1, e2]
      refine ih _ _ _ ?_
      simp only [stp, if_pos h1, if_pos h2]
      omega
    · have e1 : bitv y = 0 := by simp [bitv, h1]
      by_cases h2 : 4294967296 ≤ sq z
      · have e2 : bitv z = 1 := by simp [bitv, h2]
        rw [e1, e2]
        have a := run_lt k (stp y) (2 * o + 0)
        have b := run_ge k (stp z) (2 * o + 1)
        have c : 2 ^ k * (2 * o + 0 + 1) ≤ 2 ^ k * (2 * o + 1) := Nat.le_refl _
        omega
      · have e2 : bitv z = 0 := by simp [bitv, h2]
        rw [e1, e2]
        refine ih _ _ _ ?_
        simp only [stp, if_neg h1, if_neg h2]
        exact hs
theorem logn_two {u : Nat} (h0 : u ≠ 0) (h : u ≤ 32768) : logn (2 * u) = logn u + 16777216 := by
  obtain ⟨a, b⟩ := norm_two h0 h
  unfold logn
  rw [a, b, run_add]
theorem logn_mono {u v : Nat} (h0 : u ≠ 0) (h : u ≤ v) (hv : v ≤ 65536) : logn u ≤ logn v := by
  obtain ⟨a1, b1, c1⟩ := exp2_spec h0 (by omega)
  obtain ⟨a2, b2, c2⟩ := exp2_spec (u := v) (by omega) hv
  rcases Nat.lt_trichotomy (exp2 u) (exp2 v) with hc | hc | hc
  · have h1 := run_lt 24 (norm u) (exp2 u)
    have h2 := run_ge 24 (norm v) (exp2 v)
    have h3 : 2 ^ 24 * (exp2 u + 1) ≤ 2 ^ 24 * exp2 v := Nat.mul_le_mul_left _ hc
    unfold logn
    omega
  · have : norm u ≤ norm v := by unfold norm; rw [hc]; exact Nat.mul_le_mul_right _ h
    unfold logn
    rw [hc]
    exact run_mono 24 _ _ _ this
  · have : 2 ^ (exp2 v + 1) ≤ 2 ^ exp2 u := Nat.pow_le_pow_right (by decide) hc
    omega
theorem logn_lt {u : Nat} (h0 : u ≠ 0) (h : u ≤ 65536) : logn u < 2 ^ 24 * 17 := by
  obtain ⟨_, _, c⟩ := exp2_spec h0 h
  have h1 := run_lt 24 (norm u) (exp2 u)
  have h3 : 2 ^ 24 * (exp2 u + 1) ≤ 2 ^ 24 * 17 := Nat.mul_le_mul_left _ (by omega)
  unfold logn
  omega

/-! ### numbers mixed -/
def mix (x : Nat) : Nat :=
  let a := x ^^^ (x / 65536)
  let b := a * 2146121005 % 4294967296
  let c := b ^^^ (b / 32768)
  let d := c * 2221713035 % 4294967296
  d ^^^ (d / 65536)
theorem xs_lt {x k : Nat} (h : x < 4294967296) : x ^^^ (x / k) < 4294967296 :=
  Nat.xor_lt_two_pow (n := 32) h (Nat.lt_of_le_of_lt (Nat.div_le_self _ _) h)
theorem mix_lt {x : Nat} : mix x < 4294967296 := by
  unfold mix
  exact xs_lt (Nat.mod_lt _ (by decide))
theorem xs16_back {x : Nat} (h : x < 4294967296) : (x ^^^ (x / 65536)) ^^^ ((x ^^^ (x / 65536)) / 65536) = x := by
  apply Nat.eq_of_testBit_eq
  intro i
  rw [show (65536 : Nat) = 2 ^ 16 from rfl]
  simp only [Nat.testBit_xor, Nat.testBit_div_two_pow]
  have : x.testBit (i + 16 + 16) = false := Nat.testBit_lt_two_pow (Nat.lt_of_lt_of_le h (by rw [show (4294967296 : Nat) = 2 ^ 32 from rfl]; exact Nat.pow_le_pow_right (by decide) (by omega)))
  rw [this]
  cases x.testBit i <;> cases x.testBit (i + 16) <;> rfl
theorem xs15_back {x : Nat} (h : x < 4294967296) : let z := x ^^^ (x / 32768); z ^^^ (z / 32768) ^^^ (z / 1073741824) = x := by
  intro z
  apply Nat.eq_of_testBit_eq
  intro i
  show (z ^^^ (z / 2 ^ 15) ^^^ (z / 2 ^ 30)).testBit i = _
  have hz : z = x ^^^ (x / 2 ^ 15) := rfl
  rw [hz]
  simp only [Nat.testBit_xor, Nat.testBit_div_two_pow]
  have : x.testBit (i + 30 + 15) = false := Nat.testBit_lt_two_pow (Nat.lt_of_lt_of_le h (by rw [show (4294967296 : Nat) = 2 ^ 32 from rfl]; exact Nat.pow_le_pow_right (by decide) (by omega)))
  rw [this]
  have e : i + 15 + 15 = i + 30 := by omega
  rw [e]
  cases x.testBit i <;> cases x.testBit (i + 15) <;> cases x.testBit (i + 30) <;> rfl
theorem mul_back (x m n : Nat) (h : x < 4294967296) (hmn : m * n % 4294967296 = 1) : (x * m % 4294967296) * n % 4294967296 = x := by
  rw [Nat.mod_mul_mod, Nat.mul_assoc, Nat.mul_mod, hmn, Nat.mul_one, Nat.mod_mod, Nat.mod_eq_of_lt h]
theorem mix_inj {x y : Nat} (hx : x < 4294967296) (hy : y < 4294967296) (h : mix x = mix y) : x = y := by
  have key : ∀ {a b : Nat}, a < 4294967296 → b < 4294967296 → a ^^^ (a / 65536) = b ^^^ (b / 65536) → a = b := by
    intro a b ha hb e
    rw [← xs16_back ha, ← xs16_back hb, e]
  have key2 : ∀ {a b : Nat}, a < 4294967296 → b < 4294967296 → a ^^^ (a / 32768) = b ^^^ (b / 32768) → a = b := by
    intro a b ha hb e
    have h1 := xs15_back ha
    have h2 := xs15_back hb
    simp only at h1 h2
    rw [← h1, ← h2, e]
  have mk : ∀ {a b : Nat} (m n : Nat), m * n % 4294967296 = 1 → a < 4294967296 → b < 4294967296 → a * m % 4294967296 = b * m % 4294967296 → a = b := by
    intro a b m n hmn ha hb e
    rw [← mul_back a m n ha hmn, ← mul_back b m n hb hmn, e]
  unfold mix at h
  have hm : ∀ a : Nat, a % 4294967296 < 4294967296 := fun a => Nat.mod_lt _ (by decide)
  have h1 := key (hm _) (hm _) h
  have h2 := mk 2221713035 1124208931 (by decide) (xs_lt (hm _)) (xs_lt (hm _)) h1
  have h3 := key2 (hm _) (hm _) h2
  have h4 := mk 2146121005 493478565 (by decide) (xs_lt hx) (xs_lt hy) h3
  exact key hx hy h4
end Go.Proofs.Ytnpphmgibgfjoaa.MixP
