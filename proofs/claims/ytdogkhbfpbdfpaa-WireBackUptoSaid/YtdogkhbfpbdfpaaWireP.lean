import Derived.Test.YtdogkhbfpbdfpaaMem
/- The bytes of numbers. -/
namespace Go.Proofs.Ytdogkhbfpbdfpaa.WireP
/-- A number's bytes, little-endian, seven bits each. -/
def uv (n : Nat) : List Int := if n < 128 then [(n : Int)] else (((n % 128 : Nat) : Int) + 128) :: uv (n / 128)
termination_by n
theorem uv_lt {n : Nat} (h : n < 128) : uv n = [(n : Int)] := by rw [uv, if_pos h]
theorem uv_ge {n : Nat} (h : 128 ≤ n) : uv n = (((n % 128 : Nat) : Int) + 128) :: uv (n / 128) := by rw [uv, if_neg (by omega)]
theorem uv_pos (n : Nat) : 0 < (uv n).length := by
  rw [uv]
  split <;> simp
theorem uv_len (k n : Nat) (h : n < 128 ^ k) (hk : 0 < k) : (uv n).length ≤ k := by
  induction k generalizing n with
  | zero => omega
  | succ k ih =>
    rcases Nat.lt_or_ge n 128 with h1 | h1
    · rw [uv_lt h1]; simp
    · rw [uv_ge h1]
      have hk : 0 < k := by
        rcases Nat.eq_zero_or_pos k with rfl | h2
        · simp at h; omega
        · exact h2
      have := ih (n / 128) (by rw [Nat.pow_succ] at h; omega) hk
      simp; omega
theorem uv_len10 {n : Nat} (h : n < 18446744073709551616) : (uv n).length ≤ 10 := uv_len 10 n (by omega) (by omega)
/-- A number with sign, without. -/
def zig (n : Int) : Nat := if n < 0 then ((-n - 1) * 2 + 1).toNat else (n * 2).toNat
/-- So many bytes of a number. -/
def fx (n : Int) : Nat → List Int
  | 0 => []
  | k + 1 => n % 256 :: fx (n / 256) k
theorem fx_len (n : Int) (k : Nat) : (fx n k).length = k := by
  induction k generalizing n with
  | zero => rfl
  | succ k ih => simp [fx, ih]
theorem fx_succ (n : Int) (i : Nat) : fx n (i + 1) = fx n i ++ [n / 2 ^ (8 * i) % 256] := by
  induction i generalizing n with
  | zero => simp [fx]
  | succ i ih =>
    have e := ih (n / 256)
    rw [show fx n (i + 1 + 1) = n % 256 :: fx (n / 256) (i + 1) from rfl, e, show fx n (i + 1) = n % 256 :: fx (n / 256) i from rfl]
    rw [List.cons_append, Int.ediv_ediv_of_nonneg (show (0 : Int) ≤ 256 by decide), show (256 : Int) * 2 ^ (8 * i) = 2 ^ (8 * (i + 1)) by rw [show 8 * (i + 1) = 8 * i + 8 by omega, Int.pow_add]; omega]
end Go.Proofs.Ytdogkhbfpbdfpaa.WireP
namespace Go.Proofs.Ytdogkhbfpbdfpaa.WireP
theorem uv_first {q : Nat} {c : Int} {t : List Int} (h : uv q <+: c :: t) : (q < 128 ∧ c = q) ∨ (128 ≤ q ∧ c = ((q % 128 : Nat) : Int) + 128 ∧ uv (q / 128) <+: t) := by
  rcases Nat.lt_or_ge q 128 with h1 | h1
  · rw [uv_lt h1, List.cons_prefix_cons] at h
    exact .inl ⟨h1, h.1.symm⟩
  · rw [uv_ge h1, List.cons_prefix_cons] at h
    exact .inr ⟨h1, h.1.symm, h.2⟩
/-- What is the next number, and how many bytes it has. -/
def PkOk (ys : List Int) (n k : Nat) : Prop := (0 < k ∧ n < 18446744073709551616 ∧ uv n <+: ys ∧ k = (uv n).length) ∨ (n = 0 ∧ k = 0 ∧ ∀ m, m < 18446744073709551616 → ¬ uv m <+: ys)
structure PkI (ys : List Int) (k acc : Nat) : Prop where
  k9 : k ≤ 9
  lt : acc < 128 ^ k
  len : k ≤ ys.length
  up : ∀ m, 1 ≤ m → uv (acc + m * 128 ^ k) = ys.take k ++ uv m
  any : ∀ m, m < 18446744073709551616 → uv m <+: ys → ∃ q, m = acc + q * 128 ^ k ∧ uv m = ys.take k ++ uv q ∧ (0 < k → 1 ≤ q)
theorem pkI_start (ys : List Int) : PkI ys 0 0 := ⟨by omega, by simp, by omega, fun m _ => by simp, fun m _ _ => ⟨m, by simp, by simp, by omega⟩⟩
theorem pk_rest {ys : List Int} {k q : Nat} (h : ys.take k ++ uv q <+: ys) : uv q <+: ys.drop k := by
  have e : ys = ys.take k ++ ys.drop k := (List.take_append_drop k ys).symm
  have h2 : ys.take k ++ uv q <+: ys.take k ++ ys.drop k := e ▸ h
  exact (List.prefix_append_right_inj _).1 h2
theorem drop_at {ys : List Int} {k : Nat} {c : Int} (h : ys[k]? = some c) : ys.drop k = c :: ys.drop (k + 1) := by
  have hk := (List.getElem?_eq_some_iff.1 h).1
  rw [List.drop_eq_getElem_cons hk, (List.getElem?_eq_some_iff.1 h).2]
theorem take_at {ys : List Int} {k : Nat} {c : Int} (h : ys[k]? = some c) : ys.take (k + 1) = ys.take k ++ [c] := by rw [List.take_add_one, h]; rfl
theorem pkI_more {ys : List Int} {k acc : Nat} {c : Nat} (h : PkI ys k acc) (hk : k ≤ 8) (hc : ys[k]? = some (c : Int)) (h1 : 128 ≤ c) (h2 : c < 256) : PkI ys (k + 1) (acc + (c % 128) * 128 ^ k) := by
  have e1 : c % 128 = c - 128 := by omega
  have hp : 128 ^ (k + 1) = 128 ^ k * 128 := Nat.pow_succ ..
  refine ⟨by omega, ?_, ?_, ?_, ?_⟩
  · have h3 := h.lt
    have : c % 128 * 128 ^ k ≤ 127 * 128 ^ k := Nat.mul_le_mul_right _ (by omega)
    rw [hp]; omega
  · have := (List.getElem?_eq_some_iff.1 hc).1; omega
  · intro m hm
    have e2 : acc + c % 128 * 128 ^ k + m * 128 ^ (k + 1) = acc + (c - 128 + 128 * m) * 128 ^ k := by
      rw [hp, e1, Nat.add_mul, Nat.add_assoc]
      congr 2
      rw [Nat.mul_comm 128 m, Nat.mul_assoc, Nat.mul_comm (128 ^ k) 128]
    rw [e2, h.up _ (by omega), uv_ge (n := c - 128 + 128 * m) (by omega), take_at hc, List.append_assoc]
    rw [show (c - 128 + 128 * m) % 128 = c - 128 by omega, show (c - 128 + 128 * m) / 128 = m by omega]
    rw [show ((c - 128 : Nat) : Int) + 128 = (c : Int) by omega]
    rfl
  · intro m hm hpre
    obtain ⟨q, hq, hu, _⟩ := h.any m hm hpre
    rw [hu] at hpre
    have hr := pk_rest hpre
    rw [drop_at hc] at hr
    rcases uv_first hr with ⟨h3, h4⟩ | ⟨h3, h4, _⟩
    · omega
    · refine ⟨q / 128, ?_, ?_, by omega⟩
      · rw [hq, hp]
        have e3 : q = c % 128 + 128 * (q / 128) := by omega
        have e4 : q * 128 ^ k = c % 128 * 128 ^ k + q / 128 * (128 ^ k * 128) := by
          calc q * 128 ^ k = (c % 128 + 128 * (q / 128)) * 128 ^ k := by rw [← e3]
            _ = _ := by rw [Nat.add_mul, Nat.mul_comm 128 (q / 128), Nat.mul_assoc, Nat.mul_comm 128 (128 ^ k)]
        omega
      · rw [hu, uv_ge h3, take_at hc, List.append_assoc, h4]
        rfl
theorem pkI_done {ys : List Int} {k acc : Nat} {c : Nat} (h : PkI ys k acc) (hc : ys[k]? = some (c : Int)) (h1 : c < 128) (h2 : k = 9 → c ≤ 1) (h3 : c = 0 → k = 0) : PkOk ys (acc + c * 128 ^ k) (k + 1) := by
  have hu : uv (acc + c * 128 ^ k) = ys.take (k + 1) := by
    rcases Nat.eq_zero_or_pos c with h0 | h0
    · obtain rfl := h3 h0
      subst h0
      have := h.lt
      have e : acc = 0 := by simpa using this
      subst e
      rw [take_at hc]
      simp [uv_lt]
    · rw [h.up c h0, take_at hc, uv_lt h1]
  have hk := (List.getElem?_eq_some_iff.1 hc).1
  refine .inl ⟨by omega, ?_, ?_, ?_⟩
  · have h5 := h.lt
    rcases Nat.lt_or_ge k 9 with h4 | h4
    · have h6 : 128 ^ (k + 1) ≤ 128 ^ 9 := Nat.pow_le_pow_right (by omega) (by omega)
      have h7 : c * 128 ^ k ≤ 127 * 128 ^ k := Nat.mul_le_mul_right _ (by omega)
      rw [Nat.pow_succ] at h6
      have h8 : (128 : Nat) ^ 9 = 9223372036854775808 := by decide
      omega
    · have e9 : k = 9 := by have := h.k9; omega
      have := h2 e9
      subst e9
      have h8 : (128 : Nat) ^ 9 = 9223372036854775808 := by decide
      have h7 : c * 128 ^ 9 ≤ 1 * 128 ^ 9 := Nat.mul_le_mul_right _ this
      omega
  · rw [hu]; exact List.take_prefix _ _
  · rw [hu, List.length_take]; omega
theorem pkI_end {ys : List Int} {k acc : Nat} (h : PkI ys k acc) (hk : ys.length ≤ k) : PkOk ys 0 0 := by
  refine .inr ⟨rfl, rfl, fun m hm hp => ?_⟩
  obtain ⟨q, _, hu, _⟩ := h.any m hm hp
  rw [hu] at hp
  have := pk_rest hp
  rw [List.drop_of_length_le hk] at this
  have h1 := this.length_le
  have h2 := uv_pos q
  rw [List.length_nil] at h1
  omega
theorem pkI_zero {ys : List Int} {k acc : Nat} (h : PkI ys k acc) (hc : ys[k]? = some 0) (hk : 0 < k) : PkOk ys 0 0 := by
  refine .inr ⟨rfl, rfl, fun m hm hp => ?_⟩
  obtain ⟨q, _, hu, hq⟩ := h.any m hm hp
  have := hq hk
  rw [hu] at hp
  have h1 := pk_rest hp
  rw [drop_at hc] at h1
  rcases uv_first h1 with ⟨h3, h4⟩ | ⟨h3, h4, _⟩ <;> omega
theorem pkI_big {ys : List Int} {acc : Nat} {c : Int} (h : PkI ys 9 acc) (hc : ys[9]? = some c) (h1 : 1 < c) : PkOk ys 0 0 := by
  refine .inr ⟨rfl, rfl, fun m hm hp => ?_⟩
  obtain ⟨q, hm2, hu, hq⟩ := h.any m hm hp
  have := hq (by omega)
  have h8 : (128 : Nat) ^ 9 = 9223372036854775808 := by decide
  rw [h8] at hm2
  have hq1 : q = 1 := by omega
  rw [hu] at hp
  have h5 := pk_rest hp
  rw [drop_at hc] at h5
  rcases uv_first h5 with ⟨h3, h4⟩ | ⟨h3, h4, _⟩ <;> omega
/-- No code begins another: what is read is what was written. -/
theorem uv_prefix : ∀ (a b : Nat) (t : List Int), uv a <+: uv b ++ t → a = b := by
  intro a
  induction a using Nat.strongRecOn with
  | ind a ih =>
    intro b t h
    rcases Nat.lt_or_ge b 128 with h1 | h1
    · rw [uv_lt h1] at h
      rcases uv_first (c := (b : Int)) h with ⟨h2, h3⟩ | ⟨h2, h3, _⟩ <;> omega
    · rw [uv_ge h1] at h
      rcases uv_first h with ⟨h2, h3⟩ | ⟨h2, h3, h4⟩
      · omega
      · have := ih (a / 128) (by omega) (b / 128) t h4
        omega
theorem pk_of_uv {n : Nat} {t : List Int} {m k : Nat} (hn : n < 18446744073709551616) (h : PkOk (uv n ++ t) m k) : m = n ∧ k = (uv n).length := by
  rcases h with ⟨_, _, h1, h2⟩ | ⟨_, _, h1⟩
  · have := uv_prefix m n t h1
    subst this
    exact ⟨rfl, h2⟩
  · exact absurd (List.prefix_append _ _) (h1 n hn)
theorem pk_unique {ys : List Int} {n k m j : Nat} (h : PkOk ys n k) (h' : PkOk ys m j) : n = m ∧ k = j := by
  rcases h with ⟨h0, h1, h2, h3⟩ | ⟨h1, h2, h3⟩ <;> rcases h' with ⟨k0, k1, k2, k3⟩ | ⟨k1, k2, k3⟩
  · obtain ⟨t, rfl⟩ := k2
    have := uv_prefix n m t h2
    subst this
    exact ⟨rfl, by omega⟩
  · exact absurd h2 (k3 n h1)
  · exact absurd k2 (h3 m k1)
  · exact ⟨by omega, by omega⟩
end Go.Proofs.Ytdogkhbfpbdfpaa.WireP
