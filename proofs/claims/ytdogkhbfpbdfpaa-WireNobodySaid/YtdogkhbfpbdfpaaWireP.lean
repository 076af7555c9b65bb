import Derived.Test.YtdogkhbfpbdfpaaMem
/- The bytes of numbers. -/
namespace Go.Proofs.Ytdogkhbfpbdfpaa.WireP
/-- A number's bytes, little-endian, seven bits each. -/
def uv (n : Nat) : List Int := if n < 128 then [(n : Int)] else (((n % 128 : Nat) : Int) + 128) :: uv (n / 128)
termination_by n
theorem uv_lt {n : Nat} (h : n < 128) : uv n = [(n : Int)] := by rw [uv, if_pos h]
theorem uv_ge {n : Nat} (h : 128 ≤ n) : uv n = (((n % 128 : Nat) : Int) + 128) :: uv (n / 128) := by rw [uv, if_neg (by omega)]
theorem uv_pos (n : Nat) : 0 < (uv n).length := by
  rw [uv]
  split <;> simp
theorem uv_len (k n : Nat) (h : n < 128 ^ k) (hk : 0 < k) : (uv n).length ≤ k := by
  induction k generalizing n with
  | zero => omega
  | succ k ih =>
    rcases Nat.lt_or_ge n 128 with h1 | h1
    · rw [uv_lt h1]; simp
    · rw [uv_ge h1]
      have hk : 0 < k := by
        rcases Nat.eq_zero_or_pos k with rfl | h2
        · simp at h; omega
        · exact h2
      have := ih (n / 128) (by rw [Nat.pow_succ] at h; omega) hk
      simp; omega
theorem uv_len10 {n : Nat} (h : n < 18446744073709551616) : (uv n).length ≤ 10 := uv_len 10 n (by omega) (by omega)
/-- A number with sign, without. -/
def zig (n : Int) : Nat := if n < 0 then ((-n - 1) * 2 + 1).toNat else (n * 2).toNat
/-- So many bytes of a number. -/
def fx (n : Int) : Nat → List Int
  | 0 => []
  | k + 1 => n % 256 :: fx (n / 256) k
theorem fx_len (n : Int) (k : Nat) : (fx n k).length = k := by
  induction k generalizing n with
  | zero => rfl
  | succ k ih => simp [fx, ih]
theorem fx_succ (n : Int) (i : Nat) : fx n (i + 1) = fx n i ++ [n / 2 ^ (8 * i) % 256] := by
  induction i generalizing n with
  | zero => simp [fx]
  | succ i ih =>
    have e := ih (n / 256)
    rw [show fx n (i + 1 + 1) = n % 256 :: fx (n / 256) (i + 1) from rfl, e, show fx n (i + 1) = n % 256 :: fx (n / 256) i from rfl]
    rw [List.cons_append, Int.ediv_ediv_of_nonneg (show (0 : Int) ≤ 256 by decide), show (256 : Int) * 2 ^ (8 * i) = 2 ^ (8 * (i + 1)) by rw [show 8 * (i + 1) = 8 * i + 8 by omega, Int.pow_add]; omega]
end Go.Proofs.Ytdogkhbfpbdfpaa.WireP
