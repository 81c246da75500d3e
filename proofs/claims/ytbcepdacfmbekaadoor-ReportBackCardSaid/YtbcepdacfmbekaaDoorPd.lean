/-
  Plain: the decimal text of a number. No program in sight.
-/
namespace Go.Proofs.YtbcepdacfmbekaaDoor.Pl

def digits (n : Nat) : List UInt8 := if n < 10 then [UInt8.ofNat (48 + n)] else digits (n / 10) ++ [UInt8.ofNat (48 + n % 10)]
decreasing_by omega
theorem digits_small {n : Nat} (h : n < 10) : digits n = [UInt8.ofNat (48 + n)] := by rw [digits, if_pos h]
theorem digits_big {n : Nat} (h : ¬ n < 10) : digits n = digits (n / 10) ++ [UInt8.ofNat (48 + n % 10)] := by rw [digits, if_neg h]

/-- decimal -/
def decimal (n : Int) : List UInt8 := if n < 0 then 45 :: digits n.natAbs else digits n.natAbs

theorem decimal_min : decimal (-9223372036854775808) = [45, 57, 50, 50, 51, 51, 55, 50, 48, 51, 54, 56, 53, 52, 55, 55, 53, 56, 48, 56] := by
  have h : Int.natAbs (-9223372036854775808) = 9223372036854775808 := rfl
  simp only [decimal, h, show ((-9223372036854775808 : Int) < 0) = True by simp, if_true]
  repeat (first | rw [digits_big (by omega)] | rw [digits_small (by omega)])
  simp only [Nat.reduceDiv, Nat.reduceMod]
  rfl

theorem decimal_neg {n : Int} (h : n < 0) : decimal n = 45 :: decimal (-n) := by
  unfold decimal
  rw [if_pos h, if_neg (by omega)]
  congr 2
  omega
theorem decimal_small {n : Int} (h0 : 0 ≤ n) (h : n < 10) : decimal n = [UInt8.ofNat (48 + n.toNat)] := by
  unfold decimal
  rw [if_neg (by omega), digits_small (by omega)]
  congr 3
  omega
theorem decimal_big {n : Int} (h0 : 0 ≤ n) (h : ¬ n < 10) : decimal n = decimal (n / 10) ++ decimal (n % 10) := by
  obtain ⟨k, rfl⟩ := Int.eq_ofNat_of_zero_le h0
  have e1 : (k : Int) / 10 = ((k / 10 : Nat) : Int) := by omega
  have e2 : (k : Int) % 10 = ((k % 10 : Nat) : Int) := by omega
  rw [e1, e2, decimal_small (n := ((k % 10 : Nat) : Int)) (by omega) (by omega)]
  unfold decimal
  rw [if_neg (by omega), if_neg (by omega), digits_big (by omega)]
  rfl

theorem digits_length : ∀ (k n : Nat), n < 10 ^ (k + 1) → (digits n).length ≤ k + 1 := by
  intro k
  induction k with
  | zero => intro n h; rw [digits_small (by omega)]; simp
  | succ k ih =>
    intro n h
    by_cases h10 : n < 10
    · rw [digits_small h10]; simp
    · rw [digits_big h10, List.length_append]
      have := ih (n / 10) (by rw [Nat.pow_succ] at h; omega)
      simpa using this
theorem decimal_length {n : Int} (h0 : -9223372036854775808 ≤ n) (h1 : n ≤ 9223372036854775807) : (decimal n).length ≤ 20 := by
  have h := digits_length 18 n.natAbs (by have : (10 : Nat) ^ (18 + 1) = 10000000000000000000 := by decide
                                          omega)
  unfold decimal
  split
  · simpa using h
  · omega

end Go.Proofs.YtbcepdacfmbekaaDoor.Pl
