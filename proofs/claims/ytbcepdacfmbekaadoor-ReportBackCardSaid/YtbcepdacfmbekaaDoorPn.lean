/-
  Plain: the reference's number of a text. No program in sight.
-/
import Derived.Test.YtbcepdacfmbekaaDoorPd
import Derived.Test.YtbcepdacfmbekaaDoorPl
namespace Go.Proofs.YtbcepdacfmbekaaDoor.Pl

def refLoop : List UInt8 → Int → Option Int
  | [], n => some n
  | c :: r, n => if (c.toNat : Int) < 48 ∨ 57 < (c.toNat : Int) then none else if n * 10 < -9223372036854775808 + ((c.toNat : Int) - 48) then none else refLoop r (n * 10 - ((c.toNat : Int) - 48))

def refEnd (s : List UInt8) (minus : Bool) (n : Int) : Int × Bool :=
  if minus then (if decimal n = s then (n, true) else (0, false)) else if n = -9223372036854775808 then (0, false) else if decimal (-n) = s then (-n, true) else (0, false)

def refNumber (s : List UInt8) : Int × Bool :=
  if s.length = 0 ∨ 20 < s.length then (0, false) else
    match refLoop (if s.getD 0 0 = 45 then s.drop 1 else s) 0 with
    | none => (0, false)
    | some n => refEnd s (decide (s.getD 0 0 = 45)) n

theorem refLoop_le : ∀ (l : List UInt8) (n m : Int), n ≤ 0 → -9223372036854775808 ≤ n → refLoop l n = some m → m ≤ 0 ∧ -9223372036854775808 ≤ m := by
  intro l
  induction l with
  | nil => intro n m h0 h1 h; simp only [refLoop, Option.some.injEq] at h; subst h; exact ⟨h0, h1⟩
  | cons c r ih =>
    intro n m h0 h1 h
    rw [refLoop] at h
    split at h
    · cases h
    · split at h
      · cases h
      · exact ih _ _ (by omega) (by omega) h

/-- The two loops do the same where the number is not positive. -/
theorem refLoop_eq : ∀ (l : List UInt8) (n : Int), n ≤ 0 → refLoop l n = numLoop l n := by
  intro l
  induction l with
  | nil => intro n _; rfl
  | cons c r ih =>
    intro n h0
    rw [refLoop, numLoop]
    by_cases h1 : (c.toNat : Int) < 48 ∨ 57 < (c.toNat : Int)
    · rw [if_pos h1, if_pos (by omega)]
    · rw [if_neg h1]
      by_cases h2 : n * 10 < -9223372036854775808 + ((c.toNat : Int) - 48)
      · rw [if_pos h2, if_pos (by omega)]
      · rw [if_neg h2, if_neg (by omega)]
        exact ih _ (by omega)

theorem numLoop_digits : ∀ (l : List UInt8) (n m : Int), n < 0 → numLoop l n = some m → m < 0 ∧ digits m.natAbs = digits n.natAbs ++ l := by
  intro l
  induction l with
  | nil => intro n m h0 h; simp only [numLoop, Option.some.injEq] at h; subst h; simp [h0]
  | cons c r ih =>
    intro n m h0 h
    rw [numLoop] at h
    split at h
    · cases h
    · rename_i hc
      have hc2 : 48 ≤ c.toNat ∧ c.toNat ≤ 57 := by omega
      obtain ⟨h1, h2⟩ := ih _ _ (by omega) h
      refine ⟨h1, ?_⟩
      have e : (n * 10 - ((c.toNat : Int) - 48)).natAbs = n.natAbs * 10 + (c.toNat - 48) := by omega
      rw [h2, e, digits_big (by omega)]
      rw [show (n.natAbs * 10 + (c.toNat - 48)) / 10 = n.natAbs by omega, show (n.natAbs * 10 + (c.toNat - 48)) % 10 = c.toNat - 48 by omega]
      rw [show 48 + (c.toNat - 48) = c.toNat by omega]
      simp

theorem digits_head : ∀ (n : Nat), 0 < n → ∃ c r, digits n = c :: r ∧ c ≠ 48 := by
  intro n
  induction n using Nat.strongRecOn with
  | ind n ih =>
    intro h
    by_cases h10 : n < 10
    · refine ⟨_, [], digits_small h10, fun e => ?_⟩
      have := congrArg UInt8.toNat e
      simp at this
      omega
    · obtain ⟨c, r, h1, h2⟩ := ih (n / 10) (by omega) (by omega)
      exact ⟨c, _, by rw [digits_big h10, h1]; rfl, h2⟩

theorem digits_zero_head {n : Nat} {r : List UInt8} (h : digits n = 48 :: r) : r = [] := by
  rcases Nat.eq_zero_or_pos n with rfl | hp
  · rw [digits_small (by omega)] at h
    injection h with _ h
    exact h.symm
  · obtain ⟨c, r', h1, h2⟩ := digits_head n hp
    rw [h1] at h
    injection h with h
    exact absurd h h2

/-- A text of digits with a good head is the text of its number. -/
theorem numLoop_text {t : List UInt8} {m : Int} (h : numLoop t 0 = some m) (hb : badHead t false = false) : digits m.natAbs = t := by
  cases t with
  | nil => simp [badHead] at hb
  | cons c r =>
    rw [numLoop] at h
    split at h
    · cases h
    · rename_i hc
      have hc2 : 48 ≤ c.toNat ∧ c.toNat ≤ 57 := by omega
      by_cases h48 : c.toNat = 48
      · have hr : r = [] := by
          simp [badHead, h48] at hb
          exact List.eq_nil_of_length_eq_zero (by omega)
        subst hr
        simp only [numLoop, Option.some.injEq] at h
        subst h
        have hc' : c = 48 := by apply UInt8.toNat_inj.1; rw [h48]; rfl
        subst hc'
        rw [h48]
        rw [digits_small (by omega)]
        rfl
      · obtain ⟨_, h2⟩ := numLoop_digits r _ m (by omega) h
        rw [h2, show (0 * 10 - ((c.toNat : Int) - 48)).natAbs = c.toNat - 48 by omega, digits_small (by omega), show 48 + (c.toNat - 48) = c.toNat by omega]
        simp

theorem digits_ne (n : Nat) : digits n ≠ [] := by
  rw [digits]; split <;> simp
theorem badHead_weak {t : List UInt8} {minus : Bool} (h : badHead t minus = false) : badHead t false = false := by
  simp [badHead] at h ⊢
  exact h.1
/-- A text with a bad head is no digits of a number. -/
theorem bad_digits {t : List UInt8} (h : badHead t false = true) (n : Nat) : digits n ≠ t := by
  intro e
  cases t with
  | nil => exact digits_ne n e
  | cons c r =>
    simp [badHead] at h
    have hc : c = 48 := by apply UInt8.toNat_inj.1; rw [show (48 : UInt8).toNat = 48 from rfl]; omega
    subst hc
    have := digits_zero_head e
    subst this
    simp at h

theorem refNumber_of {s t : List UInt8} {minus : Bool} (hs : s = if minus then 45 :: t else t) (hp : List.isPrefixOf [45] s = minus) (ht : (if List.isPrefixOf [45] s then s.drop 1 else s) = t) (hm : decide (s.getD 0 0 = 45) = minus) (hmt : (if s.getD 0 0 = 45 then s.drop 1 else s) = t) :
    refNumber s = number s := by
  unfold refNumber number
  rw [ht, hp, hmt, hm, refLoop_eq t 0 (by omega)]
  unfold numOf numTail
  by_cases hl : s.length = 0 ∨ 20 < s.length
  · rw [if_pos hl]
    cases hb : badHead t minus with
    | true => rfl
    | false =>
      simp only [Bool.false_eq_true, if_false]
      cases hn : numLoop t 0 with
      | none => rfl
      | some m =>
        have h1 := numLoop_text hn (badHead_weak hb)
        have h2 := numLoop_le t 0 m (by omega) (by omega) hn
        have h3 := digits_length 18 m.natAbs (by have : (10 : Nat) ^ (18 + 1) = 10000000000000000000 := by decide
                                                 omega)
        rw [h1] at h3
        have h4 : t ≠ [] := by rw [← h1]; exact digits_ne _
        have h5 : 0 < t.length := List.length_pos_iff.2 h4
        have h6 : t.length ≤ s.length ∧ s.length ≤ t.length + 1 := by rw [hs]; split <;> simp
        omega
  · rw [if_neg hl]
    cases hn : numLoop t 0 with
    | none => cases badHead t minus <;> rfl
    | some m =>
      have h2 := numLoop_le t 0 m (by omega) (by omega) hn
      simp only
      unfold refEnd
      cases hb : badHead t minus with
      | false =>
        have h1 := numLoop_text hn (badHead_weak hb)
        simp only [Bool.false_eq_true, if_false]
        cases minus with
        | true =>
          simp only [if_true] at hs ⊢
          rcases Int.lt_or_le m 0 with h0 | h0
          · have : decimal m = s := by unfold decimal; rw [if_pos h0, h1, hs]
            rw [if_pos this]
          · obtain rfl : m = 0 := by omega
            rw [show (0 : Int).natAbs = 0 from rfl, digits_small (by omega)] at h1
            subst h1
            simp [badHead] at hb
        | false =>
          simp only [Bool.false_eq_true, if_false] at hs ⊢
          have : decimal (-m) = s := by unfold decimal; rw [if_neg (by omega), show (-m).natAbs = m.natAbs by omega, h1, hs]
          rw [if_pos this]
      | true =>
        simp only [if_true]
        cases minus with
        | true =>
          simp only [if_true] at hs ⊢
          rw [if_neg]
          intro e
          rcases Int.lt_or_le m 0 with h0 | h0
          · unfold decimal at e
            rw [if_pos h0, hs] at e
            injection e with _ e
            by_cases hw : badHead t false = true
            · exact bad_digits hw _ e
            · have : t = [48] := by
                simp [badHead] at hb hw
                rcases hb with (h5 | h5) | h5
                · exact absurd h5 hw.1
                · exact absurd h5.2 (hw.2 h5.1)
                · exact h5
              rw [this] at e
              obtain ⟨c, r, h3, h4⟩ := digits_head m.natAbs (by omega)
              rw [h3] at e
              injection e with e
              exact h4 e
          · obtain rfl : m = 0 := by omega
            rw [decimal_small (by omega) (by omega), hs] at e
            injection e with e
            exact absurd e (by decide)
        | false =>
          simp only [Bool.false_eq_true, if_false] at hs ⊢
          by_cases hmin : m = -9223372036854775808
          · rw [if_pos hmin]
          · rw [if_neg hmin, if_neg]
            intro e
            unfold decimal at e
            rw [if_neg (by omega), show (-m).natAbs = m.natAbs by omega, hs] at e
            exact bad_digits hb _ e

/-- The reference's number is package words'. -/
theorem refNumber_eq (s : List UInt8) : refNumber s = number s := by
  cases s with
  | nil => rfl
  | cons c r =>
    by_cases h : c = 45
    · subst h
      exact refNumber_of (t := r) (minus := true) rfl rfl rfl rfl rfl
    · have h2 : List.isPrefixOf [45] (c :: r) = false := by
        rw [List.isPrefixOf]
        have : ((45 : UInt8) == c) = false := by simpa using fun e => h e.symm
        rw [this]; rfl
      refine refNumber_of (t := c :: r) (minus := false) rfl h2 (by rw [h2]; rfl) (by simp [h]) (by simp [h])

end Go.Proofs.YtbcepdacfmbekaaDoor.Pl
