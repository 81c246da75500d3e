/-
  Plain: cutting at one byte, from the left, byte by byte. No program in sight.
-/
import Derived.Test.YtbcepdacfmbekaaDoorPs
namespace Go.Proofs.YtbcepdacfmbekaaDoor.Pl

theorem splitC_snoc (c b : UInt8) (l : List UInt8) : splitC c (l ++ [b]) = if b == c then splitC c l ++ [[]] else (splitC c l).dropLast ++ [(splitC c l).getLastD [] ++ [b]] := by
  induction l with
  | nil =>
    simp only [List.nil_append, splitC]
    split <;> simp
  | cons a r ih =>
    rw [List.cons_append, splitC, splitC, ih]
    have hne := splitC_ne c r
    cases hs : splitC c r with
    | nil => exact absurd hs hne
    | cons x t =>
      rw [hs] at ih
      by_cases hb : (b == c) = true
      · simp only [hb, if_true]
        split <;> simp
      · simp only [hb, if_false, Bool.false_eq_true]
        split
        · simp [List.dropLast]
        · cases t with
          | nil => simp
          | cons y t => simp

theorem splitC_take_le (c : UInt8) (l : List UInt8) (k : Nat) : ∀ x ∈ splitC c (l.take k), x.length ≤ l.length := by
  intro x hx
  have := splitC_le c _ x hx
  simp at this
  omega

theorem splitC_nil (c : UInt8) : splitC c [] = [[]] := rfl

end Go.Proofs.YtbcepdacfmbekaaDoor.Pl
