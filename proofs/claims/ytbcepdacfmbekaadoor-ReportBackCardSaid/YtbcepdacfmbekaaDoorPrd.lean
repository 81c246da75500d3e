/-
  Plain: texts of many lines, read line by line: cut at each line feed (packages report, words). No program in sight.
-/
import Derived.Test.YtbcepdacfmbekaaDoorPs
namespace Go.Proofs.YtbcepdacfmbekaaDoor.Pl
variable {M : Type}

/-- What comes of a text: all, or the number of the line that is none. -/
inductive Rd (M : Type) where
  | ok (l : List M)
  | bad (n : Nat)

theorem cutC_lt (c : UInt8) : ∀ l : List UInt8, l ≠ [] → (cutC c l).2.1.length < l.length := by
  intro l
  induction l with
  | nil => intro h; exact absurd rfl h
  | cons b r ih =>
    intro _
    rw [cutC]
    split
    · simp
    · by_cases h : r = []
      · subst h; simp [cutC]
      · have := ih h
        simp; omega

/-- Read a text, line by line, behind what has been read. -/
def readFrom (p : List UInt8 → Option M) (acc : List M) (t : List UInt8) : Rd M :=
  if h : t = [] then .ok acc else
    if (cutC 10 t).2.2 = true then match p (cutC 10 t).1 with
      | some m => readFrom p (acc ++ [m]) (cutC 10 t).2.1
      | none => .bad (acc.length + 1)
    else .bad (acc.length + 1)
termination_by t.length
decreasing_by exact cutC_lt 10 t h

theorem readFrom_nil (p : List UInt8 → Option M) (acc : List M) : readFrom p acc [] = .ok acc := by rw [readFrom]; simp
theorem readFrom_bad {p : List UInt8 → Option M} {acc : List M} {t : List UInt8} (h : t ≠ []) (hb : (cutC 10 t).2.2 = false ∨ p (cutC 10 t).1 = none) : readFrom p acc t = .bad (acc.length + 1) := by
  rw [readFrom, dif_neg h]
  rcases hb with hb | hb
  · rw [hb]; simp
  · rw [hb]; split <;> rfl
theorem readFrom_step {p : List UInt8 → Option M} {acc : List M} {t : List UInt8} {m : M} (h : t ≠ []) (h2 : (cutC 10 t).2.2 = true) (hm : p (cutC 10 t).1 = some m) : readFrom p acc t = readFrom p (acc ++ [m]) (cutC 10 t).2.1 := by
  rw [readFrom, dif_neg h, if_pos h2, hm]

theorem cutC_at (c : UInt8) : ∀ (l : List UInt8) (k : Nat), (∀ j, j < k → l[j]? ≠ some c) → l[k]? = some c → cutC c l = (l.take k, l.drop (k + 1), true) := by
  intro l
  induction l with
  | nil => intro k _ h; simp at h
  | cons b r ih =>
    intro k h1 h2
    cases k with
    | zero =>
      simp at h2
      subst h2
      simp [cutC]
    | succ k =>
      have hb : (b == c) = false := by
        rw [beq_eq_false_iff_ne]
        intro e
        exact h1 0 (by omega) (by simp [e])
      have h3 := ih k (fun j hj => by have := h1 (j + 1) (by omega); simpa using this) (by simpa using h2)
      rw [cutC, hb, h3]
      simp
theorem cutC_not (c : UInt8) (l : List UInt8) (h : ∀ j, j < l.length → l[j]? ≠ some c) : (cutC c l).2.2 = false := by
  induction l with
  | nil => rfl
  | cons b r ih =>
    have hb : (b == c) = false := by
      rw [beq_eq_false_iff_ne]
      intro e
      exact h 0 (by simp) (by simp [e])
    rw [cutC, hb]
    simp only [Bool.false_eq_true, if_false]
    exact ih (fun j hj => by have := h (j + 1) (by simp; omega); simpa using this)

/-- At a line feed: what stands from f up to it is a line. -/
theorem cut_line {l : List UInt8} {f i : Nat} (hf : f ≤ i) (h1 : ∀ j, f ≤ j → j < i → l[j]? ≠ some 10) (h2 : l[i]? = some 10) : cutC 10 (l.drop f) = ((l.drop f).take (i - f), l.drop (i + 1), true) := by
  rw [cutC_at 10 (l.drop f) (i - f) (fun j hj => by rw [List.getElem?_drop]; exact h1 (f + j) (by omega) (by omega)) (by rw [List.getElem?_drop, show f + (i - f) = i by omega]; exact h2)]
  rw [List.drop_drop, show f + (i - f + 1) = i + 1 by omega]
theorem cut_rest {l : List UInt8} {f : Nat} (h1 : ∀ j, f ≤ j → j < l.length → l[j]? ≠ some 10) : (cutC 10 (l.drop f)).2.2 = false :=
  cutC_not 10 _ (fun j hj => by rw [List.getElem?_drop]; rw [List.length_drop] at hj; exact h1 (f + j) (by omega) (by omega))

end Go.Proofs.YtbcepdacfmbekaaDoor.Pl
