/-
  Plain functions on lists of bytes: what package words computes. No program in sight.
-/
namespace Go.Proofs.YtbcepdacfmbekaaDoor.Pl

/-- The digits of a number, read downwards from n. -/
def numLoop : List UInt8 → Int → Option Int
  | [], n => some n
  | c :: r, n => if (c.toNat : Int) - 48 < 0 ∨ 9 < (c.toNat : Int) - 48 ∨ n < -922337203685477580 ∨ n * 10 < -9223372036854775808 + ((c.toNat : Int) - 48) then none else numLoop r (n * 10 - ((c.toNat : Int) - 48))

/-- Is this no text of a number by its first byte? -/
def badHead (t : List UInt8) (minus : Bool) : Bool := t.isEmpty || (decide (1 < (t.length : Int)) && ((t.getD 0 0).toNat : Int) == 48) || (minus && t == [48])

def numTail (t : List UInt8) (minus : Bool) : Int × Bool :=
  match numLoop t 0 with
  | none => (0, false)
  | some n => if minus then (n, true) else if n = -9223372036854775808 then (0, false) else (-n, true)

def numOf (t : List UInt8) (minus : Bool) : Int × Bool := if badHead t minus then (0, false) else numTail t minus

/-- words.Number -/
def number (s : List UInt8) : Int × Bool := numOf (if List.isPrefixOf [45] s then s.drop 1 else s) (List.isPrefixOf [45] s)

theorem numLoop_le : ∀ (l : List UInt8) (n m : Int), n ≤ 0 → -9223372036854775808 ≤ n → numLoop l n = some m → m ≤ 0 ∧ -9223372036854775808 ≤ m := by
  intro l
  induction l with
  | nil => intro n m h0 h1 h; simp only [numLoop, Option.some.injEq] at h; subst h; exact ⟨h0, h1⟩
  | cons c r ih =>
    intro n m h0 h1 h
    rw [numLoop] at h
    split at h
    · cases h
    · exact ih _ _ (by omega) (by omega) h

/-- The place of x among others, -1 if it is not there. -/
def indexOf (x : List UInt8) : List (List UInt8) → Int
  | [] => -1
  | y :: r => if x == y then 0 else if indexOf x r = -1 then -1 else indexOf x r + 1

theorem indexOf_ge (x : List UInt8) (l : List (List UInt8)) : -1 ≤ indexOf x l := by
  induction l with
  | nil => simp [indexOf]
  | cons y r ih => rw [indexOf]; split; · omega
                   split <;> omega

theorem indexOf_lt (x : List UInt8) (l : List (List UInt8)) : indexOf x l < l.length := by
  induction l with
  | nil => simp [indexOf]
  | cons y r ih => rw [indexOf, List.length_cons]; split; · omega
                   split <;> omega

theorem indexOf_hit {x : List UInt8} {l : List (List UInt8)} {k : Nat} (hk : k < l.length) (h : ∀ j, j < k → ¬ x = l.getD j []) (he : x = l.getD k []) : indexOf x l = k := by
  induction l generalizing k with
  | nil => simp at hk
  | cons y r ih =>
    rw [indexOf]
    cases k with
    | zero => simp at he; simp [he]
    | succ k =>
      have h0 := h 0 (by omega)
      simp only [List.getD_cons_zero] at h0
      rw [if_neg (by simpa using h0)]
      have := ih (k := k) (by simpa using hk) (fun j hj => by have := h (j + 1) (by omega); simpa using this) (by simpa using he)
      rw [this, if_neg (by omega)]; omega

theorem indexOf_miss {x : List UInt8} {l : List (List UInt8)} (h : ∀ j, j < l.length → ¬ x = l.getD j []) : indexOf x l = -1 := by
  induction l with
  | nil => rfl
  | cons y r ih =>
    have h0 := h 0 (by simp)
    simp only [List.getD_cons_zero] at h0
    rw [indexOf, if_neg (by simpa using h0), ih (fun j hj => by have := h (j + 1) (by simpa using hj); simpa using this)]
    rfl

/-- A number that is not negative. -/
def nonneg (w : List UInt8) : Option Int := if (number w).2 = true ∧ 0 ≤ (number w).1 then some (number w).1 else none

def nonnegs : List (List UInt8) → Option (List Int)
  | [] => some []
  | w :: r => match nonneg w with
    | none => none
    | some v => match nonnegs r with
      | none => none
      | some l => some (v :: l)

/-- A word and so many numbers. -/
def readNums (word : List UInt8) (n : Nat) (ws : List (List UInt8)) : Option (List Int) :=
  if ws.length = n + 1 ∧ ws.getD 0 [] = word then nonnegs (ws.drop 1) else none

theorem nonnegs_length {ws : List (List UInt8)} {l : List Int} (h : nonnegs ws = some l) : l.length = ws.length := by
  induction ws generalizing l with
  | nil => simp [nonnegs] at h; subst h; rfl
  | cons w r ih =>
    rw [nonnegs] at h
    split at h
    · cases h
    · split at h
      · cases h
      · rename_i l' hl'
        injection h with h
        subst h
        simp [ih hl']

theorem nonnegs_take_none {ws : List (List UInt8)} {k : Nat} (hk : k < ws.length) (h : nonneg (ws.getD k []) = none) : nonnegs ws = none := by
  induction ws generalizing k with
  | nil => simp at hk
  | cons w r ih =>
    rw [nonnegs]
    cases k with
    | zero => simp at h; rw [h]
    | succ k =>
      have := ih (k := k) (by simpa using hk) (by simpa using h)
      rw [this]
      split <;> rfl

theorem nonnegs_take_succ {ws : List (List UInt8)} {k : Nat} {vs : List Int} {v : Int} (hk : k < ws.length) (hvs : nonnegs (ws.take k) = some vs) (hv : nonneg (ws.getD k []) = some v) : nonnegs (ws.take (k + 1)) = some (vs ++ [v]) := by
  induction ws generalizing k vs with
  | nil => simp at hk
  | cons w r ih =>
    cases k with
    | zero =>
      simp [nonnegs] at hvs; subst hvs
      simp at hv
      simp [nonnegs, hv]
    | succ k =>
      rw [List.take_succ_cons, nonnegs] at hvs ⊢
      split at hvs
      · cases hvs
      · rename_i v0 hv0
        split at hvs
        · cases hvs
        · rename_i l hl
          injection hvs with hvs
          subst hvs
          rw [ih (k := k) (by simpa using hk) hl (by simpa using hv)]
          simp

theorem numTail_range {t : List UInt8} {minus : Bool} {n : Int} (h : numTail t minus = (n, true)) : -9223372036854775808 ≤ n ∧ n ≤ 9223372036854775807 := by
  unfold numTail at h
  split at h
  · simp at h
  · rename_i m hm
    have := numLoop_le t 0 m (by omega) (by omega) hm
    split at h
    · simp at h; omega
    · split at h
      · simp at h
      · simp at h; omega

theorem numOf_range (t : List UInt8) (minus : Bool) : -9223372036854775808 ≤ (numOf t minus).1 ∧ (numOf t minus).1 ≤ 9223372036854775807 := by
  unfold numOf
  split
  · simp
  · generalize ht : numTail t minus = r
    obtain ⟨n, b⟩ := r
    cases b with
    | true => exact numTail_range ht
    | false =>
      unfold numTail at ht
      split at ht
      · simp at ht; subst ht; simp
      · split at ht
        · simp at ht
        · split at ht
          · simp at ht; subst ht; simp
          · simp at ht

theorem number_range (s : List UInt8) : -9223372036854775808 ≤ (number s).1 ∧ (number s).1 ≤ 9223372036854775807 := numOf_range _ _

theorem nonneg_range {w : List UInt8} {v : Int} (h : nonneg w = some v) : 0 ≤ v ∧ v ≤ 9223372036854775807 := by
  unfold nonneg at h
  split at h
  · rename_i hc
    have := number_range w
    injection h with h
    omega
  · cases h

end Go.Proofs.YtbcepdacfmbekaaDoor.Pl
