/-
  Plain: the text of a number is its number's; lines and their words. No program in sight.
-/
import Derived.Test.YtbcepdacfmbekaaDoorPn
import Derived.Test.YtbcepdacfmbekaaDoorPr
import Derived.Lib.Join
namespace Go.Proofs.YtbcepdacfmbekaaDoor.Pl

theorem digits_mem : ∀ (n : Nat) (c : UInt8), c ∈ digits n → 48 ≤ c.toNat ∧ c.toNat ≤ 57 := by
  intro n
  induction n using Nat.strongRecOn with
  | ind n ih =>
    intro c hc
    by_cases h : n < 10
    · rw [digits_small h] at hc
      simp at hc
      subst hc
      simp
      omega
    · rw [digits_big h, List.mem_append] at hc
      rcases hc with hc | hc
      · exact ih (n / 10) (by omega) c hc
      · simp at hc
        subst hc
        simp
        omega

theorem numLoop_append : ∀ (a b : List UInt8) (n : Int), numLoop (a ++ b) n = (numLoop a n).bind fun m => numLoop b m := by
  intro a
  induction a with
  | nil => intro b n; rfl
  | cons c r ih =>
    intro b n
    rw [List.cons_append, numLoop, numLoop]
    split
    · rfl
    · exact ih b _

theorem numLoop_of_digits : ∀ (k : Nat), k ≤ 9223372036854775808 → numLoop (digits k) 0 = some (-(k : Int)) := by
  intro k
  induction k using Nat.strongRecOn with
  | ind k ih =>
    intro hk
    by_cases h : k < 10
    · rw [digits_small h, numLoop]
      have e : (UInt8.ofNat (48 + k)).toNat = 48 + k := by simp; omega
      rw [e, if_neg (by omega), numLoop]
      congr 1
      omega
    · rw [digits_big h, numLoop_append, ih (k / 10) (by omega) (by omega)]
      simp only [Option.bind_some]
      have e : (UInt8.ofNat (48 + k % 10)).toNat = 48 + k % 10 := by simp; omega
      rw [numLoop, e, if_neg (by omega), numLoop]
      congr 1
      omega

theorem digits_head_ok {k : Nat} {minus : Bool} (h : minus = true → k ≠ 0) : badHead (digits k) minus = false := by
  cases hb : badHead (digits k) minus with
  | false => rfl
  | true =>
    exfalso
    simp only [badHead, Bool.or_eq_true, Bool.and_eq_true, decide_eq_true_eq] at hb
    rcases hb with (h1 | ⟨h1, h2⟩) | ⟨h1, h2⟩
    · exact digits_ne k (by simpa using h1)
    · cases hd : digits k with
      | nil => exact digits_ne k hd
      | cons c r =>
        rw [hd] at h1 h2
        simp at h1 h2
        have hc : c = 48 := by apply UInt8.toNat_inj.1; rw [show (48 : UInt8).toNat = 48 from rfl]; omega
        subst hc
        have := digits_zero_head hd
        subst this
        simp at h1
    · have h3 : digits k = [48] := by simpa using h2
      have h4 := h h1
      obtain ⟨c, r, h5, h6⟩ := digits_head k (by omega)
      rw [h3] at h5
      injection h5 with h5
      exact h6 h5.symm

/-- The number of a number's text is the number. -/
theorem number_decimal {n : Int} (h0 : -9223372036854775808 ≤ n) (h1 : n ≤ 9223372036854775807) : number (decimal n) = (n, true) := by
  by_cases hn : n < 0
  · have e : decimal n = 45 :: digits n.natAbs := by unfold decimal; rw [if_pos hn]
    unfold number
    rw [e, show List.isPrefixOf [45] (45 :: digits n.natAbs) = true by simp [List.isPrefixOf]]
    simp only [if_true, List.drop_succ_cons, List.drop_zero]
    unfold numOf
    rw [digits_head_ok (by omega)]
    simp only [Bool.false_eq_true, if_false]
    unfold numTail
    rw [numLoop_of_digits _ (by omega)]
    simp only [if_true]
    congr 1
    omega
  · have e : decimal n = digits n.natAbs := by unfold decimal; rw [if_neg hn]
    have hp : List.isPrefixOf [45] (digits n.natAbs) = false := by
      cases hd : digits n.natAbs with
      | nil => exact absurd hd (digits_ne _)
      | cons c r =>
        have := digits_mem n.natAbs c (by rw [hd]; exact List.mem_cons_self)
        rw [List.isPrefixOf]
        have h45 : ((45 : UInt8) == c) = false := by
          rw [beq_eq_false_iff_ne]
          intro h
          subst h
          simp at this
        rw [h45]; rfl
    unfold number
    rw [e, hp]
    simp only [Bool.false_eq_true, if_false]
    unfold numOf
    rw [digits_head_ok (by simp)]
    simp only [Bool.false_eq_true, if_false]
    unfold numTail
    rw [numLoop_of_digits _ (by omega)]
    simp only [Bool.false_eq_true, if_false]
    rw [if_neg (by omega)]
    congr 1
    omega

/-- What is a number's text is just its number's. -/
theorem decimal_of_number {w : List UInt8} {n : Int} (h : number w = (n, true)) : decimal n = w := by
  rw [← refNumber_eq] at h
  unfold refNumber at h
  split at h
  · simp at h
  · split at h
    · simp at h
    · rename_i m hm
      unfold refEnd at h
      split at h
      · split at h
        · rename_i h2
          simp only [Prod.mk.injEq] at h
          rw [← h.1]; exact h2
        · simp at h
      · split at h
        · simp at h
        · split at h
          · rename_i h2
            simp only [Prod.mk.injEq] at h
            rw [← h.1]; exact h2
          · simp at h

theorem digits_count (n : Nat) (c : UInt8) (hc : c.toNat < 48) : (digits n).count c = 0 :=
  List.count_eq_zero.2 fun h => by have := digits_mem n c h; omega
theorem decimal_count (n : Int) : (decimal n).count 32 = 0 := by
  unfold decimal
  split
  · rw [List.count_cons, digits_count _ _ (by decide)]; rfl
  · exact digits_count _ _ (by decide)

theorem join_cons2 (x y : List UInt8) (r : List (List UInt8)) : Lib.join (x :: y :: r) [32] = x ++ 32 :: Lib.join (y :: r) [32] := by
  simp [Lib.join_cons, Lib.joinTail]

/-- Words without a space, joined, are split into themselves. -/
theorem splitC_join : ∀ (ws : List (List UInt8)), ws ≠ [] → (∀ w ∈ ws, w.count 32 = 0) → splitC 32 (Lib.join ws [32]) = ws := by
  intro ws
  induction ws with
  | nil => intro h; exact absurd rfl h
  | cons x r ih =>
    intro _ h
    cases r with
    | nil => rw [Lib.join_one]; exact splitC_one 32 x (h x (by simp))
    | cons y t =>
      rw [join_cons2, splitC_append_sep 32 _ _ (h x (by simp)), ih (by simp) (fun w hw => h w (List.mem_cons_of_mem _ hw))]
/-- A line's words, joined, are the line. -/
theorem join_splitC : ∀ (l : List UInt8), Lib.join (splitC 32 l) [32] = l := by
  intro l
  induction l with
  | nil => rfl
  | cons b r ih =>
    rw [splitC]
    by_cases h : (b == 32) = true
    · rw [if_pos h]
      have hb : b = 32 := by simpa using h
      cases hs : splitC 32 r with
      | nil => exact absurd hs (splitC_ne 32 r)
      | cons y t => rw [join_cons2, ← hs, ih, hb]; rfl
    · rw [if_neg h]
      cases hs : splitC 32 r with
      | nil => exact absurd hs (splitC_ne 32 r)
      | cons y t =>
        rw [hs] at ih
        simp only
        cases t with
        | nil => rw [Lib.join_one] at ih ⊢; rw [ih]
        | cons z u => rw [join_cons2] at ih ⊢; rw [List.cons_append, ih]
theorem join_split (l : List UInt8) : Lib.join (split l) [32] = l := by
  unfold split
  split
  · rename_i h
    have : l = [] := by simpa using h
    rw [this]; rfl
  · exact join_splitC l

end Go.Proofs.YtbcepdacfmbekaaDoor.Pl
