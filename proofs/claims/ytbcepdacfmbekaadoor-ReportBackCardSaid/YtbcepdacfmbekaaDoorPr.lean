/-
  Plain: the reference's row of a line, and that it is the row. No program in sight.
-/
import Derived.Test.YtbcepdacfmbekaaDoorPw
namespace Go.Proofs.YtbcepdacfmbekaaDoor.Pl

def refRow (line : List UInt8) : Option (Int × Int) :=
  if (split line).length = 3 ∧ (split line).getD 0 [] = rowWord then
    match nonneg ((split line).getD 1 []) with
    | none => none
    | some v => if 0 ≤ indexOf ((split line).getD 2 []) phases3 then some (v, indexOf ((split line).getD 2 []) phases3) else none
  else none

theorem splitC_append_sep (c : UInt8) (a b : List UInt8) (h : a.count c = 0) : splitC c (a ++ c :: b) = a :: splitC c b := by
  induction a with
  | nil => simp [splitC]
  | cons x r ih =>
    rw [List.count_cons] at h
    have hx : (x == c) = false := by
      cases hx : x == c with
      | false => rfl
      | true => simp [hx] at h
    rw [List.cons_append, splitC, if_neg (by simp [hx]), ih (by omega)]

theorem splitC_one (c : UInt8) (a : List UInt8) (h : a.count c = 0) : splitC c a = [a] := by
  rw [cutC_split, cutC_none c a h]
  rfl

theorem cutC_some {c : UInt8} : ∀ {l : List UInt8}, (cutC c l).2.2 = true → l = (cutC c l).1 ++ c :: (cutC c l).2.1 ∧ (cutC c l).1.count c = 0
  | [], h => by simp [cutC] at h
  | b :: r, h => by
    rw [cutC] at h ⊢
    by_cases hb : (b == c) = true
    · rw [if_pos hb] at h ⊢
      have : b = c := by simpa using hb
      subst this
      simp
    · rw [if_neg hb] at h ⊢
      obtain ⟨h1, h2⟩ := cutC_some (l := r) h
      refine ⟨by simp only [List.cons_append]; rw [← h1], ?_⟩
      rw [List.count_cons, h2]
      simp [hb]

theorem indexOf_nonneg_mem {x : List UInt8} {L : List (List UInt8)} (h : 0 ≤ indexOf x L) : x ∈ L := by
  induction L with
  | nil => simp [indexOf] at h
  | cons y r ih =>
    rw [indexOf] at h
    by_cases hx : (x == y) = true
    · have : x = y := by simpa using hx
      subst this; exact List.mem_cons_self
    · rw [if_neg hx] at h
      split at h
      · omega
      · refine List.mem_cons_of_mem _ (ih ?_)
        have := indexOf_ge x r
        omega

theorem rowWord_count : rowWord.count 32 = 0 := by decide
theorem rowHead_eq : rowHead = rowWord ++ [32] := rfl

/-- What "row " ++ t is split into. -/
theorem split_rowHead (t : List UInt8) : split (rowHead ++ t) = rowWord :: splitC 32 t := by
  unfold split
  rw [if_neg (by simp [rowHead]), rowHead_eq, List.append_assoc]
  exact splitC_append_sep 32 rowWord t rowWord_count

theorem nonnegs_one (w : List UInt8) : nonnegs [w] = (nonneg w).map fun v => [v] := by
  rw [nonnegs, nonnegs]
  cases nonneg w <;> rfl

theorem readNums_row (t : List UInt8) (h : t.count 32 = 0) : readNums rowWord 1 (split (rowHead ++ t)) = (nonneg t).map fun v => [v] := by
  rw [split_rowHead, splitC_one 32 t h]
  unfold readNums
  rw [if_pos ⟨rfl, rfl⟩]
  exact nonnegs_one t

theorem refRow_eq (line : List UInt8) : refRow line = row line := by
  unfold row
  by_cases hp : rowHead.isPrefixOf line = true
  · rw [if_pos hp]
    obtain ⟨t, rfl⟩ := List.isPrefixOf_iff_prefix.1 hp
    have hd : (rowHead ++ t).drop 4 = t := rfl
    rw [hd]
    unfold refRow
    rw [split_rowHead, rowOf_def]
    cases hc : (cutC 32 t).2.2 with
    | false =>
      have : splitC 32 t = [t] := by rw [cutC_split, hc]; rfl
      rw [this, if_neg (by simp)]
      rfl
    | true =>
      obtain ⟨h1, h2⟩ := cutC_some hc
      have hs : splitC 32 t = (cutC 32 t).1 :: splitC 32 (cutC 32 t).2.1 := by rw [cutC_split, hc]; rfl
      rw [hs, readNums_row _ h2, if_pos rfl]
      simp only [List.getD_cons_zero, List.getD_cons_succ, List.length_cons]
      by_cases hcnt : (cutC 32 t).2.1.count 32 = 0
      · rw [splitC_one 32 _ hcnt]
        simp only [List.length_cons, List.length_nil, List.getD_cons_zero, and_self, if_true]
        cases nonneg (cutC 32 t).1 <;> rfl
      · have hl := splitC_length 32 (cutC 32 t).2.1
        rw [if_neg (by omega)]
        have hix : ¬ 0 ≤ indexOf (cutC 32 t).2.1 phases3 := by
          intro h
          have hm := indexOf_nonneg_mem h
          simp only [phases3, List.mem_cons, List.not_mem_nil, or_false] at hm
          rcases hm with hm | hm | hm <;> · rw [hm] at hcnt; exact hcnt (by decide)
        cases nonneg (cutC 32 t).1 with
        | none => rfl
        | some v => simp only [Option.map_some]; rw [if_neg hix]
  · rw [if_neg hp]
    unfold refRow
    rw [if_neg]
    rintro ⟨h3, h0⟩
    apply hp
    have hne : line ≠ [] := by rintro rfl; simp [split] at h3
    have hsp : split line = splitC 32 line := by unfold split; rw [if_neg (by simpa using hne)]
    rw [hsp] at h3 h0
    rw [cutC_split] at h3 h0
    cases hc : (cutC 32 line).2.2 with
    | false => rw [hc] at h3; simp at h3
    | true =>
      rw [hc] at h0
      simp at h0
      obtain ⟨h1, _⟩ := cutC_some hc
      rw [h0] at h1
      rw [h1]
      rfl

end Go.Proofs.YtbcepdacfmbekaaDoor.Pl
