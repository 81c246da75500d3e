/-
  Plain laws on cutting a list of bytes at one byte: splitC, cutC, and that the library's words (Lib.splitB, Lib.cut) come to them. No program in sight.
-/
import Derived.Lib.Split
import Derived.Lib.IndexBytes
import Derived.Lib.IndexMore
import Derived.Lib.Strings
import Derived.Lib.CountLaws
namespace Go.Proofs.YtbcepdacfmbekaaDoor.Pl

/-- The parts of a list between the bytes c: one more than there are c. -/
def splitC (c : UInt8) : List UInt8 → List (List UInt8)
  | [] => [[]]
  | b :: r => if b == c then [] :: splitC c r else match splitC c r with
    | [] => [[b]]
    | h :: t => (b :: h) :: t

/-- words.Split: nothing for the empty line. -/
def split (l : List UInt8) : List (List UInt8) := if l.isEmpty then [] else splitC 32 l

/-- What stands ahead of the first c, what stands behind it, and whether there is one. -/
def cutC (c : UInt8) : List UInt8 → List UInt8 × List UInt8 × Bool
  | [] => ([], [], false)
  | b :: r => if b == c then ([], r, true) else (b :: (cutC c r).1, (cutC c r).2.1, (cutC c r).2.2)

theorem splitC_ne (c : UInt8) (l : List UInt8) : splitC c l ≠ [] := by
  cases l with
  | nil => simp [splitC]
  | cons b r => rw [splitC]; split; · simp
                split <;> simp

theorem splitC_length (c : UInt8) (l : List UInt8) : (splitC c l).length = l.count c + 1 := by
  induction l with
  | nil => rfl
  | cons b r ih =>
    rw [splitC, List.count_cons]
    by_cases h : (b == c) = true
    · rw [if_pos h]; simp [ih, h]
    · rw [if_neg h]
      have hne := splitC_ne c r
      cases hs : splitC c r with
      | nil => exact absurd hs hne
      | cons x t => rw [hs] at ih; simp only [List.length_cons] at ih ⊢; rw [if_neg h]; omega

theorem cutC_none (c : UInt8) (l : List UInt8) (h : l.count c = 0) : cutC c l = (l, [], false) := by
  induction l with
  | nil => rfl
  | cons b r ih =>
    rw [List.count_cons] at h
    by_cases hb : (b == c) = true
    · simp [hb] at h
    · rw [cutC, if_neg hb, ih (by omega)]

theorem cutC_split (c : UInt8) (l : List UInt8) : splitC c l = if (cutC c l).2.2 then (cutC c l).1 :: splitC c (cutC c l).2.1 else [l] := by
  induction l with
  | nil => rfl
  | cons b r ih =>
    rw [splitC, cutC]
    by_cases hb : (b == c) = true
    · rw [if_pos hb, if_pos hb]; simp
    · rw [if_neg hb, if_neg hb, ih]
      cases hc : (cutC c r).2.2 <;> simp

theorem indexByte_cut (c : UInt8) : ∀ l : List UInt8, (cutC c l).2.2 = true → 0 ≤ Lib.indexByte l c ∧ (cutC c l).1 = l.take (Lib.indexByte l c).toNat ∧ (cutC c l).2.1 = l.drop ((Lib.indexByte l c).toNat + 1) ∧ (l.drop ((Lib.indexByte l c).toNat + 1)).count c + 1 = l.count c
  | [], h => by simp [cutC] at h
  | b :: r, h => by
    by_cases hb : (b == c) = true
    · rw [cutC, if_pos hb, Lib.indexByte, if_pos hb, List.count_cons, if_pos hb]
      exact ⟨by omega, rfl, rfl, rfl⟩
    · rw [cutC, if_neg hb] at h ⊢
      obtain ⟨h0, h1, h2, h3⟩ := indexByte_cut c r h
      have hm : ¬ (Lib.indexByte r c == -1) = true := by simp; omega
      rw [Lib.indexByte, if_neg hb, if_neg hm, List.count_cons, if_neg hb]
      have e : (Lib.indexByte r c + 1).toNat = (Lib.indexByte r c).toNat + 1 := by omega
      rw [e]
      exact ⟨by omega, by simp [h1], by simpa using h2, by simpa using h3⟩

theorem indexByte_nocut (c : UInt8) : ∀ l : List UInt8, (cutC c l).2.2 = false → Lib.indexByte l c = -1 ∧ cutC c l = (l, [], false) ∧ l.count c = 0
  | [], _ => ⟨rfl, rfl, rfl⟩
  | b :: r, h => by
    by_cases hb : (b == c) = true
    · rw [cutC, if_pos hb] at h; cases h
    · rw [cutC, if_neg hb] at h ⊢
      obtain ⟨h0, h1, h2⟩ := indexByte_nocut c r h
      rw [Lib.indexByte, if_neg hb, h0, List.count_cons, if_neg hb, h1, h2]
      exact ⟨rfl, rfl, rfl⟩

theorem cut_one (c : UInt8) (l : List UInt8) : Lib.cut l [c] = cutC c l := by
  unfold Lib.cut
  rw [Lib.index_one]
  cases h : (cutC c l).2.2 with
  | true =>
    obtain ⟨h0, h1, h2, _⟩ := indexByte_cut c l h
    rw [if_pos h0, ← h1]
    have : (cutC c l) = ((cutC c l).1, (cutC c l).2.1, (cutC c l).2.2) := rfl
    rw [this, h2, h]; rfl
  | false =>
    obtain ⟨h0, h1, _⟩ := indexByte_nocut c l h
    rw [h0, h1, if_neg (by omega)]

theorem count_one (c : UInt8) : ∀ (n : Nat) (l : List UInt8), l.length ≤ n → Lib.count l [c] = l.count c
  | 0, l, h => by
    have : l = [] := List.eq_nil_of_length_eq_zero (by omega)
    subst this; exact Lib.count_miss (Lib.index_one [] c)
  | n + 1, l, h => by
    cases hc : (cutC c l).2.2 with
    | true =>
      obtain ⟨h0, h1, h2, h3⟩ := indexByte_cut c l hc
      have hi : Lib.index l [c] = ((Lib.indexByte l c).toNat : Nat) := by rw [Lib.index_one]; omega
      rw [Lib.count_hit (by simp) hi, List.length_singleton]
      have hl : (l.drop ((Lib.indexByte l c).toNat + 1)).length ≤ n := by
        have hp : 0 < l.length := by
          cases l with
          | nil => simp [cutC] at hc
          | cons a r => simp
        rw [List.length_drop]; omega
      rw [count_one c n _ hl]; omega
    | false =>
      obtain ⟨h0, h1, h2⟩ := indexByte_nocut c l hc
      rw [h2, Lib.count_miss (by rw [Lib.index_one]; exact h0)]

theorem splitK_one (c : UInt8) : ∀ (n : Nat) (l : List UInt8), l.count c ≤ n → Lib.splitK [c] 0 n l = splitC c l
  | 0, l, h => by
    have := cutC_none c l (by omega)
    rw [cutC_split, this]; rfl
  | n + 1, l, h => by
    rw [Lib.splitK, Lib.index_one, cutC_split]
    cases hc : (cutC c l).2.2 with
    | true =>
      obtain ⟨h0, h1, h2, h3⟩ := indexByte_cut c l hc
      have hm : ¬ (Lib.indexByte l c == -1) = true := by simp; omega
      rw [if_neg hm, if_pos rfl, h1, h2]
      simp only [Nat.add_zero, List.length_singleton]
      rw [splitK_one c n _ (by omega)]
    | false =>
      obtain ⟨h0, h1, _⟩ := indexByte_nocut c l hc
      rw [h0]; simp

theorem splitB_one (c : UInt8) (s : ByteArray) : Lib.splitB ⟨#[c]⟩ 0 (s.data.toList.count c) s = (splitC c s.data.toList).map fun l => ⟨l.toArray⟩ := by
  have h := Lib.splitB_data ⟨#[c]⟩ 0 (s.data.toList.count c) s
  rw [splitK_one c _ _ (Nat.le_refl _)] at h
  rw [← h, List.map_map]
  exact (List.map_id'' (fun x => by simp) _).symm

theorem splitC_le (c : UInt8) : ∀ (l x : List UInt8), x ∈ splitC c l → x.length ≤ l.length
  | [], x, h => by simp [splitC] at h; simp [h]
  | b :: r, x, h => by
    rw [splitC] at h
    by_cases hb : (b == c) = true
    · rw [if_pos hb] at h
      rcases List.mem_cons.1 h with rfl | h
      · simp
      · have := splitC_le c r x h
        simp; omega
    · rw [if_neg hb] at h
      have hr := splitC_le c r
      split at h
      · simp at h; subst h; simp
      · rename_i y t hs
        rw [hs] at hr
        rcases List.mem_cons.1 h with rfl | h
        · have := hr y (List.mem_cons_self)
          simp; omega
        · have := hr x (List.mem_cons_of_mem _ h)
          simp; omega

theorem split_le (l x : List UInt8) (h : x ∈ split l) : x.length ≤ l.length := by
  unfold split at h
  split at h
  · cases h
  · exact splitC_le 32 l x h

theorem split_getD_le (l : List UInt8) (j : Nat) : ((split l).getD j []).length ≤ l.length := by
  rcases Nat.lt_or_ge j (split l).length with h | h
  · refine split_le l _ ?_
    simp [List.getD, h]
  · simp [List.getD, List.getElem?_eq_none h]

end Go.Proofs.YtbcepdacfmbekaaDoor.Pl
