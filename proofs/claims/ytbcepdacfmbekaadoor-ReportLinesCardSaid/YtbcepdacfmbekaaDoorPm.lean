/-
  Plain: messages and their lines (package report). No program in sight.
-/
import Derived.Test.YtbcepdacfmbekaaDoorPt
namespace Go.Proofs.YtbcepdacfmbekaaDoor.Pl

/-- A message. -/
structure Msg where
  kind : Int
  sym : Int
  seq : Int
  tick : Int
  id : Int
  wth : Int
  price : Int
  qty : Int
  code : Int

def kindWords : List (List UInt8) := [[], [97, 99, 107], [114, 101, 106, 101, 99, 116], [116, 114, 97, 100, 101], [100, 111, 110, 101], [98, 97, 110, 100, 115], [115, 116, 97, 116, 117, 115], [114, 101, 115, 116, 114, 105, 99, 116], [101, 120, 116, 101, 110, 100], [108, 101, 118, 101, 108]]
/-- The word of a kind. -/
def kword (k : Int) : List UInt8 := if k < 1 ∨ 9 < k then [] else kindWords.getD k.toNat []
/-- The kind of a word. -/
def kindOf (w : List UInt8) : Int := if indexOf w kindWords < 0 then 0 else indexOf w kindWords

def MsgOk (m : Msg) : Prop := (1 ≤ m.kind ∧ m.kind ≤ 9) ∧ ((0 ≤ m.sym ∧ m.sym ≤ 255) ∧ (0 ≤ m.code ∧ m.code ≤ 255)) ∧ ((0 ≤ m.seq ∧ m.seq ≤ 4611686018427387904) ∧ (0 ≤ m.tick ∧ m.tick ≤ 4611686018427387904)) ∧ ((-1 ≤ m.id ∧ m.id ≤ 4611686018427387904) ∧ (-1 ≤ m.wth ∧ m.wth ≤ 4611686018427387904))
instance (m : Msg) : Decidable (MsgOk m) := by unfold MsgOk; infer_instance
def msgRight (m : Msg) : Bool := decide (MsgOk m)

/-- The words of a message's line. -/
def mwords (m : Msg) : List (List UInt8) := [decimal m.seq, decimal m.tick, decimal m.sym, kword m.kind, decimal m.id, decimal m.wth, decimal m.price, decimal m.qty, decimal m.code]
def mtext (m : Msg) : List UInt8 := Lib.join (mwords m) [32]
/-- The line of a message. -/
def mline (m : Msg) : Option (List UInt8) := if msgRight m = true then some (mtext m) else none

/-- The number of a word, 0 if it is none. -/
def numAt (ws : List (List UInt8)) (j : Nat) : Int := (number (ws.getD j [])).1
def okAt (ws : List (List UInt8)) (j : Nat) : Bool := (number (ws.getD j [])).2
/-- What a line's words may be. -/
def msgOf (ws : List (List UInt8)) : Msg := ⟨kindOf (ws.getD 3 []), numAt ws 2, numAt ws 0, numAt ws 1, numAt ws 4, numAt ws 5, numAt ws 6, numAt ws 7, numAt ws 8⟩
/-- Are the words from number k on numbers, but the fourth? -/
def oksFrom (ws : List (List UInt8)) (k : Nat) : Bool := (List.range (9 - k)).all fun i => k + i == 3 || okAt ws (k + i)
def allOk (ws : List (List UInt8)) : Bool := okAt ws 0 && okAt ws 1 && okAt ws 2 && okAt ws 4 && okAt ws 5 && okAt ws 6 && okAt ws 7 && okAt ws 8

/-- report.Parse -/
def mparse (l : List UInt8) : Option Msg := if (split l).length = 9 then if allOk (split l) = true ∧ msgRight (msgOf (split l)) = true then some (msgOf (split l)) else none else none
/-- The reference's Parse. -/
def refMparse (l : List UInt8) : Option Msg := if (split l).length = 9 then if mline (msgOf (split l)) = some l then some (msgOf (split l)) else none else none

theorem kword_count (k : Int) : (kword k).count 32 = 0 := by
  unfold kword
  split
  · rfl
  · obtain ⟨n, rfl⟩ : ∃ n : Nat, k = n := ⟨k.toNat, by omega⟩
    have h : ∀ n : Nat, n < 10 → (kindWords.getD n []).count 32 = 0 := by decide
    exact h _ (by omega)
theorem mwords_count (m : Msg) : ∀ w ∈ mwords m, w.count 32 = 0 := by
  intro w hw
  simp only [mwords, List.mem_cons, List.not_mem_nil, or_false] at hw
  rcases hw with rfl | rfl | rfl | rfl | rfl | rfl | rfl | rfl | rfl
  all_goals first | exact decimal_count _ | exact kword_count _

theorem kindOf_kword {w : List UInt8} (h : 1 ≤ kindOf w) : kword (kindOf w) = w := by
  have hlt := indexOf_lt w kindWords
  unfold kindOf at h ⊢
  by_cases h0 : indexOf w kindWords < 0
  · rw [if_pos h0] at h; omega
  · rw [if_neg h0] at h ⊢
    have hm := indexOf_nonneg_mem (x := w) (L := kindWords) (by omega)
    have hl : (kindWords.length : Int) = 10 := rfl
    unfold kword
    rw [if_neg (by omega)]
    have h2 : ∀ v ∈ kindWords, 0 ≤ indexOf v kindWords → kindWords.getD (indexOf v kindWords).toNat [] = v := by decide
    exact h2 w hm (by omega)
theorem kword_kindOf {k : Int} (h : 1 ≤ k) (h9 : k ≤ 9) : kindOf (kword k) = k := by
  obtain ⟨n, rfl⟩ : ∃ n : Nat, k = n := ⟨k.toNat, by omega⟩
  have h2 : ∀ n : Nat, n < 10 → 1 ≤ n → kindOf (kword (n : Int)) = (n : Int) := by decide
  exact h2 n (by omega) (by omega)

theorem list9 {ws : List (List UInt8)} (h : ws.length = 9) : ws = [ws.getD 0 [], ws.getD 1 [], ws.getD 2 [], ws.getD 3 [], ws.getD 4 [], ws.getD 5 [], ws.getD 6 [], ws.getD 7 [], ws.getD 8 []] := by
  match ws, h with
  | [a, b, c, d, e, f, g, i, j], _ => rfl

theorem num_back {ws : List (List UInt8)} {j : Nat} (h : okAt ws j = true) : decimal (numAt ws j) = ws.getD j [] := by
  unfold okAt at h
  unfold numAt
  exact decimal_of_number (by rw [← h])
theorem ok_of_text {ws : List (List UInt8)} {j : Nat} (h : decimal (numAt ws j) = ws.getD j []) : okAt ws j = true := by
  unfold okAt
  have h1 := number_range (ws.getD j [])
  have h2 := number_decimal (n := numAt ws j) h1.1 h1.2
  rw [h] at h2
  rw [h2]

theorem mwords_of {ws : List (List UInt8)} (h : ws.length = 9) (hok : allOk ws = true) (hr : 1 ≤ kindOf (ws.getD 3 [])) : mwords (msgOf ws) = ws := by
  simp only [allOk, Bool.and_eq_true] at hok
  obtain ⟨⟨⟨⟨⟨⟨⟨h0, h1⟩, h2⟩, h4⟩, h5⟩, h6⟩, h7⟩, h8⟩ := hok
  refine Eq.trans ?_ (list9 h).symm
  unfold mwords msgOf
  simp only
  rw [num_back h0, num_back h1, num_back h2, num_back h4, num_back h5, num_back h6, num_back h7, num_back h8, kindOf_kword hr]

/-- The two agree. -/
theorem refMparse_eq (l : List UInt8) : refMparse l = mparse l := by
  unfold refMparse mparse
  by_cases h9 : (split l).length = 9
  · rw [if_pos h9, if_pos h9]
    have hl : l ≠ [] := by
      intro e
      rw [e] at h9
      cases h9
    have hsp : split l = splitC 32 l := by
      unfold split
      rw [if_neg (by simpa using hl)]
    have hj := join_split l
    by_cases hp : allOk (split l) = true ∧ msgRight (msgOf (split l)) = true
    · rw [if_pos hp, if_pos]
      obtain ⟨h1, h2⟩ := hp
      unfold mline
      rw [if_pos h2]
      have hk : 1 ≤ kindOf ((split l).getD 3 []) := (of_decide_eq_true h2).1.1
      unfold mtext
      rw [mwords_of h9 h1 hk, hj]
    · rw [if_neg hp, if_neg]
      intro hm
      apply hp
      unfold mline at hm
      split at hm
      · rename_i hr
        refine ⟨?_, hr⟩
        have e : mtext (msgOf (split l)) = l := by simpa using hm
        have e2 : split l = mwords (msgOf (split l)) := by
          rw [hsp]
          conv => lhs; rw [← e]
          unfold mtext
          rw [splitC_join _ (by simp [mwords]) (mwords_count _), hsp]
        have g : ∀ j, (mwords (msgOf (split l))).getD j [] = (split l).getD j [] := fun j => by rw [← e2]
        unfold allOk
        have g0 := g 0
        have g1 := g 1
        have g2 := g 2
        have g4 := g 4
        have g5 := g 5
        have g6 := g 6
        have g7 := g 7
        have g8 := g 8
        simp only [mwords, msgOf, List.getD_cons_zero, List.getD_cons_succ] at g0 g1 g2 g4 g5 g6 g7 g8
        rw [ok_of_text g0, ok_of_text g1, ok_of_text g2, ok_of_text g4, ok_of_text g5, ok_of_text g6, ok_of_text g7, ok_of_text g8]
        rfl
      · cases hm
  · rw [if_neg h9, if_neg h9]

end Go.Proofs.YtbcepdacfmbekaaDoor.Pl
