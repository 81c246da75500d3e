/-
  The walk of damperref35.Number.
-/
import Derived.Test.YtbcepdacfmbekaaDoorKDec
import Derived.Test.YtbcepdacfmbekaaDoorPn
namespace Go.Proofs.YtbcepdacfmbekaaDoor
open Go.RowKit

def RNumPost (l : List UInt8) (w : World) (e : Ending) (w' : World) : Prop := e = .returned (.tuple #[.int .i64 (Pl.number l).1, .bool (Pl.number l).2]) ∧ Below w.heap.size w w'
theorem RNumPost.of {l : List UInt8} {w w' : World} {a : Int} {b : Bool} (h : Pl.refNumber l = (a, b)) (hb : Below w.heap.size w w') : RNumPost l w (.returned (.tuple #[.int .i64 a, .bool b])) w' :=
  ⟨by rw [← Pl.refNumber_eq, h], hb⟩

/-- What the reference's number is of a text that is neither empty nor too long. -/
theorem Pl.refNumber_mid {l : List UInt8} (h0 : 0 < l.length) (h1 : l.length ≤ 20) : Pl.refNumber l = match Pl.refLoop (if l.getD 0 0 = 45 then l.drop 1 else l) 0 with
    | none => (0, false)
    | some n => Pl.refEnd l (decide (l.getD 0 0 = 45)) n := by
  unfold Pl.refNumber
  rw [if_neg (by omega)]
  cases Pl.refLoop (if l.getD 0 0 = 45 then l.drop 1 else l) 0 <;> rfl

theorem tdiv_neg10 {a : Int} (h : a ≤ 0) : a.tdiv 10 = -((-a) / 10) := by
  obtain ⟨b, rfl⟩ : ∃ b, a = -b := ⟨-a, by omega⟩
  rw [Int.neg_tdiv, Int.tdiv_eq_ediv_of_nonneg (by omega), Int.neg_neg]

set_option maxHeartbeats 2000000 in
set_option maxRecDepth 100000 in
theorem ref_Number (l : List UInt8) (w : World) (hs : l.length ≤ 140737488355328) : Calls Tryd.prog 30 #[.string ⟨l.toArray⟩] w (RNumPost l w) := by
  obtain ⟨s, hse⟩ : ∃ s : ByteArray, s = ⟨l.toArray⟩ := ⟨_, rfl⟩
  have hsz : s.size = l.length := by rw [hse, Lib.size_eq]
  have HG := Lib.hid (show ∀ k (h : k < s.size), s[k]'h = l.getD k 0 from fun k h => by subst hse; exact ba_get l k h)
  have HTL := Lib.hid (show s.toList = l by rw [hse, Lib.toList_data])
  rw [← hse]
  clear hse
  go_enter Tryd.func30, Tryd.ntmps30
  by_cases hl : l.length = 0 ∨ 20 < l.length
  · have HF := Lib.hid (show Pl.refNumber l = (0, false) by unfold Pl.refNumber; rw [if_pos hl])
    rcases hl with hl | hl
    · go_wp2_with fail
      go_ret2
      exact RNumPost.of HF.out (Below.refl _ _)
    · go_wp2_with fail
      all_goals go_ret2
      all_goals exact RNumPost.of HF.out (Below.refl _ _)
  · have hl0 : 0 < l.length := by omega
    have hl1 : l.length ≤ 20 := by omega
    have HM := Lib.hid (Pl.refNumber_mid hl0 hl1)
    have hs0 : 0 < s.size := by omega
    have hx := HG.out 0 hs0
    generalize l.getD 0 0 = x at *
    clear hl
    have hq1 : ((l.length : Int) == 0) = false := by rw [beq_eq_false_iff_ne]; omega
    have hq2 : decide (20 < (l.length : Int)) = false := decide_eq_false (by omega)
    by_cases h45 : x = 45
    · subst h45
      have HMM := Lib.hid (show Pl.refNumber l = match Pl.refLoop (l.drop 1) 0 with
        | none => (0, false)
        | some n => Pl.refEnd l true n from HM.out)
      clear HM
      go_wp2_with fail
      go_loop [4, 6] (fun n i => ∃ (k : Nat) (m : Int), 1 ≤ k ∧ k ≤ l.length ∧ i = .int .i64 k ∧ n = .int .i64 m ∧ Hid (Pl.refLoop (l.drop 1) 0 = Pl.refLoop (l.drop k) m) ∧ m ≤ 0 ∧ -9223372036854775808 ≤ m) (fun _ i => l.length - (intOf i).toNat)
      case atStart => exact ⟨1, 0, Nat.le_refl _, by omega, rfl, rfl, rfl, by omega, by omega⟩
      case round =>
        obtain ⟨k, m, hk0, hk, rfl, rfl, HL, hm0, hm1⟩ := hrel
        by_cases hlt : k < l.length
        · have hks : k < s.size := by omega
          have hxk := HG.out k hks
          have hd : l.drop k = l.getD k 0 :: l.drop (k + 1) := by
            rw [List.drop_eq_getElem_cons hlt]; simp [List.getD, hlt]
          have HD := Lib.hid hd
          clear hd
          generalize l.getD k 0 = y at *
          have hy0 : (0 : Int) ≤ y.toNat := by omega
          have hy1 : (y.toNat : Int) ≤ 255 := by have := y.toNat_lt; omega
          have hnone : ((y.toNat : Int) < 48 ∨ 57 < (y.toNat : Int) ∨ m * 10 < -9223372036854775808 + ((y.toNat : Int) - 48)) → Pl.refNumber l = (0, false) := by
            intro hc
            rw [HMM.out, HL.out, HD.out, Pl.refLoop]
            by_cases h1 : (y.toNat : Int) < 48 ∨ 57 < (y.toNat : Int)
            · rw [if_pos h1]
            · rw [if_neg h1, if_pos (by omega)]
          have htd : (-9223372036854775808 + ((y.toNat : Int) - 48)).tdiv 10 = -((-(-9223372036854775808 + ((y.toNat : Int) - 48))) / 10) := tdiv_neg10 (by omega)
          go_wp2_with fail
          all_goals (try (go_ret2; exact RNumPost.of (hnone (by omega)) (Below.refl _ _)))
          go_round
          case rel => exact ⟨k + 1, m * 10 - ((y.toNat : Int) - 48), by omega, by omega, by go_num, by first | rfl | go_num | (congr 1; unfold wrap64; omega), by show Pl.refLoop _ 0 = _; rw [HL.out, HD.out, Pl.refLoop, if_neg (by omega), if_neg (by omega)], by omega, by omega⟩
          case measure => simp [intOf]; omega
        · have hd : l.drop k = [] := by apply List.drop_eq_nil_of_le; omega
          have hfin : Pl.refNumber l = Pl.refEnd l true m := by rw [HMM.out, HL.out, hd, Pl.refLoop]
          have HF := Lib.hid hfin
          clear hd hfin
          go_wp2_with fail
          refine (ref_decimal m (by omega) (by omega) w).mono ?_
          rintro e w2 ⟨rfl, hb2⟩
          by_cases he : Pl.decimal m = l
          · have HF2 := Lib.hid (show Pl.refNumber l = (m, true) by rw [HF.out]; unfold Pl.refEnd; simp only [if_true]; rw [if_pos he])
            have hse : (Pl.decimal m == s.toList) = true := by rw [HTL.out, he]; simp
            clear he
            go_wp2_with fail
            go_ret2
            exact RNumPost.of HF2.out hb2
          · have HF2 := Lib.hid (show Pl.refNumber l = (0, false) by rw [HF.out]; unfold Pl.refEnd; simp only [if_true]; rw [if_neg he])
            have hse : (Pl.decimal m == s.toList) = false := by rw [HTL.out]; simpa using he
            clear he
            go_wp2_with fail
            go_ret2
            exact RNumPost.of HF2.out hb2
    · have HMM := Lib.hid (show Pl.refNumber l = match Pl.refLoop (l.drop 0) 0 with
        | none => (0, false)
        | some n => Pl.refEnd l false n from by rw [HM.out, if_neg h45, decide_eq_false h45]; rfl)
      clear HM
      have hx2 : ((x.toNat : Int) == 45) = false := by
        simp; intro e; exact h45 (by apply UInt8.toNat_inj.1; rw [show (45 : UInt8).toNat = 45 from rfl]; omega)
      go_wp2_with fail
      go_loop [4, 6] (fun n i => ∃ (k : Nat) (m : Int), 0 ≤ k ∧ k ≤ l.length ∧ i = .int .i64 k ∧ n = .int .i64 m ∧ Hid (Pl.refLoop (l.drop 0) 0 = Pl.refLoop (l.drop k) m) ∧ m ≤ 0 ∧ -9223372036854775808 ≤ m) (fun _ i => l.length - (intOf i).toNat)
      case atStart => exact ⟨0, 0, Nat.le_refl _, by omega, rfl, rfl, rfl, by omega, by omega⟩
      case round =>
        obtain ⟨k, m, hk0, hk, rfl, rfl, HL, hm0, hm1⟩ := hrel
        by_cases hlt : k < l.length
        · have hks : k < s.size := by omega
          have hxk := HG.out k hks
          have hd : l.drop k = l.getD k 0 :: l.drop (k + 1) := by
            rw [List.drop_eq_getElem_cons hlt]; simp [List.getD, hlt]
          have HD := Lib.hid hd
          clear hd
          generalize l.getD k 0 = y at *
          have hy0 : (0 : Int) ≤ y.toNat := by omega
          have hy1 : (y.toNat : Int) ≤ 255 := by have := y.toNat_lt; omega
          have hnone : ((y.toNat : Int) < 48 ∨ 57 < (y.toNat : Int) ∨ m * 10 < -9223372036854775808 + ((y.toNat : Int) - 48)) → Pl.refNumber l = (0, false) := by
            intro hc
            rw [HMM.out, HL.out, HD.out, Pl.refLoop]
            by_cases h1 : (y.toNat : Int) < 48 ∨ 57 < (y.toNat : Int)
            · rw [if_pos h1]
            · rw [if_neg h1, if_pos (by omega)]
          have htd : (-9223372036854775808 + ((y.toNat : Int) - 48)).tdiv 10 = -((-(-9223372036854775808 + ((y.toNat : Int) - 48))) / 10) := tdiv_neg10 (by omega)
          go_wp2_with fail
          all_goals (try (go_ret2; exact RNumPost.of (hnone (by omega)) (Below.refl _ _)))
          go_round
          case rel => exact ⟨k + 1, m * 10 - ((y.toNat : Int) - 48), by omega, by omega, by go_num, by first | rfl | go_num | (congr 1; unfold wrap64; omega), by show Pl.refLoop _ 0 = _; rw [HL.out, HD.out, Pl.refLoop, if_neg (by omega), if_neg (by omega)], by omega, by omega⟩
          case measure => simp [intOf]; omega
        · have hd : l.drop k = [] := by apply List.drop_eq_nil_of_le; omega
          have hfin : Pl.refNumber l = Pl.refEnd l false m := by rw [HMM.out, HL.out, hd, Pl.refLoop]
          have HF := Lib.hid hfin
          clear hd hfin
          by_cases hmin : m = -9223372036854775808
          · have hmb : (m == -9223372036854775808) = true := by simpa using hmin
            have HF2 := Lib.hid (show Pl.refNumber l = (0, false) by rw [HF.out]; unfold Pl.refEnd; simp only [Bool.false_eq_true, if_false]; rw [if_pos hmin])
            go_wp2_with fail
            go_ret2
            exact RNumPost.of HF2.out (Below.refl _ _)
          have hmb : (m == -9223372036854775808) = false := by simpa using hmin
          have hwr : wrap64 (-m) = -m := by unfold wrap64; omega
          go_wp2_with fail
          refine (ref_decimal (-m) (by omega) (by omega) w).mono ?_
          rintro e w2 ⟨rfl, hb2⟩
          by_cases he : Pl.decimal (-m) = l
          · have HF2 := Lib.hid (show Pl.refNumber l = ((-m), true) by rw [HF.out]; unfold Pl.refEnd; simp only [Bool.false_eq_true, if_false]; rw [if_neg hmin]; rw [if_pos he])
            have hse : (Pl.decimal (-m) == s.toList) = true := by rw [HTL.out, he]; simp
            clear he
            go_wp2_with fail
            go_ret2
            exact RNumPost.of HF2.out hb2
          · have HF2 := Lib.hid (show Pl.refNumber l = (0, false) by rw [HF.out]; unfold Pl.refEnd; simp only [Bool.false_eq_true, if_false]; rw [if_neg hmin]; rw [if_neg he])
            have hse : (Pl.decimal (-m) == s.toList) = false := by rw [HTL.out]; simpa using he
            clear he
            go_wp2_with fail
            go_ret2
            exact RNumPost.of HF2.out hb2

end Go.Proofs.YtbcepdacfmbekaaDoor
