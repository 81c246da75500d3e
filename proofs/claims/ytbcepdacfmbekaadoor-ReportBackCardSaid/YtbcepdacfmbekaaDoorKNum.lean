/-
  The walk of words.Number: the number of any text, or that it is none.
-/
import Derived.Test.YtbcepdacfmbekaaDoorKb
namespace Go.Proofs.YtbcepdacfmbekaaDoor
open Go.RowKit

def NumPost (s : ByteArray) (w : World) (e : Ending) (w' : World) : Prop := e = .returned (.tuple #[.int .i64 (Pl.number s.data.toList).1, .bool (Pl.number s.data.toList).2]) ∧ Below w.heap.size w w'
theorem NumPost.of {s : ByteArray} {w w' : World} {t : List UInt8} {minus : Bool} (hN : Hid (Pl.number s.data.toList = Pl.numOf t minus)) {a : Int} {b : Bool} (hv : Pl.numOf t minus = (a, b)) (hb : Below w.heap.size w w') : NumPost s w (.returned (.tuple #[.int .i64 a, .bool b])) w' :=
  ⟨by rw [hN.out, hv], hb⟩

set_option maxHeartbeats 1000000 in
set_option maxRecDepth 100000 in
theorem words_Number (s : ByteArray) (w : World) (hs : s.size ≤ 140737488355328) : Calls Tryd.prog 29 #[.string s] w (NumPost s w) := by
  have hl : (Lib.trimPrefix s.data.toList [45]).length ≤ s.size := by rw [Lib.size_eq]; exact Lib.trimPrefix_le _ _
  have HN := Lib.hid (show Pl.number s.data.toList = Pl.numOf (Lib.trimPrefix s.data.toList [45]) (Lib.hasPrefix s.data.toList [45]) from rfl)
  have HCP := Lib.hid (Tryd.strings_CutPrefix s ⟨#[45]⟩ w)
  generalize (Lib.trimPrefix s.data.toList [45]) = t at *
  generalize Lib.hasPrefix s.data.toList [45] = minus at *
  obtain ⟨W1, c, hrun, hb1, hz1, hc1⟩ := convBytes w t
  go_enter Tryd.func29, Tryd.ntmps29
  go_wp2_with fail
  refine HCP.out.mono ?_
  rintro e w' ⟨rfl, rfl⟩
  clear HCP
  go_upto_region 2 with fail
  go_cut [4, 5, 32] (fun s4 s5 s32 wc => s4 = .string ⟨t.toArray⟩ ∧ s5 = .bool minus ∧ s32 = .bool (Pl.badHead t minus) ∧ wc = w')
  case first =>
    go_wp2
    all_goals go_meet
    all_goals refine ⟨?_, ?_, ?_, rfl⟩
    all_goals try unfold Pl.badHead
    all_goals first | (simp_all [ba_get]; done) | (have hq : decide (1 < (t.length : Int)) = false := (by simp; omega); simp [*])
  case rest =>
    obtain ⟨rfl, rfl, rfl, rfl⟩ := hcut
    cases hbad : Pl.badHead t minus with
    | true =>
      go_wp2
      go_ret2
      exact NumPost.of HN (by simp [Pl.numOf, hbad]) (Below.refl _ _)
    | false =>
      have HR := Lib.hid (show Pl.numOf t minus = Pl.numTail t minus by simp [Pl.numOf, hbad])
      clear hbad
      go_wp2
      go_loop [2, 36] (fun n i => ∃ (k : Nat) (m : Int), k ≤ t.length ∧ i = .int .i64 k ∧ n = .int .i64 m ∧ Hid (Pl.numLoop t 0 = Pl.numLoop (t.drop k) m) ∧ m ≤ 0 ∧ -9223372036854775808 ≤ m) (fun _ i => t.length - (intOf i).toNat)
      case atStart => exact ⟨0, 0, Nat.zero_le _, rfl, rfl, rfl, by omega, by omega⟩
      case round =>
        obtain ⟨k, m, hk, rfl, rfl, HL, hm0, hm1⟩ := hrel
        by_cases hlt : k < t.length
        · have hck := hc1 k hlt
          have hx0 : (0 : Int) ≤ (t.getD k 0).toNat := by omega
          have hx1 : ((t.getD k 0).toNat : Int) ≤ 255 := by have := (t.getD k 0).toNat_lt; omega
          have hd : t.drop k = t.getD k 0 :: t.drop (k + 1) := by
            rw [List.drop_eq_getElem_cons hlt]; simp [List.getD, hlt]
          have HD := Lib.hid hd
          generalize t.getD k 0 = x at *
          clear hd hc1
          have hnone : (((x.toNat : Int) - 48 < 0 ∨ 9 < (x.toNat : Int) - 48 ∨ m < -922337203685477580 ∨ m * 10 < -9223372036854775808 + ((x.toNat : Int) - 48))) → Pl.numOf t minus = (0, false) := by
            intro hc
            rw [HR.out]; unfold Pl.numTail; rw [HL.out, HD.out, Pl.numLoop, if_pos hc]
          go_wp2
          all_goals (try (go_ret2; exact NumPost.of HN (hnone (by omega)) hb1))
          go_round
          case rel => exact ⟨k + 1, m * 10 - ((x.toNat : Int) - 48), by omega, by go_num, rfl, by show Pl.numLoop t 0 = _; rw [HL.out, HD.out, Pl.numLoop, if_neg (by omega)], by omega, by omega⟩
          case measure => simp [intOf]; omega
        · have hd : t.drop k = [] := by apply List.drop_eq_nil_of_le; omega
          have hfin : Pl.numOf t minus = if minus then (m, true) else if m = -9223372036854775808 then (0, false) else (-m, true) := by
            rw [HR.out]; unfold Pl.numTail; rw [HL.out, hd, Pl.numLoop]
          have HF := Lib.hid hfin
          clear hd hfin
          go_wp2
          all_goals go_ret2
          all_goals refine NumPost.of HN (by rw [HF.out]; first | (simp_all; done) | (simp_all; unfold wrap64; omega)) hb1
end Go.Proofs.YtbcepdacfmbekaaDoor
