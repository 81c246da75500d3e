/-
  The walks of the reader of bytes (package octets): numbers.
-/
import Derived.Test.YtbcepdacfmbekaaDoorKOrd
import Derived.Laws.Bits64b
namespace Go.Proofs.YtbcepdacfmbekaaDoor
open Go.RowKit
variable {B : Nat → Prop}

def beNat (l : List UInt8) : Nat := l.foldl (fun a c => a * 256 + c.toNat) 0
theorem beNat_snoc (l : List UInt8) (c : UInt8) : beNat (l ++ [c]) = beNat l * 256 + c.toNat := by simp [beNat]
theorem foldl_lt : ∀ (l : List UInt8) (a : Nat), l.foldl (fun a c => a * 256 + c.toNat) a < (a + 1) * 256 ^ l.length
  | [], a => by simp
  | c :: r, a => by
    rw [List.foldl_cons, List.length_cons, Nat.pow_succ]
    have h := foldl_lt r (a * 256 + c.toNat)
    have hc := c.toNat_lt
    refine Nat.lt_of_lt_of_le h ?_
    rw [Nat.mul_comm (256 ^ r.length) 256, ← Nat.mul_assoc]
    exact Nat.mul_le_mul_right _ (by omega)
theorem beNat_lt (l : List UInt8) : beNat l < 256 ^ l.length := by
  have := foldl_lt l 0
  simpa [beNat] using this
theorem or_byte (a : Nat) (x : UInt8) (h : a < 72057594037927936) : bits .or .u64 ((a : Int) * 256) (x.toNat : Int) = ((a * 256 + x.toNat : Nat) : Int) := by
  have hx := x.toNat_lt
  rw [show (a : Int) * 256 = ((a * 256 : Nat) : Int) by omega, bits_or_u64_nat _ _ (by omega) (by omega)]
  have := Nat.shiftLeft_add_eq_or_of_lt (b := x.toNat) (i := 8) hx a
  rw [Nat.shiftLeft_eq] at this
  rw [show a * 256 = a * 2 ^ 8 from rfl, this]
/-- A number of n bytes ahead. -/
def rdU (n : Nat) : Option (List UInt8) → Nat × Option (List UInt8)
  | some l => if n ≤ l.length then (beNat (l.take n), some (l.drop n)) else (0, none)
  | none => (0, none)

def UPost (B : Nat → Prop) (b : Nat) (v : Value) (s : Option (List UInt8)) (w : World) (e : Ending) (w' : World) : Prop := e = .returned v ∧ w.grownBy w' (some b) ∧ Ord B w' b s

set_option maxHeartbeats 1000000 in
set_option maxRecDepth 100000 in
theorem ord_Uint (b n : Nat) (s : Option (List UInt8)) (w : World) (h : Ord B w b s) (h0 : 0 < n) (h8 : n ≤ 8) : Calls Tryd.prog 165 #[.pointer (some ⟨b, 0, none⟩), .int .i64 n] w (UPost B b (.int .u64 (rdU n s).1) (rdU n s).2 w) := by
  have hd1 : ((n : Int) < 1) = False := eq_false (by omega)
  have hd2 : ((8 : Int) < n) = False := eq_false (by omega)
  have no : (rdU n s = (0, none)) → Calls Tryd.prog 203 #[.pointer (some ⟨b, 0, none⟩), .int .i64 n] w (TakeNo B b w) → Calls Tryd.prog 165 #[.pointer (some ⟨b, 0, none⟩), .int .i64 n] w (UPost B b (.int .u64 (rdU n s).1) (rdU n s).2 w) := by
    intro hr hc
    rw [hr]
    have HC := Lib.hid hc
    clear hr hc h
    go_enter Tryd.func165, Tryd.ntmps165
    go_wp2_with fail
    refine HC.out.mono ?_
    rintro e w1 ⟨rfl, hg, ho⟩
    have HG := Lib.hid hg
    have HO := Lib.hid ho
    clear hg ho
    go_wp2_with fail
    go_loop [4, 23] (fun a i => a = .int .u64 0 ∧ i = .int .i64 0) (fun _ _ => 0)
    case atStart => exact ⟨rfl, rfl⟩
    case round =>
      obtain ⟨rfl, rfl⟩ := hrel
      go_wp2_with fail
      go_ret
      exact ⟨rfl, HG.out, HO.out⟩
  cases s with
  | none => exact no rfl (take_fault b n w h)
  | some l =>
    by_cases hn : n ≤ l.length
    · have hr : rdU n (some l) = (beNat (l.take n), some (l.drop n)) := if_pos hn
      rw [hr]
      have HC := Lib.hid (take_yes b n l w h h0 hn)
      have hlt : (l.take n).length = n := by simp; omega
      have HLT := Lib.hid hlt
      clear hr h no hlt
      go_enter Tryd.func165, Tryd.ntmps165
      go_wp2_with fail
      refine HC.out.mono ?_
      rintro e w1 ⟨g, o, c, rfl, hgb, hgl, hcs, hg, ho⟩
      have HG := Lib.hid hg
      have HO := Lib.hid ho
      have HCS := Lib.hid hcs
      generalize l.take n = t at *
      clear hg ho hcs HC
      go_wp2_with fail
      go_loop [4, 23] (fun a i => ∃ k : Nat, k ≤ n ∧ i = .int .i64 k ∧ a = .int .u64 (beNat (t.take k))) (fun _ i => n - (intOf i).toNat)
      case atStart => exact ⟨0, Nat.zero_le _, rfl, by simp [beNat]⟩
      case round =>
        obtain ⟨k, hk, rfl, rfl⟩ := hrel
        by_cases hkn : k < n
        · have hck : w1.cell? ⟨g, o + k, none⟩ = some (.int .u8 (t.getD k 0).toNat) := HCS.out k _ (by have := HLT.out; rw [byteCells_get, List.getElem?_eq_getElem (by omega)]; simp [List.getD, show k < t.length by omega])
          have HT := Lib.hid (show t.take (k + 1) = t.take k ++ [t.getD k 0] by have := HLT.out; rw [List.take_succ_eq_append_getElem (by omega)]; simp [List.getD, show k < t.length by omega])
          have hal := beNat_lt (t.take k)
          have hx := (t.getD k 0).toNat_lt
          generalize t.getD k 0 = x at *
          have hal2 : beNat (t.take k) < 72057594037927936 := by
            refine Nat.lt_of_lt_of_le hal ?_
            have : (t.take k).length ≤ 7 := by have := List.length_take_le k t; omega
            exact Nat.le_trans (Nat.pow_le_pow_right (by decide) this) (by decide)
          clear hal
          have HAL := Lib.hid hal2
          generalize ha : beNat (t.take k) = a at *
          have HA := Lib.hid ha
          clear ha
          go_wp2_with fail
          go_round
          case rel => exact ⟨k + 1, by omega, by go_num, by rw [HT.out, beNat_snoc, HA.out, or_byte a x HAL.out]⟩
          case measure => simp [intOf]; omega
        · obtain rfl : n = k := by omega
          have HLT2 := Lib.hid (show t.take n = t from List.take_of_length_le (by have := HLT.out; omega))
          go_wp2_with fail
          go_ret
          exact ⟨by rw [HLT2.out]; rfl, HG.out, HO.out⟩
    · exact no (if_neg hn) (take_short b n l w h (by omega) h8)

end Go.Proofs.YtbcepdacfmbekaaDoor
