/-
  The walk of words.decimal: a number's text.
-/
import Derived.Test.YtbcepdacfmbekaaDoorKOct
import Derived.Test.YtbcepdacfmbekaaDoorPd
import Derived.Test.YtbcepdacfmbekaaDoorPn
import Derived.Laws.IdiomStrings
namespace Go.Proofs.YtbcepdacfmbekaaDoor
open Go.RowKit

def zeros20 : Array Value := #[.int .u8 0, .int .u8 0, .int .u8 0, .int .u8 0, .int .u8 0, .int .u8 0, .int .u8 0, .int .u8 0, .int .u8 0, .int .u8 0, .int .u8 0, .int .u8 0, .int .u8 0, .int .u8 0, .int .u8 0, .int .u8 0, .int .u8 0, .int .u8 0, .int .u8 0, .int .u8 0]
/-- The text stands at the end of the block. -/
structure DecAtW (w : World) (suf : List UInt8) (W : World) : Prop where
  below : Below w.heap.size w W
  cells : ∃ cs, Blk W w.heap.size cs 235 ∧ cs.size = 20 ∧ cs.toList.drop (20 - suf.length) = byteCells suf

theorem DecAtW.push {w W : World} {suf : List UInt8} {c : UInt8} {j : Nat} (h : DecAtW w suf W) (hj : j + suf.length = 19) : DecAtW w (c :: suf) (W.setCell ⟨w.heap.size, j, none⟩ (.int .u8 (c.toNat : Int))) := by
  obtain ⟨hb, cs, h1, h2, h3⟩ := h
  refine ⟨hb.setCell (Nat.le_refl _) _, _, h1.set j _, by simpa using h2, ?_⟩
  have e : 20 - (c :: suf).length = j := by simp; omega
  have e2 : 20 - suf.length = j + 1 := by omega
  rw [e]
  rw [e2] at h3
  rw [List.drop_eq_getElem_cons (by simp [h2]; omega)]
  simp only [Array.toList_setIfInBounds]
  rw [List.getElem_set_self, List.drop_set_of_lt (by omega), h3]
  simp [byteCells]
theorem DecAtW.cell {w W : World} {suf : List UInt8} (h : DecAtW w suf W) {j : Nat} (hj : j < 20) : (∃ x, W.cell? ⟨w.heap.size, j, none⟩ = some x) ∧ W.frozen? ⟨w.heap.size, j, none⟩ = false := by
  obtain ⟨_, cs, h1, h2, _⟩ := h
  exact ⟨⟨cs[j], by rw [h1.cell j, Array.getElem?_eq_getElem (by omega)]⟩, h1.frozen j⟩
theorem DecAtW.conv {w W : World} {suf : List UInt8} {j : Nat} (h : DecAtW w suf W) (hj : j + suf.length = 20) : (convert 40 9 (.slice (some ⟨w.heap.size, j, none⟩) suf.length suf.length)).run Tryd.prog W = .ok (.string ⟨suf.toArray⟩) W := by
  obtain ⟨_, cs, h1, h2, h3⟩ := h
  refine run_convert_bytes_back W 40 9 5 _ _ suf Tryd.underlying40 Tryd.underlying5 Tryd.underlying9 fun k hk => ?_
  rw [show (⟨w.heap.size, j, none⟩ : Addr).add k = ⟨w.heap.size, j + k, none⟩ by unfold Addr.add; split <;> simp_all, h1.cell]
  have e : (cs.toList.drop (20 - suf.length))[k]? = (byteCells suf)[k]? := by rw [h3]
  rw [List.getElem?_drop, show 20 - suf.length = j by omega] at e
  rw [← Array.getElem?_toList, e]
  simp [byteCells, hk]
theorem arr20 : Tryd.prog.arrayLen 235 = 20 := by kernel_rfl
theorem slice20 (b i : Nat) (hi : i < 20) (W : World) : (Instr.sliceAt 235 (.pointer (some ⟨b, 0, none⟩)) (some (.int .i64 (i : Int))) none none).run Tryd.prog W = .ok (.slice (some ⟨b, i, none⟩) (20 - i) (20 - i)) W := by
  rw [run_sliceAt_array_l W 235 _ (by kernel_rfl) .i64 i (by omega) (by rw [arr20]; omega), arr20]
  have hs : (sizeOf (Tryd.prog.elem 235)).run Tryd.prog W = .ok 1 W := by kernel_rfl
  rw [hs]
  simp only [Result.andThen, slicedAt, Int.toNat_natCast, Nat.mul_one]
  rw [if_neg (by omega)]
  simp [Addr.add]; try omega
theorem digit_val (m : Nat) : ((UInt8.ofNat (48 + m % 10)).toNat : Int) = 48 + (m : Int) % 10 := by
  have : (48 + m % 10) % 256 = 48 + m % 10 := by omega
  simp [this]

def WDecPost (n : Int) (w : World) (e : Ending) (w' : World) : Prop := e = .returned (.string ⟨(Pl.decimal n).toArray⟩) ∧ Below w.heap.size w w'
set_option maxHeartbeats 1000000 in
set_option maxRecDepth 100000 in
theorem decimal_neg (n : Int) (m0 : Nat) (w : World) (h1 : m0 ≤ 9223372036854775808) (hn : n < 0) (hm : n = -(m0 : Int)) : Calls Tryd.prog 162 #[.int .i64 n] w (WDecPost n w) := by
  have hl : (Pl.digits m0).length ≤ 19 := Pl.digits_length 18 m0 (by omega)
  have hw : IntKind.u64.wrap (-IntKind.u64.wrap n) = (m0 : Int) := by
    rw [IntKind.wrap_u64, IntKind.wrap_u64]; omega
  have HD := Lib.hid (show Pl.decimal n = 45 :: Pl.digits m0 by unfold Pl.decimal; rw [if_pos hn, show n.natAbs = m0 by omega])
  clear hm
  have HA : Hid (DecAtW w [] (w.alloc (.cells zeros20 235))) := ⟨(Below.refl _ _).alloc (Nat.le_refl _) _, _, Blk.alloc _ _, rfl, rfl⟩
  unfold zeros20 at HA
  go_enter Tryd.func162, Tryd.ntmps162
  go_wp2_with fail
  generalize w.alloc (.cells _ 235) = w0 at *
  go_loopw [4, 5] (fun a m wr => ∃ (j mk : Nat) (suf : List UInt8), a = .int .i64 ((j : Int) + 1) ∧ m = .int .u64 mk ∧ mk ≤ m0 ∧ j + suf.length = 19 ∧ Hid (Pl.digits m0 = Pl.digits mk ++ suf) ∧ Hid (DecAtW w suf wr)) (fun _ m _ => (intOf m).toNat)
  case atStart => exact ⟨19, m0, [], rfl, rfl, Nat.le_refl _, rfl, (List.append_nil _).symm, HA⟩
  case round =>
    obtain ⟨j, mk, suf, rfl, rfl, hmm, hj, HG, HW⟩ := hrel
    have hlen : (Pl.digits mk).length + suf.length ≤ 19 := by have := congrArg List.length HG.out; simp at this; omega
    have hne : 0 < (Pl.digits mk).length := List.length_pos_iff.2 (Pl.digits_ne mk)
    have hmk : (mk : Int) ≤ 9223372036854775808 := by omega
    obtain ⟨⟨x, hx⟩, hz⟩ := HW.out.cell (j := j) (by omega)
    have hj1 : (1 : Int) ≤ j := by omega
    have hj19 : (j : Int) ≤ 19 := by omega
    have HW2 := Lib.hid (HW.out.push (c := UInt8.ofNat (48 + mk % 10)) hj)
    rw [digit_val] at HW2
    obtain ⟨i, rfl⟩ : ∃ i, j = i + 1 := ⟨j - 1, by omega⟩
    obtain ⟨⟨x2, hx2⟩, hz2⟩ := HW.out.cell (j := i) (by omega)
    by_cases h10 : mk < 10
    · have HG2 := Lib.hid (show Pl.digits m0 = UInt8.ofNat (48 + mk % 10) :: suf by rw [HG.out, Pl.digits_small h10, show mk % 10 = mk by omega]; rfl)
      have hq : ((mk : Int) / 10 == 0) = true := by rw [beq_iff_eq]; omega
      clear hlen hne
      have HW3 : Hid (DecAtW w (45 :: UInt8.ofNat (48 + mk % 10) :: suf) ((wr.setCell ⟨w.heap.size, i + 1, none⟩ (.int .u8 (48 + (mk : Int) % 10))).setCell ⟨w.heap.size, i, none⟩ (.int .u8 45))) := HW2.out.push (c := 45) (j := i) (by simp; omega)
      have hcv := HW3.out.conv (j := i) (by simp; omega)
      have hsl := slice20 w.heap.size i (by omega)
      rw [show (45 :: UInt8.ofNat (48 + mk % 10) :: suf).length = 20 - i by simp; omega] at hcv
      have HF := Lib.hid (show Pl.decimal n = 45 :: UInt8.ofNat (48 + mk % 10) :: suf by rw [HD.out, HG2.out])
      clear HG2 HD HG HW2
      generalize 45 :: UInt8.ofNat (48 + mk % 10) :: suf = out at *
      go_wp2_with fail
      go_ret
      exact ⟨congrArg (fun l : List UInt8 => Ending.returned (.string ⟨l.toArray⟩)) HF.out.symm, HW3.out.below⟩
    · have HG2 := Lib.hid (show Pl.digits m0 = Pl.digits (mk / 10) ++ (UInt8.ofNat (48 + mk % 10) :: suf) by rw [HG.out, Pl.digits_big h10]; simp)
      have hq : ((mk : Int) / 10 == 0) = false := by rw [beq_eq_false_iff_ne]; omega
      clear hlen hne
      go_wp2_with fail
      go_roundw
      case rel => exact ⟨i, mk / 10, UInt8.ofNat (48 + mk % 10) :: suf, by go_num, by go_num, by omega, by simp; omega, HG2.out, HW2.out⟩
      case measure => simp [intOf]; omega

set_option maxHeartbeats 1000000 in
set_option maxRecDepth 100000 in
theorem decimal_pos (m0 : Nat) (w : World) (h1 : m0 ≤ 9223372036854775808)  : Calls Tryd.prog 162 #[.int .i64 (m0 : Int)] w (WDecPost (m0 : Int) w) := by
  have hl : (Pl.digits m0).length ≤ 19 := Pl.digits_length 18 m0 (by omega)
  have hw : ¬ ((m0 : Int) < 0) := by omega
  have HD := Lib.hid (show Pl.decimal (m0 : Int) = Pl.digits m0 by unfold Pl.decimal; rw [if_neg hw]; simp)
  have HA : Hid (DecAtW w [] (w.alloc (.cells zeros20 235))) := ⟨(Below.refl _ _).alloc (Nat.le_refl _) _, _, Blk.alloc _ _, rfl, rfl⟩
  unfold zeros20 at HA
  go_enter Tryd.func162, Tryd.ntmps162
  go_wp2_with fail
  generalize w.alloc (.cells _ 235) = w0 at *
  go_loopw [4, 5] (fun a m wr => ∃ (j mk : Nat) (suf : List UInt8), a = .int .i64 ((j : Int) + 1) ∧ m = .int .u64 mk ∧ mk ≤ m0 ∧ j + suf.length = 19 ∧ Hid (Pl.digits m0 = Pl.digits mk ++ suf) ∧ Hid (DecAtW w suf wr)) (fun _ m _ => (intOf m).toNat)
  case atStart => exact ⟨19, m0, [], rfl, rfl, Nat.le_refl _, rfl, (List.append_nil _).symm, HA⟩
  case round =>
    obtain ⟨j, mk, suf, rfl, rfl, hmm, hj, HG, HW⟩ := hrel
    have hlen : (Pl.digits mk).length + suf.length ≤ 19 := by have := congrArg List.length HG.out; simp at this; omega
    have hne : 0 < (Pl.digits mk).length := List.length_pos_iff.2 (Pl.digits_ne mk)
    have hmk : (mk : Int) ≤ 9223372036854775808 := by omega
    obtain ⟨⟨x, hx⟩, hz⟩ := HW.out.cell (j := j) (by omega)
    have hj1 : (1 : Int) ≤ j := by omega
    have hj19 : (j : Int) ≤ 19 := by omega
    have HW2 := Lib.hid (HW.out.push (c := UInt8.ofNat (48 + mk % 10)) hj)
    rw [digit_val] at HW2
    obtain ⟨i, rfl⟩ : ∃ i, j = i + 1 := ⟨j - 1, by omega⟩
    obtain ⟨⟨x2, hx2⟩, hz2⟩ := HW.out.cell (j := i) (by omega)
    by_cases h10 : mk < 10
    · have HG2 := Lib.hid (show Pl.digits m0 = UInt8.ofNat (48 + mk % 10) :: suf by rw [HG.out, Pl.digits_small h10, show mk % 10 = mk by omega]; rfl)
      have hq : ((mk : Int) / 10 == 0) = true := by rw [beq_iff_eq]; omega
      clear hlen hne
      have HW3 := HW2
      have hcv := HW3.out.conv (j := i + 1) (by simp; omega)
      have hsl := slice20 w.heap.size (i + 1) (by omega)
      rw [show ((i + 1 : Nat) : Int) = (i : Int) + 1 by omega] at hsl
      rw [show (UInt8.ofNat (48 + mk % 10) :: suf).length = 19 - i by simp; omega] at hcv
      have HF := Lib.hid (show Pl.decimal (m0 : Int) = UInt8.ofNat (48 + mk % 10) :: suf by rw [HD.out, HG2.out])
      clear HG2 HD HG HW2
      generalize UInt8.ofNat (48 + mk % 10) :: suf = out at *
      go_wp2_with fail
      go_ret
      exact ⟨congrArg (fun l : List UInt8 => Ending.returned (.string ⟨l.toArray⟩)) HF.out.symm, HW3.out.below⟩
    · have HG2 := Lib.hid (show Pl.digits m0 = Pl.digits (mk / 10) ++ (UInt8.ofNat (48 + mk % 10) :: suf) by rw [HG.out, Pl.digits_big h10]; simp)
      have hq : ((mk : Int) / 10 == 0) = false := by rw [beq_eq_false_iff_ne]; omega
      clear hlen hne
      go_wp2_with fail
      go_roundw
      case rel => exact ⟨i, mk / 10, UInt8.ofNat (48 + mk % 10) :: suf, by go_num, by go_num, by omega, by simp; omega, HG2.out, HW2.out⟩
      case measure => simp [intOf]; omega

theorem words_decimal (n : Int) (w : World) (h0 : -9223372036854775808 ≤ n) (h1 : n ≤ 9223372036854775807) : Calls Tryd.prog 162 #[.int .i64 n] w (WDecPost n w) := by
  by_cases hn : n < 0
  · exact decimal_neg n n.natAbs w (by omega) hn (by omega)
  · obtain ⟨m, rfl⟩ : ∃ m : Nat, n = m := ⟨n.toNat, by omega⟩
    exact decimal_pos m w (by omega)

end Go.Proofs.YtbcepdacfmbekaaDoor
