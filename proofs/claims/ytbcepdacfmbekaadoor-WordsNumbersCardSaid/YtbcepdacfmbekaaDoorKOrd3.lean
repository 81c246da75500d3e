/-
  The walks of the reader of bytes (package octets): Int, Num, Fault, Left, NewReader.
-/
import Derived.Test.YtbcepdacfmbekaaDoorKOrd2
import Derived.Laws.DeepNot64
namespace Go.Proofs.YtbcepdacfmbekaaDoor
open Go.RowKit
variable {B : Nat → Prop}

/-- A signed number out of one without a sign. -/
def unzig (u : Nat) : Int := if u % 2 = 0 then (u / 2 : Nat) else -((u / 2 : Nat) : Int) - 1

theorem rdU_lt (s : Option (List UInt8)) : (rdU 8 s).1 < 18446744073709551616 := by
  cases s with
  | none => simp [rdU]
  | some l =>
    simp only [rdU]
    by_cases h : 8 ≤ l.length
    · rw [if_pos h]
      have := beNat_lt (l.take 8)
      rw [show (l.take 8).length = 8 by simp; omega] at this
      exact this
    · rw [if_neg h]; simp
theorem i64_xor_all (a : Nat) (ha : a < 9223372036854775808) : bits .xor .i64 (a : Int) (-1) = -(a : Int) - 1 := by
  have h := i64_not a ha
  have e : bits .xor .i64 (a : Int) (-1) = bits .xor .i64 (-1) (a : Int) := by
    show IntKind.i64.wrap ((BitVec.ofInt 64 (a : Int) ^^^ BitVec.ofInt 64 (-1)).toNat : Int) = IntKind.i64.wrap ((BitVec.ofInt 64 (-1) ^^^ BitVec.ofInt 64 (a : Int)).toNat : Int)
    rw [BitVec.xor_comm]
  rw [e, h]; omega
theorem i64_xor_zero (a : Nat) (ha : a < 9223372036854775808) : bits .xor .i64 (a : Int) 0 = (a : Int) := by
  show IntKind.i64.wrap ((BitVec.ofInt 64 (a : Int) ^^^ BitVec.ofInt 64 0).toNat : Int) = _
  have h1 : BitVec.ofInt 64 0 = 0#64 := by decide
  rw [h1, BitVec.xor_zero, ofInt_u64 a (by omega)]
  simp [IntKind.wrap, IntKind.bits, IntKind.signed]
  omega
theorem unzig_bits (u : Nat) (h : u < 18446744073709551616) : bits .xor .i64 ((u : Int) / 2) (wrap64 (-wrap64 (bits .and .u64 (u : Int) 1))) = unzig u := by
  have h1 : bits .and .u64 (u : Int) 1 = ((u % 2 : Nat) : Int) := by
    have := bits_and_u64_nat u 1 h (by decide)
    rw [Nat.and_one_is_mod] at this
    exact this
  rw [h1, show (u : Int) / 2 = ((u / 2 : Nat) : Int) by omega]
  unfold unzig
  by_cases h2 : u % 2 = 0
  · rw [if_pos h2, h2, show wrap64 (-wrap64 ((0 : Nat) : Int)) = 0 by unfold wrap64; omega, i64_xor_zero _ (by omega)]
  · rw [if_neg h2, show u % 2 = 1 by omega, show wrap64 (-wrap64 ((1 : Nat) : Int)) = -1 by unfold wrap64; omega, i64_xor_all _ (by omega)]

set_option maxHeartbeats 1000000 in
set_option maxRecDepth 100000 in
theorem ord_Int (b : Nat) (s : Option (List UInt8)) (w : World) (h : Ord B w b s) : Calls Tryd.prog 167 #[.pointer (some ⟨b, 0, none⟩)] w (UPost B b (.int .i64 (unzig (rdU 8 s).1)) (rdU 8 s).2 w) := by
  have HC := Lib.hid (ord_Uint b 8 s w h (by decide) (by decide))
  have hlt := rdU_lt s
  generalize rdU 8 s = r at *
  obtain ⟨u, s'⟩ := r
  simp only at HC hlt
  simp only
  go_enter Tryd.func167, Tryd.ntmps167
  go_wp2_with fail
  refine HC.out.mono ?_
  rintro e w1 ⟨rfl, hg, ho⟩
  have HG := Lib.hid hg
  have HO := Lib.hid ho
  clear hg ho HC
  go_wp2_with fail
  go_ret
  exact ⟨by rw [← unzig_bits u hlt]; rfl, HG.out, HO.out⟩

set_option maxHeartbeats 1000000 in
theorem ord_Fault_ok (b : Nat) (l : List UInt8) (w : World) (h : Ord B w b (some l)) : Calls Tryd.prog 168 #[.pointer (some ⟨b, 0, none⟩)] w fun e w' => e = .returned (.int .i64 0) ∧ w = w' := by
  obtain ⟨v, hb, _⟩ := h
  have hc := hb.cell 1
  go_enter Tryd.func168, Tryd.ntmps168
  go_wp2
  go_ret
  exact ⟨rfl, rfl⟩
def FaultPost (w : World) (e : Ending) (w' : World) : Prop := ∃ f : Int, e = .returned (.int .i64 f) ∧ f ≠ 0 ∧ w = w'
set_option maxHeartbeats 1000000 in
theorem ord_Fault_bad (b : Nat) (w : World) (h : Ord B w b none) : Calls Tryd.prog 168 #[.pointer (some ⟨b, 0, none⟩)] w (FaultPost w) := by
  obtain ⟨p, n, c, f, hb, hf, _⟩ := h
  have HF := Lib.hid hf
  have hc := hb.cell 1
  clear hf
  go_enter Tryd.func168, Tryd.ntmps168
  go_wp2
  go_ret
  exact ⟨f, rfl, HF.out, rfl⟩
set_option maxHeartbeats 1000000 in
theorem ord_Left (b : Nat) (l : List UInt8) (w : World) (h : Ord B w b (some l)) : Calls Tryd.prog 169 #[.pointer (some ⟨b, 0, none⟩)] w fun e w' => e = .returned (.int .i64 l.length) ∧ w = w' := by
  obtain ⟨v, hb, hs, _⟩ := h
  have hc := hb.cell 0
  have hlen := byteCells_length l
  rcases hs with ⟨rfl, e0⟩ | ⟨g, o, c, rfl, _⟩
  · rw [e0] at hlen
    have HL := Lib.hid (show l.length = 0 by simpa using hlen.symm)
    clear hlen e0
    go_enter Tryd.func169, Tryd.ntmps169
    go_wp2
    go_ret
    exact ⟨by rw [HL.out]; rfl, rfl⟩
  · rw [hlen] at hc
    clear hlen
    go_enter Tryd.func169, Tryd.ntmps169
    go_wp2
    go_ret
    exact ⟨rfl, rfl⟩
set_option maxHeartbeats 1000000 in
theorem ord_bad (b : Nat) (l : List UInt8) (w : World) (h : Ord B w b (some l)) : Calls Tryd.prog 204 #[.pointer (some ⟨b, 0, none⟩)] w (UPost B b (.int .u64 0) none w) := by
  obtain ⟨v, hb, hs, hl⟩ := h
  have hc := hb.cell 1
  have hz := hb.frozen 1
  have HB := Lib.hid hb
  have hlen := byteCells_length l
  clear hb
  have hv : ∃ p n c, v = .slice p n c ∧ n ≤ 1000000 := by
    rcases hs with ⟨rfl, e0⟩ | ⟨g, o, c, rfl, _⟩
    · exact ⟨_, _, _, rfl, by omega⟩
    · exact ⟨_, _, _, rfl, by omega⟩
  obtain ⟨p, n, c, rfl, hn⟩ := hv
  clear hs hlen
  go_enter Tryd.func204, Tryd.ntmps204
  go_wp2
  go_ret
  exact ⟨rfl, grownBy_setCell _ _ _ _, p, n, c, 4, HB.out.set 1 (.int .i64 4), by omega, hn⟩

end Go.Proofs.YtbcepdacfmbekaaDoor
