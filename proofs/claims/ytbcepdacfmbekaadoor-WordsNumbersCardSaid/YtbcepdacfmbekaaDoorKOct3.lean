/-
  The walks of the writer of bytes (package octets): Num, Int, Bytes.
-/
import Derived.Test.YtbcepdacfmbekaaDoorKOct2
import Derived.Laws.Bits64
namespace Go.Proofs.YtbcepdacfmbekaaDoor
open Go.RowKit

/-- A number in groups of seven bits, the least first. -/
def numB (n : Nat) : List UInt8 := if n < 128 then [UInt8.ofNat n] else UInt8.ofNat (n % 128 + 128) :: numB (n / 128)
theorem numB_small {n : Nat} (h : n < 128) : numB n = [UInt8.ofNat n] := by rw [numB, if_pos h]
theorem numB_big {n : Nat} (h : ¬ n < 128) : numB n = UInt8.ofNat (n % 128 + 128) :: numB (n / 128) := by rw [numB, if_neg h]
theorem numB_length : ∀ (k n : Nat), n < 128 ^ (k + 1) → (numB n).length ≤ k + 1
  | 0, n, h => by rw [numB_small (by simpa using h)]; simp
  | k + 1, n, h => by
    by_cases hn : n < 128
    · rw [numB_small hn]; simp
    · rw [numB_big hn, List.length_cons]
      have := numB_length k (n / 128) (by rw [Nat.div_lt_iff_lt_mul (by decide)]; simpa [Nat.pow_succ] using h)
      omega
set_option maxRecDepth 100000 in
theorem or_128 : ∀ q : Fin 256, bits .or .u8 (q.val : Int) 128 = ((q.val % 128 + 128 : Nat) : Int) := by decide +kernel
theorem group_byte (n : Nat) : bits .or .u8 (IntKind.u8.wrap (n : Int)) 128 = ((UInt8.ofNat (n % 128 + 128)).toNat : Int) := by
  rw [show IntKind.u8.wrap (n : Int) = ((n % 256 : Nat) : Int) by rw [IntKind.wrap_u8]; omega, or_128 ⟨n % 256, by omega⟩]
  rw [UInt8.toNat_ofNat']
  simp only
  omega
theorem small_cells (m : Nat) (h : m < 128) : byteCells [UInt8.ofNat m] = [.int .u8 (m : Int)] := by
  have : (UInt8.ofNat m).toNat = m := by rw [UInt8.toNat_ofNat']; omega
  simp [byteCells, this]
theorem big_cells (m : Nat) : byteCells [UInt8.ofNat (m % 128 + 128)] = [.int .u8 (bits .or .u8 ((m : Int) % 256) 128)] := by
  rw [show (m : Int) % 256 = IntKind.u8.wrap (m : Int) by rw [IntKind.wrap_u8], group_byte]; rfl

set_option maxHeartbeats 1000000 in
set_option maxRecDepth 100000 in
theorem writer_Num (b n : Nat) (l : List UInt8) (w : World) (h : Wtr w b l) (hn : n < 18446744073709551616) (hl : l.length ≤ 100000) :
    Calls Tryd.prog 239 #[.pointer (some ⟨b, 0, none⟩), .int .u64 n] w (WPost b (l ++ numB n) w) := by
  go_enter Tryd.func239, Tryd.ntmps239
  go_wp2_with fail
  go_loopw [1] (fun nv wr => ∃ (m : Nat) (l' : List UInt8), m ≤ n ∧ l'.length + (numB m).length ≤ l.length + 10 ∧ nv = .int .u64 m ∧ Hid (l ++ numB n = l' ++ numB m) ∧ Hid (Wtr wr b l') ∧ Hid (WGrow b w wr)) (fun nv _ => (intOf nv).toNat)
  case atStart => exact ⟨n, l, Nat.le_refl _, by have := numB_length 9 n (by omega); omega, rfl, rfl, h, WGrow.refl _ _⟩
  case round =>
    obtain ⟨m, l', hm, hlen, rfl, HL, HW, HB⟩ := hrel
    obtain ⟨v, hblk, hown⟩ := HW.out
    have hlb := hblk.lt
    have hc := hblk.cell 0
    have HBLK := Lib.hid hblk
    have HOWN := Lib.hid hown
    clear hblk hown
    obtain ⟨p, c, rfl⟩ := ownsRow_slice HOWN.out
    by_cases h128 : m < 128
    · have hd : decide (128 ≤ (m : Int)) = false := decide_eq_false (by omega)
      have HN := Lib.hid (numB_small h128)
      have HBY := Lib.hid (small_cells m h128)
      have hl1 : l'.length ≤ 200000 := by omega
      clear hlen
      go_wp2_with (at_builtin; go_must (refine wpList_append_u8 rfl (.tmp 27) (.tmp 30) rfl (b + 1) l' _ rfl (HOWN.out.alloc _) [UInt8.ofNat m] ⟨wr.heap.size, 0, none⟩ 1 1 rfl rfl (by rw [HBY.out]; exact cell_one_new _ _ _) (by simp; omega) (by simp; omega) ?_); intro p2 n2 c2 w1 hn2 hown' hgrow' hat; have hb1 := wtr_keeps (HBLK.out.grown (r := none) (by simp) (World.grownBy_alloc wr (.cells #[.int .u8 (m : Int)] 5) none)) (HOWN.out.alloc _) hgrow'; have hc1 := hb1.cell 0; have hz1 := hb1.frozen 0; have HO1 := Lib.hid hown'; have HG := Lib.hid hgrow'; have HN2 := Lib.hid hn2; have HAT := Lib.hid hat; clear hown' hgrow' hb1 hn2 hc hat)
      go_ret
      have HO2 := HO1.out
      rw [HN2.out] at HO2 ⊢
      obtain ⟨h1, h2⟩ := wtr_store (HBLK.out.grown (r := none) (by simp) (World.grownBy_alloc wr (.cells #[.int .u8 (m : Int)] 5) none)) (HOWN.out.alloc _) HO2 HG.out (row_at HAT.out)
      refine ⟨rfl, ?_, HB.out.trans ((WGrow.of_grown hlb (World.grownBy_alloc wr _ _)).trans h2)⟩
      rw [HL.out, HN.out]; exact h1
    · have hd : decide (128 ≤ (m : Int)) = true := decide_eq_true (by omega)
      have HN := Lib.hid (numB_big h128)
      have HBY := Lib.hid (big_cells m)
      have hl1 : l'.length ≤ 200000 := by omega
      have hl2 : (numB (m / 128)).length + 1 = (numB m).length := by rw [numB_big h128]; simp
      go_wp2_with (at_builtin; go_must (refine wpList_append_u8 rfl (.tmp 15) (.tmp 19) rfl (b + 1) l' _ rfl (HOWN.out.alloc _) [UInt8.ofNat (m % 128 + 128)] ⟨wr.heap.size, 0, none⟩ 1 1 rfl rfl (by rw [HBY.out]; exact cell_one_new _ _ _) (by simp; omega) (by simp; omega) ?_); intro p2 n2 c2 w1 hn2 hown' hgrow' hat; have hb1 := wtr_keeps (HBLK.out.grown (r := none) (by simp) (World.grownBy_alloc wr (.cells #[.int .u8 (bits .or .u8 ((m : Int) % 256) 128)] 5) none)) (HOWN.out.alloc _) hgrow'; have hc1 := hb1.cell 0; have hz1 := hb1.frozen 0; have HO1 := Lib.hid hown'; have HG := Lib.hid hgrow'; have HN2 := Lib.hid hn2; have HAT := Lib.hid hat; clear hown' hgrow' hb1 hn2 hc hat)
      have HO2 := HO1.out
      rw [HN2.out] at HO2
      have HST := Lib.hid (wtr_store (HBLK.out.grown (r := none) (by simp) (World.grownBy_alloc wr (.cells #[.int .u8 (bits .or .u8 ((m : Int) % 256) 128)] 5) none)) (HOWN.out.alloc _) HO2 HG.out (row_at HAT.out))
      clear HO2
      rw [← HN2.out] at HST
      go_roundw
      case rel => exact ⟨m / 128, l' ++ [UInt8.ofNat (m % 128 + 128)], by omega, by rw [List.length_append]; simp; omega, by first | go_num | (congr 1; omega), by show _ = _; rw [HL.out, HN.out, List.append_assoc]; rfl, HST.out.1, HB.out.trans ((WGrow.of_grown hlb (World.grownBy_alloc wr _ _)).trans HST.out.2)⟩
      case measure => simp [intOf]; omega

/-- A signed number as one without a sign. -/
def zig (n : Int) : Nat := if n < 0 then (-2 * n - 1).toNat else (2 * n).toNat
theorem zig_lt {n : Int} (h0 : -9223372036854775808 ≤ n) (h1 : n ≤ 9223372036854775807) : zig n < 18446744073709551616 := by
  unfold zig; split <;> omega

theorem xor_all (a : Nat) (h : a < 18446744073709551616) : a ^^^ 18446744073709551615 = 18446744073709551615 - a := by
  have h1 := congrArg BitVec.toNat (BitVec.xor_allOnes (x := BitVec.ofNat 64 a))
  simp only [BitVec.toNat_xor, BitVec.toNat_ofNat, BitVec.toNat_allOnes, BitVec.toNat_not] at h1
  rw [Nat.mod_eq_of_lt (by omega)] at h1
  exact h1
theorem zig_bits (n : Int) (h0 : -9223372036854775808 ≤ n) (h1 : n ≤ 9223372036854775807) : bits .xor .u64 (IntKind.u64.wrap (wrap64 (n * 2))) (IntKind.u64.wrap (n / 9223372036854775808)) = (zig n : Int) := by
  by_cases hn : n < 0
  · rw [show IntKind.u64.wrap (wrap64 (n * 2)) = ((18446744073709551616 + n * 2).toNat : Int) by rw [IntKind.wrap_u64]; unfold wrap64; omega,
      show IntKind.u64.wrap (n / 9223372036854775808) = ((18446744073709551615 : Nat) : Int) by rw [IntKind.wrap_u64]; omega,
      bits_xor_u64_nat _ _ (by omega) (by omega), xor_all _ (by omega)]
    unfold zig
    rw [if_pos hn]; omega
  · rw [show IntKind.u64.wrap (wrap64 (n * 2)) = ((n * 2).toNat : Int) by rw [IntKind.wrap_u64]; unfold wrap64; omega,
      show IntKind.u64.wrap (n / 9223372036854775808) = ((0 : Nat) : Int) by rw [IntKind.wrap_u64]; omega,
      bits_xor_u64_nat _ _ (by omega) (by omega), Nat.xor_zero]
    unfold zig
    rw [if_neg hn]; omega

set_option maxHeartbeats 1000000 in
set_option maxRecDepth 100000 in
theorem writer_Int (b : Nat) (n : Int) (l : List UInt8) (w : World) (h : Wtr w b l) (h0 : -9223372036854775808 ≤ n) (h1 : n ≤ 9223372036854775807) (hl : l.length ≤ 100000) :
    Calls Tryd.prog 240 #[.pointer (some ⟨b, 0, none⟩), .int .i64 n] w (WPost b (l ++ be8 (zig n)) w) := by
  go_enter Tryd.func240, Tryd.ntmps240
  go_wp2_with fail
  rw [zig_bits n h0 h1]
  refine (writer_Uint b (zig n) l w h (zig_lt h0 h1) hl).mono ?_
  rintro e w' ⟨rfl, h2, h3⟩
  go_wp2_with fail
  go_ret
  exact ⟨rfl, h2, h3⟩

/-- Bytes copied into a row of one's own. -/
theorem bytes_Clone (a : Addr) (n c : Nat) (l : List UInt8) (w : World) (hn : l.length = n) (hl : n ≤ 1000000) (hc : ∀ j u, (byteCells l)[j]? = some u → w.cell? (a.add j) = some u) :
    Calls Tryd.prog 202 #[.slice (some a) n c] w fun e w' => ∃ v', e = .returned v' ∧ w'.ownsRow w.heap.size 5 1 v' n (byteCells l) ∧ v' ≠ .slice none 0 0 ∧ Below w.heap.size w w' := by
  have h := Tryd.bytes_Clone_at a n c (l.map fun x => (x.toNat : Int)) w (by simpa using hn) (by omega) (fun i hi => by
    have hi' : i < l.length := by omega
    refine hc i _ ?_
    simp [byteCells, List.getD, hi'])
  rw [List.map_map] at h
  exact h

/-- What the writer has written, in a row of its own. -/
def BytesPost (l : List UInt8) (w : World) (e : Ending) (w' : World) : Prop := ∃ v, e = .returned v ∧ w'.ownsRow w.heap.size 5 1 v l.length (byteCells l) ∧ Below w.heap.size w w'

set_option maxHeartbeats 1000000 in
set_option maxRecDepth 100000 in
theorem writer_Bytes (b : Nat) (l : List UInt8) (w : World) (h : Wtr w b l) (hl : l ≠ []) (hll : l.length ≤ 100000) :
    Calls Tryd.prog 241 #[.pointer (some ⟨b, 0, none⟩)] w (BytesPost l w) := by
  obtain ⟨v, hblk, hown⟩ := h
  have hc := hblk.cell 0
  have hcells := fun (g : Nat) (hg : v.ownBlock = some g) => hown.cells (g := g) hg
  rcases hown.2 with ⟨rfl, h0⟩ | ⟨g, c, cur, rfl, _⟩
  · exact absurd (List.length_eq_zero_iff.1 h0) hl
  have HC := Lib.hid (bytes_Clone ⟨g, 0, none⟩ l.length c l w rfl (by omega) (hcells g rfl))
  clear hcells hblk hown
  go_enter Tryd.func241, Tryd.ntmps241
  go_wp2_with fail
  refine HC.out.mono ?_
  rintro e w1 ⟨v', rfl, h1, _, h2⟩
  have H1 := Lib.hid h1
  have H2 := Lib.hid h2
  clear h1 h2
  go_wp2_with fail
  go_ret
  exact ⟨v', rfl, H1.out, H2.out⟩

end Go.Proofs.YtbcepdacfmbekaaDoor
