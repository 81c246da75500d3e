/-
  The walk of the law SheetLines.
-/
import Derived.Test.YtbcepdacfmbekaaDoorKAlive
import Derived.Test.YtbcepdacfmbekaaDoorKRRow
import Derived.Test.YtbcepdacfmbekaaDoorKRSym
namespace Go.Proofs.YtbcepdacfmbekaaDoor
open Go.RowKit

theorem rowRes_form (l : List UInt8) : ∃ r0 r1 f : Int, rowRes l = .tuple #[.agg #[.int .i64 r0, .int .i64 r1], .int .i64 f] := by
  unfold rowRes
  split
  · exact ⟨_, _, _, rfl⟩
  · exact ⟨_, _, _, rfl⟩
theorem symRes_form (l : List UInt8) : ∃ (vs : List Int) (f : Int), vs.length = 16 ∧ symRes l = .tuple #[.agg (symArr vs), .int .i64 f] := by
  unfold symRes
  split
  · rename_i vs h
    have h16 := Pl.readNums_length h
    exact ⟨vs, 0, h16, by rw [symCells_eq h16]⟩
  · exact ⟨List.replicate 16 0, 4, by simp, by simp [symArr, zero16, List.replicate]⟩

def LawPost (w : World) (e : Ending) (w' : World) : Prop := e = .returned (.bool true) ∧ Below w.heap.size w w'

set_option maxHeartbeats 8000000 in
set_option maxRecDepth 100000 in
theorem law_SheetLines (s : ByteArray) (w : World) (hE : Env w) : Calls Tryd.prog 3 #[.string s] w (LawPost w) := by
  go_enter Tryd.func3, Tryd.ntmps3
  have HE := Lib.hid hE
  clear hE
  by_cases hl : 600 < s.size
  · have hd : decide (600 < (s.size : Int)) = true := decide_eq_true (by omega)
    have HAL := Lib.hid (law_alive w HE.out)
    go_wp2_with fail
    refine HAL.out.mono ?_
    rintro e w' ⟨rfl, hb⟩
    go_wp2_with fail
    go_ret
    exact ⟨rfl, hb⟩
  · have hd : decide (600 < (s.size : Int)) = false := decide_eq_false (by omega)
    have HR := Lib.hid (sheet_Row s w HE.out (by omega))
    have hll : s.data.toList.length ≤ 1000000 := by rw [← Lib.size_eq]; omega
    obtain ⟨r0, r1, f, hrr⟩ := rowRes_form s.data.toList
    obtain ⟨vs, h, h16, hsr⟩ := symRes_form s.data.toList
    obtain ⟨v0, v1, v2, v3, v4, v5, v6, v7, v8, v9, v10, v11, v12, v13, v14, v15, rfl⟩ := symCells_lit h16
    clear h16
    have HRR := Lib.hid hrr
    have HSR := Lib.hid hsr
    clear hrr hsr
    simp only [symArr, List.map_cons, List.map_nil] at HSR
    go_wp2_with fail
    refine HR.out.mono ?_
    rintro e w1 ⟨rfl, hb1⟩
    rw [HRR.out]
    clear HR
    have HB1 : Hid (Below w.heap.size w w1) := hb1
    clear hb1
    go_wp2_with fail
    have hk2 : Hid (Blk (w1.alloc (.cells #[.int .i64 r0, .int .i64 r1] 24)) w1.heap.size #[.int .i64 r0, .int .i64 r1] 24) := Blk.alloc _ _
    have hb2 : Hid (Below w.heap.size w (w1.alloc (.cells #[.int .i64 r0, .int .i64 r1] 24))) := HB1.out.alloc HB1.out.size _
    have hs2 : w1.heap.size < (w1.alloc (.cells #[.int .i64 r0, .int .i64 r1] 24)).heap.size := by simp
    generalize w1.alloc (.cells #[.int .i64 r0, .int .i64 r1] 24) = w2 at *
    have HRF := Lib.hid (ref_Row s.data.toList w2 hll)
    rw [Lib.mk_data s] at HRF
    refine HRF.out.mono ?_
    rintro e w3 ⟨rfl, hb3⟩
    rw [HRR.out]
    clear HRF
    have hk3 : Hid (Blk w3 w1.heap.size #[.int .i64 r0, .int .i64 r1] 24) := hk2.out.below hs2 hb3
    have hb3' : Hid (Below w.heap.size w w3) := hb2.out.trans (hb3.mono (by have := HB1.out.size; omega))
    have hs3 : w1.heap.size < w3.heap.size := Nat.lt_of_lt_of_le hs2 hb3.size
    clear hb3 hk2 hb2 hs2
    go_wp2_with fail
    have hk4 : Hid (Blk (w3.alloc (.cells #[.int .i64 r0, .int .i64 r1] 24)) w3.heap.size #[.int .i64 r0, .int .i64 r1] 24) := Blk.alloc _ _
    have hj4 : Hid (Blk (w3.alloc (.cells #[.int .i64 r0, .int .i64 r1] 24)) w1.heap.size #[.int .i64 r0, .int .i64 r1] 24) := hk3.out.grown (r := none) (by simp) (World.grownBy_alloc _ _ _)
    have hb4 : Hid (Below w.heap.size w (w3.alloc (.cells #[.int .i64 r0, .int .i64 r1] 24))) := hb3'.out.alloc hb3'.out.size _
    have hs4 : w3.heap.size < (w3.alloc (.cells #[.int .i64 r0, .int .i64 r1] 24)).heap.size := by simp
    generalize w3.alloc (.cells #[.int .i64 r0, .int .i64 r1] 24) = w4 at *
    have HSY := Lib.hid (sheet_Symbol s w4 (HE.out.below (Nat.le_refl _) hb4.out) (by omega))
    refine HSY.out.mono ?_
    rintro e w5 ⟨rfl, hb5⟩
    rw [HSR.out]
    clear HSY
    have hk5 : Hid (Blk w5 w3.heap.size #[.int .i64 r0, .int .i64 r1] 24) := hk4.out.below hs4 hb5
    have hj5 : Hid (Blk w5 w1.heap.size #[.int .i64 r0, .int .i64 r1] 24) := hj4.out.below (by omega) hb5
    have hb5' : Hid (Below w.heap.size w w5) := hb4.out.trans (hb5.mono (by have := HB1.out.size; omega))
    have hs5 : w3.heap.size < w5.heap.size := Nat.lt_of_lt_of_le hs4 hb5.size
    clear hb5 hk4 hj4 hb4 hs4 hk3
    go_wp2_with fail
    have hk6 : Hid (Blk (w5.alloc (.cells #[.int .i64 v0, .int .i64 v1, .int .i64 v2, .int .i64 v3, .int .i64 v4, .int .i64 v5, .int .i64 v6, .int .i64 v7, .int .i64 v8, .int .i64 v9, .int .i64 v10, .int .i64 v11, .int .i64 v12, .int .i64 v13, .int .i64 v14, .int .i64 v15] 29)) w3.heap.size #[.int .i64 r0, .int .i64 r1] 24) := hk5.out.grown (r := none) (by simp) (World.grownBy_alloc _ _ _)
    have hj6 : Hid (Blk (w5.alloc (.cells #[.int .i64 v0, .int .i64 v1, .int .i64 v2, .int .i64 v3, .int .i64 v4, .int .i64 v5, .int .i64 v6, .int .i64 v7, .int .i64 v8, .int .i64 v9, .int .i64 v10, .int .i64 v11, .int .i64 v12, .int .i64 v13, .int .i64 v14, .int .i64 v15] 29)) w1.heap.size #[.int .i64 r0, .int .i64 r1] 24) := hj5.out.grown (r := none) (by simp) (World.grownBy_alloc _ _ _)
    have hm6 : Hid (Blk (w5.alloc (.cells #[.int .i64 v0, .int .i64 v1, .int .i64 v2, .int .i64 v3, .int .i64 v4, .int .i64 v5, .int .i64 v6, .int .i64 v7, .int .i64 v8, .int .i64 v9, .int .i64 v10, .int .i64 v11, .int .i64 v12, .int .i64 v13, .int .i64 v14, .int .i64 v15] 29)) w5.heap.size #[.int .i64 v0, .int .i64 v1, .int .i64 v2, .int .i64 v3, .int .i64 v4, .int .i64 v5, .int .i64 v6, .int .i64 v7, .int .i64 v8, .int .i64 v9, .int .i64 v10, .int .i64 v11, .int .i64 v12, .int .i64 v13, .int .i64 v14, .int .i64 v15] 29) := Blk.alloc _ _
    have hb6 : Hid (Below w.heap.size w (w5.alloc (.cells #[.int .i64 v0, .int .i64 v1, .int .i64 v2, .int .i64 v3, .int .i64 v4, .int .i64 v5, .int .i64 v6, .int .i64 v7, .int .i64 v8, .int .i64 v9, .int .i64 v10, .int .i64 v11, .int .i64 v12, .int .i64 v13, .int .i64 v14, .int .i64 v15] 29))) := hb5'.out.alloc hb5'.out.size _
    have hs6 : w5.heap.size < (w5.alloc (.cells #[.int .i64 v0, .int .i64 v1, .int .i64 v2, .int .i64 v3, .int .i64 v4, .int .i64 v5, .int .i64 v6, .int .i64 v7, .int .i64 v8, .int .i64 v9, .int .i64 v10, .int .i64 v11, .int .i64 v12, .int .i64 v13, .int .i64 v14, .int .i64 v15] 29)).heap.size := by simp
    generalize w5.alloc (.cells #[.int .i64 v0, .int .i64 v1, .int .i64 v2, .int .i64 v3, .int .i64 v4, .int .i64 v5, .int .i64 v6, .int .i64 v7, .int .i64 v8, .int .i64 v9, .int .i64 v10, .int .i64 v11, .int .i64 v12, .int .i64 v13, .int .i64 v14, .int .i64 v15] 29) = w6 at *
    have HRS := Lib.hid (ref_Symbol s.data.toList w6 hll)
    rw [Lib.mk_data s] at HRS
    refine HRS.out.mono ?_
    rintro e w7 ⟨rfl, hb7⟩
    rw [HSR.out]
    clear HRS
    have hk7 : Hid (Blk w7 w3.heap.size #[.int .i64 r0, .int .i64 r1] 24) := hk6.out.below (by omega) hb7
    have hj7 : Hid (Blk w7 w1.heap.size #[.int .i64 r0, .int .i64 r1] 24) := hj6.out.below (by omega) hb7
    have hm7 : Hid (Blk w7 w5.heap.size #[.int .i64 v0, .int .i64 v1, .int .i64 v2, .int .i64 v3, .int .i64 v4, .int .i64 v5, .int .i64 v6, .int .i64 v7, .int .i64 v8, .int .i64 v9, .int .i64 v10, .int .i64 v11, .int .i64 v12, .int .i64 v13, .int .i64 v14, .int .i64 v15] 29) := hm6.out.below (by omega) hb7
    have hb7' : Hid (Below w.heap.size w w7) := hb6.out.trans (hb7.mono (by have := HB1.out.size; omega))
    have hs7 : w5.heap.size < w7.heap.size := Nat.lt_of_lt_of_le hs6 hb7.size
    clear hb7 hk6 hj6 hm6 hb6 hs6 hk5 hj5 hb5'
    have HE8 := Lib.hid (HE.out.below (Nat.le_refl _) (hb7'.out.alloc hb7'.out.size (.cells #[.int .i64 v0, .int .i64 v1, .int .i64 v2, .int .i64 v3, .int .i64 v4, .int .i64 v5, .int .i64 v6, .int .i64 v7, .int .i64 v8, .int .i64 v9, .int .i64 v10, .int .i64 v11, .int .i64 v12, .int .i64 v13, .int .i64 v14, .int .i64 v15] 29)))
    have hk8 : Hid (Blk (w7.alloc (.cells #[.int .i64 v0, .int .i64 v1, .int .i64 v2, .int .i64 v3, .int .i64 v4, .int .i64 v5, .int .i64 v6, .int .i64 v7, .int .i64 v8, .int .i64 v9, .int .i64 v10, .int .i64 v11, .int .i64 v12, .int .i64 v13, .int .i64 v14, .int .i64 v15] 29)) w3.heap.size #[.int .i64 r0, .int .i64 r1] 24) := hk7.out.grown (r := none) (by simp) (World.grownBy_alloc _ _ _)
    have hj8 : Hid (Blk (w7.alloc (.cells #[.int .i64 v0, .int .i64 v1, .int .i64 v2, .int .i64 v3, .int .i64 v4, .int .i64 v5, .int .i64 v6, .int .i64 v7, .int .i64 v8, .int .i64 v9, .int .i64 v10, .int .i64 v11, .int .i64 v12, .int .i64 v13, .int .i64 v14, .int .i64 v15] 29)) w1.heap.size #[.int .i64 r0, .int .i64 r1] 24) := hj7.out.grown (r := none) (by simp) (World.grownBy_alloc _ _ _)
    have hm8 : Hid (Blk (w7.alloc (.cells #[.int .i64 v0, .int .i64 v1, .int .i64 v2, .int .i64 v3, .int .i64 v4, .int .i64 v5, .int .i64 v6, .int .i64 v7, .int .i64 v8, .int .i64 v9, .int .i64 v10, .int .i64 v11, .int .i64 v12, .int .i64 v13, .int .i64 v14, .int .i64 v15] 29)) w5.heap.size #[.int .i64 v0, .int .i64 v1, .int .i64 v2, .int .i64 v3, .int .i64 v4, .int .i64 v5, .int .i64 v6, .int .i64 v7, .int .i64 v8, .int .i64 v9, .int .i64 v10, .int .i64 v11, .int .i64 v12, .int .i64 v13, .int .i64 v14, .int .i64 v15] 29) := hm7.out.grown (r := none) (by simp) (World.grownBy_alloc _ _ _)
    have hn8 : Hid (Blk (w7.alloc (.cells #[.int .i64 v0, .int .i64 v1, .int .i64 v2, .int .i64 v3, .int .i64 v4, .int .i64 v5, .int .i64 v6, .int .i64 v7, .int .i64 v8, .int .i64 v9, .int .i64 v10, .int .i64 v11, .int .i64 v12, .int .i64 v13, .int .i64 v14, .int .i64 v15] 29)) w7.heap.size #[.int .i64 v0, .int .i64 v1, .int .i64 v2, .int .i64 v3, .int .i64 v4, .int .i64 v5, .int .i64 v6, .int .i64 v7, .int .i64 v8, .int .i64 v9, .int .i64 v10, .int .i64 v11, .int .i64 v12, .int .i64 v13, .int .i64 v14, .int .i64 v15] 29) := Blk.alloc _ _
    have hb8 : Hid (Below w.heap.size w (w7.alloc (.cells #[.int .i64 v0, .int .i64 v1, .int .i64 v2, .int .i64 v3, .int .i64 v4, .int .i64 v5, .int .i64 v6, .int .i64 v7, .int .i64 v8, .int .i64 v9, .int .i64 v10, .int .i64 v11, .int .i64 v12, .int .i64 v13, .int .i64 v14, .int .i64 v15] 29))) := hb7'.out.alloc hb7'.out.size _
    clear hk7 hj7 hm7
    obtain ⟨w8, hW8⟩ : ∃ w8, w8 = w7.alloc (.cells #[.int .i64 v0, .int .i64 v1, .int .i64 v2, .int .i64 v3, .int .i64 v4, .int .i64 v5, .int .i64 v6, .int .i64 v7, .int .i64 v8, .int .i64 v9, .int .i64 v10, .int .i64 v11, .int .i64 v12, .int .i64 v13, .int .i64 v14, .int .i64 v15] 29) := ⟨_, rfl⟩
    rw [← hW8] at hk8 hj8 hm8 hn8 hb8 HE8
    have HAL := Lib.hid (law_alive w8 HE8.out)
    have m0 : w8.cell? ⟨w5.heap.size, 0, none⟩ = some (.int .i64 v0) := hm8.out.cell 0
    have n0 : w8.cell? ⟨w7.heap.size, 0, none⟩ = some (.int .i64 v0) := hn8.out.cell 0
    have m1 : w8.cell? ⟨w5.heap.size, 1, none⟩ = some (.int .i64 v1) := hm8.out.cell 1
    have n1 : w8.cell? ⟨w7.heap.size, 1, none⟩ = some (.int .i64 v1) := hn8.out.cell 1
    have m2 : w8.cell? ⟨w5.heap.size, 2, none⟩ = some (.int .i64 v2) := hm8.out.cell 2
    have n2 : w8.cell? ⟨w7.heap.size, 2, none⟩ = some (.int .i64 v2) := hn8.out.cell 2
    have m3 : w8.cell? ⟨w5.heap.size, 3, none⟩ = some (.int .i64 v3) := hm8.out.cell 3
    have n3 : w8.cell? ⟨w7.heap.size, 3, none⟩ = some (.int .i64 v3) := hn8.out.cell 3
    have m4 : w8.cell? ⟨w5.heap.size, 4, none⟩ = some (.int .i64 v4) := hm8.out.cell 4
    have n4 : w8.cell? ⟨w7.heap.size, 4, none⟩ = some (.int .i64 v4) := hn8.out.cell 4
    have m5 : w8.cell? ⟨w5.heap.size, 5, none⟩ = some (.int .i64 v5) := hm8.out.cell 5
    have n5 : w8.cell? ⟨w7.heap.size, 5, none⟩ = some (.int .i64 v5) := hn8.out.cell 5
    have m6 : w8.cell? ⟨w5.heap.size, 6, none⟩ = some (.int .i64 v6) := hm8.out.cell 6
    have n6 : w8.cell? ⟨w7.heap.size, 6, none⟩ = some (.int .i64 v6) := hn8.out.cell 6
    have m7 : w8.cell? ⟨w5.heap.size, 7, none⟩ = some (.int .i64 v7) := hm8.out.cell 7
    have n7 : w8.cell? ⟨w7.heap.size, 7, none⟩ = some (.int .i64 v7) := hn8.out.cell 7
    have m8 : w8.cell? ⟨w5.heap.size, 8, none⟩ = some (.int .i64 v8) := hm8.out.cell 8
    have n8 : w8.cell? ⟨w7.heap.size, 8, none⟩ = some (.int .i64 v8) := hn8.out.cell 8
    have m9 : w8.cell? ⟨w5.heap.size, 9, none⟩ = some (.int .i64 v9) := hm8.out.cell 9
    have n9 : w8.cell? ⟨w7.heap.size, 9, none⟩ = some (.int .i64 v9) := hn8.out.cell 9
    have m10 : w8.cell? ⟨w5.heap.size, 10, none⟩ = some (.int .i64 v10) := hm8.out.cell 10
    have n10 : w8.cell? ⟨w7.heap.size, 10, none⟩ = some (.int .i64 v10) := hn8.out.cell 10
    have m11 : w8.cell? ⟨w5.heap.size, 11, none⟩ = some (.int .i64 v11) := hm8.out.cell 11
    have n11 : w8.cell? ⟨w7.heap.size, 11, none⟩ = some (.int .i64 v11) := hn8.out.cell 11
    have m12 : w8.cell? ⟨w5.heap.size, 12, none⟩ = some (.int .i64 v12) := hm8.out.cell 12
    have n12 : w8.cell? ⟨w7.heap.size, 12, none⟩ = some (.int .i64 v12) := hn8.out.cell 12
    have m13 : w8.cell? ⟨w5.heap.size, 13, none⟩ = some (.int .i64 v13) := hm8.out.cell 13
    have n13 : w8.cell? ⟨w7.heap.size, 13, none⟩ = some (.int .i64 v13) := hn8.out.cell 13
    have m14 : w8.cell? ⟨w5.heap.size, 14, none⟩ = some (.int .i64 v14) := hm8.out.cell 14
    have n14 : w8.cell? ⟨w7.heap.size, 14, none⟩ = some (.int .i64 v14) := hn8.out.cell 14
    have m15 : w8.cell? ⟨w5.heap.size, 15, none⟩ = some (.int .i64 v15) := hm8.out.cell 15
    have n15 : w8.cell? ⟨w7.heap.size, 15, none⟩ = some (.int .i64 v15) := hn8.out.cell 15
    go_wp2_with (first | (rw [← hW8]; clear hW8; refine wpList_load_row rfl 24 _ rfl w1.heap.size rfl 24 #[.int .i64 r0, .int .i64 r1] (0, 0) ((Tryd.prog.underlying 24).get (by kernel_rfl)) hj8.out (by simp) (by kernel_rfl) (by kernel_rfl) ?_) | refine wpList_load_row rfl 24 _ rfl w1.heap.size rfl 24 #[.int .i64 r0, .int .i64 r1] (0, 0) ((Tryd.prog.underlying 24).get (by kernel_rfl)) hj8.out (by simp) (by kernel_rfl) (by kernel_rfl) ?_ | refine wpList_load_row rfl 24 _ rfl w3.heap.size rfl 24 #[.int .i64 r0, .int .i64 r1] (0, 0) ((Tryd.prog.underlying 24).get (by kernel_rfl)) hk8.out (by simp) (by kernel_rfl) (by kernel_rfl) ?_ | refine wpList_load_row rfl 29 _ rfl w5.heap.size rfl 29 #[.int .i64 v0, .int .i64 v1, .int .i64 v2, .int .i64 v3, .int .i64 v4, .int .i64 v5, .int .i64 v6, .int .i64 v7, .int .i64 v8, .int .i64 v9, .int .i64 v10, .int .i64 v11, .int .i64 v12, .int .i64 v13, .int .i64 v14, .int .i64 v15] (0, 0) ((Tryd.prog.underlying 29).get (by kernel_rfl)) hm8.out (by simp) (by kernel_rfl) (by kernel_rfl) ?_ | refine wpList_load_row rfl 29 _ rfl w7.heap.size rfl 29 #[.int .i64 v0, .int .i64 v1, .int .i64 v2, .int .i64 v3, .int .i64 v4, .int .i64 v5, .int .i64 v6, .int .i64 v7, .int .i64 v8, .int .i64 v9, .int .i64 v10, .int .i64 v11, .int .i64 v12, .int .i64 v13, .int .i64 v14, .int .i64 v15] (0, 0) ((Tryd.prog.underlying 29).get (by kernel_rfl)) hn8.out (by simp) (by kernel_rfl) (by kernel_rfl) ?_ | (go_at_call 16; refine HAL.out.mono ?_; rintro e w9 ⟨rfl, hb9⟩))
    all_goals go_ret
    all_goals exact ⟨rfl, hb8.out.trans (hb9.mono hb8.out.size)⟩

end Go.Proofs.YtbcepdacfmbekaaDoor
