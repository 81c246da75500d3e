/-
  The walk of damperlaw40.alive: the chapter's example.
-/
import Derived.Test.YtbcepdacfmbekaaDoorKPlain
import Derived.Test.YtbcepdacfmbekaaDoorKRow
import Derived.Test.YtbcepdacfmbekaaDoorKField
namespace Go.Proofs.YtbcepdacfmbekaaDoor
open Go.RowKit

def exRow : List UInt8 := [114, 111, 119, 32, 53, 32, 111, 112, 101, 110, 105, 110, 103]
theorem exRow_row : Pl.row exRow = some (5, 1) := by decide
def exName : List UInt8 := [112, 97, 117, 115, 101]
theorem exName_field : Pl.field plainVs exName = (10, true) := by decide

def AlivePost (w : World) (e : Ending) (w' : World) : Prop := e = .returned (.bool true) ∧ Below w.heap.size w w'

set_option maxHeartbeats 4000000 in
set_option maxRecDepth 100000 in
theorem law_alive (w : World) (hE : Env w) : Calls Tryd.prog 16 #[] w (AlivePost w) := by
  have HR := Lib.hid (sheet_Row ⟨exRow.toArray⟩ w hE (by rw [Lib.size_eq]; simp [exRow]))
  go_enter Tryd.func16, Tryd.ntmps16
  go_wp2_with fail
  refine HR.out.mono ?_
  rintro e w1 ⟨rfl, hb1⟩
  have hrr : rowRes (⟨exRow.toArray⟩ : ByteArray).data.toList = .tuple #[.agg #[.int .i64 5, .int .i64 1], .int .i64 0] := by
    unfold rowRes
    rw [show (⟨exRow.toArray⟩ : ByteArray).data.toList = exRow from rfl, exRow_row]
  rw [hrr]
  clear hrr HR
  go_wp2_with fail
  have hb2 : Hid (Below w.heap.size w (w1.alloc (.cells #[.int .i64 5, .int .i64 1] 24))) := hb1.alloc hb1.size _
  have hc0 : (w1.alloc (.cells #[.int .i64 5, .int .i64 1] 24)).cell? ⟨w1.heap.size, 0, none⟩ = some (.int .i64 5) := World.cell?_alloc_new _ _ _ _
  have hc1 : (w1.alloc (.cells #[.int .i64 5, .int .i64 1] 24)).cell? ⟨w1.heap.size, 1, none⟩ = some (.int .i64 1) := World.cell?_alloc_new _ _ _ _
  have hsz2 : (w1.alloc (.cells #[.int .i64 5, .int .i64 1] 24)).heap.size = w1.heap.size + 1 := World.size_alloc _ _
  generalize w1.alloc (.cells #[.int .i64 5, .int .i64 1] 24) = w2 at *
  refine (L07_Plain w2).mono ?_
  rintro e w3 ⟨b, c, t, rfl, hb3, hown⟩
  have hs1 := hb1.size
  have HB3 : Hid (Below w.heap.size w w3) := hb2.out.trans (hb3.mono (by omega))
  have hd0 : w3.cell? ⟨w1.heap.size, 0, none⟩ = some (.int .i64 5) := (hb3.cell (p := ⟨w1.heap.size, 0, none⟩) (by show w1.heap.size < _; omega)).trans hc0
  have hd1 : w3.cell? ⟨w1.heap.size, 1, none⟩ = some (.int .i64 1) := (hb3.cell (p := ⟨w1.heap.size, 1, none⟩) (by show w1.heap.size < _; omega)).trans hc1
  have HD0 := Lib.hid hd0
  have HD1 := Lib.hid hd1
  have hs3 := hb3.size
  have hcell : ∀ j, j < 16 → w3.cell? ⟨b, j, none⟩ = (symArr plainVs).toList[j]? := fun j hj => World.ownsRow.cellAt hown j (by omega)
  have hbl : b < w3.heap.size := (hown.lt b rfl).2
  have e0 : w3.cell? ⟨b, 0, none⟩ = some (.int .i64 5) := hcell 0 (by omega)
  have e1 : w3.cell? ⟨b, 1, none⟩ = some (.int .i64 1000) := hcell 1 (by omega)
  have e2 : w3.cell? ⟨b, 2, none⟩ = some (.int .i64 2000) := hcell 2 (by omega)
  have e3 : w3.cell? ⟨b, 3, none⟩ = some (.int .i64 500) := hcell 3 (by omega)
  have e4 : w3.cell? ⟨b, 4, none⟩ = some (.int .i64 20) := hcell 4 (by omega)
  have e5 : w3.cell? ⟨b, 5, none⟩ = some (.int .i64 100) := hcell 5 (by omega)
  have e6 : w3.cell? ⟨b, 6, none⟩ = some (.int .i64 3) := hcell 6 (by omega)
  have e7 : w3.cell? ⟨b, 7, none⟩ = some (.int .i64 10) := hcell 7 (by omega)
  have e8 : w3.cell? ⟨b, 8, none⟩ = some (.int .i64 5) := hcell 8 (by omega)
  have e9 : w3.cell? ⟨b, 9, none⟩ = some (.int .i64 2) := hcell 9 (by omega)
  have e10 : w3.cell? ⟨b, 10, none⟩ = some (.int .i64 500) := hcell 10 (by omega)
  have e11 : w3.cell? ⟨b, 11, none⟩ = some (.int .i64 500) := hcell 11 (by omega)
  have e12 : w3.cell? ⟨b, 12, none⟩ = some (.int .i64 1) := hcell 12 (by omega)
  have e13 : w3.cell? ⟨b, 13, none⟩ = some (.int .i64 40) := hcell 13 (by omega)
  have e14 : w3.cell? ⟨b, 14, none⟩ = some (.int .i64 12) := hcell 14 (by omega)
  have e15 : w3.cell? ⟨b, 15, none⟩ = some (.int .i64 1000) := hcell 15 (by omega)
  clear hcell hown hb3
  have HF := Lib.hid (sheet_Field plainVs rfl ⟨exName.toArray⟩ w3)
  have hfld : (Instr.field 53 (.agg #[.slice (some ⟨b, 0, none⟩) 1 c, t, .int .i64 10000, .int .i64 700, .int .i64 1300, .int .i64 2000, .int .i64 15, .int .i64 30]) 0).run Tryd.prog w3 = .ok (.slice (some ⟨b, 0, none⟩) 1 c) w3 := by kernel_rfl
  have hpl : (#[.int .i64 5, .int .i64 1000, .int .i64 2000, .int .i64 500, .int .i64 20, .int .i64 100, .int .i64 3, .int .i64 10, .int .i64 5, .int .i64 2, .int .i64 500, .int .i64 500, .int .i64 1, .int .i64 40, .int .i64 12, .int .i64 1000] : Array Value) = symArr plainVs := by simp [symArr, plainVs]
  go_wp2_with fail
  clear hpl hfld e0 e1 e2 e3 e4 e5 e6 e7 e8 e9 e10 e11 e12 e13 e14 e15
  refine HF.out.mono ?_
  rintro e w4 ⟨rfl, hb4⟩
  have hfv : Pl.field plainVs (⟨exName.toArray⟩ : ByteArray).data.toList = (10, true) := by rw [show (⟨exName.toArray⟩ : ByteArray).data.toList = exName from rfl, exName_field]
  rw [hfv]
  clear hfv HF hd0 hd1 hc0 hc1
  have hd0 : w4.cell? ⟨w1.heap.size, 0, none⟩ = some (.int .i64 5) := (hb4.cell (p := ⟨w1.heap.size, 0, none⟩) (by show w1.heap.size < _; omega)).trans HD0.out
  have hd1 : w4.cell? ⟨w1.heap.size, 1, none⟩ = some (.int .i64 1) := (hb4.cell (p := ⟨w1.heap.size, 1, none⟩) (by show w1.heap.size < _; omega)).trans HD1.out
  have HB4 : Hid (Below w.heap.size w w4) := HB3.out.trans (hb4.mono (by omega))
  clear hb4
  go_wp2_with fail
  go_ret
  exact ⟨rfl, HB4.out⟩

end Go.Proofs.YtbcepdacfmbekaaDoor
