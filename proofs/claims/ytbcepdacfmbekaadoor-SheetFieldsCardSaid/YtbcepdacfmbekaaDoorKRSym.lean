/-
  The walk of damperref40.Symbol.
-/
import Derived.Test.YtbcepdacfmbekaaDoorKRNums
import Derived.Test.YtbcepdacfmbekaaDoorKRArr
import Derived.StillTailTactics
namespace Go.Proofs.YtbcepdacfmbekaaDoor
open Go.RowKit

theorem results_sym' {fn : Func} (h : fn.results = #[.cell 2 29, .tmp 3]) (tmps : Array Value) (w : World) (b : Nat) (cs : Array Value) (u : Value)
    (hp : tmps.getD 2 undef = .pointer (some ⟨b, 0, none⟩)) (ht : tmps.getD 3 undef = u) (hb : Blk w b cs 29) (h2 : cs.size = 16) :
    (results fn tmps).run Tryd.prog w = .ok (.tuple #[.agg cs, u]) w := by
  subst ht
  exact results_sym h tmps w b cs hp hb h2

def RSymPost (line : List UInt8) (w : World) (e : Ending) (w' : World) : Prop := e = .returned (symRes line) ∧ Below w.heap.size w w'
theorem rsym_none {line : List UInt8} {w w' : World} (h : Pl.readNums Pl.symbolWord 16 (Pl.split line) = none) (hb : Below w.heap.size w w') : RSymPost line w (.returned (.tuple #[.agg zero16, .int .i64 4])) w' := by
  unfold RSymPost symRes Pl.symbol
  rw [h]
  exact ⟨rfl, hb⟩
theorem symCells_eq {vs : List Int} (h : vs.length = 16) : symCells vs = symArr vs := by
  obtain ⟨v0, v1, v2, v3, v4, v5, v6, v7, v8, v9, v10, v11, v12, v13, v14, v15, rfl⟩ := symCells_lit h
  simp [symCells, symArr, setAll, symTs, zero16]
theorem symArr_size {vs : List Int} (h : vs.length = 16) : (symArr vs).size = 16 := by simp [symArr, h]
theorem symArr_one (vs : List Int) : (symArr vs).all (·.oneCell') = true := by
  unfold symArr
  rw [Array.all_eq_true_iff_forall_mem]
  intro v hv
  simp at hv
  obtain ⟨n, _, rfl⟩ := hv
  rfl
theorem rsym_some {line : List UInt8} {w w' : World} {vs : List Int} (h : Pl.readNums Pl.symbolWord 16 (Pl.split line) = some vs) (hb : Below w.heap.size w w') : RSymPost line w (.returned (.tuple #[.agg (symArr vs), .int .i64 0])) w' := by
  unfold RSymPost symRes Pl.symbol
  rw [h]
  refine ⟨?_, hb⟩
  simp only
  rw [symCells_eq (Pl.readNums_length h)]

set_option maxHeartbeats 8000000 in
set_option maxRecDepth 100000 in
theorem ref_Symbol (line : List UInt8) (w : World) (hs : line.length ≤ 1000000) : Calls Tryd.prog 20 #[.string ⟨line.toArray⟩] w (RSymPost line w) := by
  have HNO := Lib.hid (fun w' => @rsym_none line w w')
  have HYES := Lib.hid (fun w' => @rsym_some line w w')
  obtain ⟨W0, hW0⟩ : ∃ W0, W0 = w.alloc (.cells zero16 29) := ⟨_, rfl⟩
  have hbW : Below w.heap.size w W0 := by rw [hW0]; exact (Below.refl _ _).alloc (Nat.le_refl _) _
  have hsW : W0.heap.size = w.heap.size + 1 := by rw [hW0, World.size_alloc]
  have hkW : Blk W0 w.heap.size zero16 29 := by rw [hW0]; exact Blk.alloc _ _
  have hnums := ref_numbers Pl.symbolWord line 16 (by omega) W0 hs
  unfold NumsPost at hnums
  have HNUMS := Lib.hid hnums
  clear hnums
  unfold zero16 at hW0
  go_enter Tryd.func20, Tryd.ntmps20
  go_wp2_with fail
  rw [← hW0]
  clear hW0
  refine HNUMS.out.mono ?_
  rintro e w1 ⟨hb1, hcase⟩
  clear HNUMS
  have hs1 := hb1.size
  have HB1 : Hid (Below w.heap.size w w1) := hbW.trans (hb1.mono (by omega))
  have HK1 : Hid (Blk w1 w.heap.size zero16 29) := hkW.below (by omega) hb1
  clear hbW hkW hb1
  cases hrn : Pl.readNums Pl.symbolWord 16 (Pl.split line) with
  | none =>
    rw [hrn] at hcase
    subst hcase
    have HRN := Lib.hid hrn
    have hk6 : Hid (Blk (w1.setRow w.heap.size zero16) w.heap.size zero16 29) := setRow_heap _ _ _ _ _ _ HK1.out
    have hb6 : Hid (Below w.heap.size w (w1.setRow w.heap.size zero16)) := below_setRow HB1.out (by omega)
    clear hrn
    go_wp2_with (refine wpList_store_row rfl 29 _ _ rfl w.heap.size zero16 rfl rfl 29 zero16 HK1.out zero16_size rfl zero16_one ?_)
    exact bodyPost_ret (v := .tuple #[.agg zero16, .int .i64 4]) (results_sym' rfl _ _ w.heap.size zero16 (.int .i64 4) rfl rfl hk6.out rfl) rfl (HNO.out _ HRN.out hb6.out)
  | some vs =>
    rw [hrn] at hcase
    obtain ⟨v, rfl, hown⟩ := hcase
    have HRN := Lib.hid hrn
    obtain ⟨g, c, rfl, hg1, hg2⟩ := World.ownsRow.form hown (by omega)
    obtain ⟨v0, v1, v2, v3, v4, v5, v6, v7, v8, v9, v10, v11, v12, v13, v14, v15, rfl⟩ := symCells_lit (Pl.readNums_length hrn)
    clear hrn
    have hc : ∀ j, j < 16 → w1.cell? ⟨g, j, none⟩ = (intVs [v0, v1, v2, v3, v4, v5, v6, v7, v8, v9, v10, v11, v12, v13, v14, v15])[j]? := fun j hj => World.ownsRow.cellAt hown j (by omega)
    have HF := Lib.hid (show ∀ cs : Array Value, cs = symArr [v0, v1, v2, v3, v4, v5, v6, v7, v8, v9, v10, v11, v12, v13, v14, v15] → Blk (w1.drew.setRow w.heap.size cs) w.heap.size cs 29 ∧ Below w.heap.size w (w1.drew.setRow w.heap.size cs) from fun cs _ => ⟨setRow_heap _ _ _ _ _ _ HK1.out, below_setRow HB1.out.drew (by omega)⟩)
    have e0 : w1.drew.cell? ⟨g, 0, none⟩ = some (.int .i64 v0) := hc 0 (by omega)
    have e1 : w1.drew.cell? ⟨g, 1, none⟩ = some (.int .i64 v1) := hc 1 (by omega)
    have e2 : w1.drew.cell? ⟨g, 2, none⟩ = some (.int .i64 v2) := hc 2 (by omega)
    have e3 : w1.drew.cell? ⟨g, 3, none⟩ = some (.int .i64 v3) := hc 3 (by omega)
    have e4 : w1.drew.cell? ⟨g, 4, none⟩ = some (.int .i64 v4) := hc 4 (by omega)
    have e5 : w1.drew.cell? ⟨g, 5, none⟩ = some (.int .i64 v5) := hc 5 (by omega)
    have e6 : w1.drew.cell? ⟨g, 6, none⟩ = some (.int .i64 v6) := hc 6 (by omega)
    have e7 : w1.drew.cell? ⟨g, 7, none⟩ = some (.int .i64 v7) := hc 7 (by omega)
    have e8 : w1.drew.cell? ⟨g, 8, none⟩ = some (.int .i64 v8) := hc 8 (by omega)
    have e9 : w1.drew.cell? ⟨g, 9, none⟩ = some (.int .i64 v9) := hc 9 (by omega)
    have e10 : w1.drew.cell? ⟨g, 10, none⟩ = some (.int .i64 v10) := hc 10 (by omega)
    have e11 : w1.drew.cell? ⟨g, 11, none⟩ = some (.int .i64 v11) := hc 11 (by omega)
    have e12 : w1.drew.cell? ⟨g, 12, none⟩ = some (.int .i64 v12) := hc 12 (by omega)
    have e13 : w1.drew.cell? ⟨g, 13, none⟩ = some (.int .i64 v13) := hc 13 (by omega)
    have e14 : w1.drew.cell? ⟨g, 14, none⟩ = some (.int .i64 v14) := hc 14 (by omega)
    have e15 : w1.drew.cell? ⟨g, 15, none⟩ = some (.int .i64 v15) := hc 15 (by omega)
    clear hc hown
    go_wp2_with fail
    go_still_tail 49, (by kernel_rfl)
    change wpList _ _ _ _ _ w1.drew
    have h16 : [v0, v1, v2, v3, v4, v5, v6, v7, v8, v9, v10, v11, v12, v13, v14, v15].length = 16 := rfl
    generalize hcs : symArr [v0, v1, v2, v3, v4, v5, v6, v7, v8, v9, v10, v11, v12, v13, v14, v15] = cs at *
    have HS16 := Lib.hid (show cs.size = 16 by rw [← hcs]; exact symArr_size h16)
    have HONE := Lib.hid (show cs.all (·.oneCell') = true by rw [← hcs]; exact symArr_one _)
    have HY := Lib.hid (HYES.out _ HRN.out (HF.out cs rfl).2)
    rw [hcs] at HY
    have HKB := Lib.hid (HF.out cs rfl).1
    have hcs2 : Value.agg #[.int .i64 v0, .int .i64 v1, .int .i64 v2, .int .i64 v3, .int .i64 v4, .int .i64 v5, .int .i64 v6, .int .i64 v7, .int .i64 v8, .int .i64 v9, .int .i64 v10, .int .i64 v11, .int .i64 v12, .int .i64 v13, .int .i64 v14, .int .i64 v15] = .agg cs := by rw [← hcs]; rfl
    rw [hcs2]
    clear hcs hcs2 e0 e1 e2 e3 e4 e5 e6 e7 e8 e9 e10 e11 e12 e13 e14 e15 HF h16
    refine wpList_store_row rfl 29 _ _ rfl w.heap.size cs rfl rfl 29 zero16 HK1.out (by rw [HS16.out]; exact zero16_size) (by rw [HS16.out]; rfl) HONE.out ?_
    go_wp2_with fail
    exact bodyPost_ret (v := .tuple #[.agg cs, .int .i64 0]) (results_sym' rfl _ _ w.heap.size cs (.int .i64 0) rfl rfl HKB.out HS16.out) rfl HY.out

end Go.Proofs.YtbcepdacfmbekaaDoor
