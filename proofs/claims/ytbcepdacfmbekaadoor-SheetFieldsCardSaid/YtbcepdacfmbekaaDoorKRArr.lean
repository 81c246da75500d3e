/-
  The walks of damperref40.phases, Names and Fields.
-/
import Derived.Test.YtbcepdacfmbekaaDoorKArr
import Derived.Test.YtbcepdacfmbekaaDoorKSym
import Derived.Test.YtbcepdacfmbekaaDoorKField
namespace Go.Proofs.YtbcepdacfmbekaaDoor
open Go.RowKit

def WordsPost (L : List (List UInt8)) (w : World) (e : Ending) (w' : World) : Prop := ∃ b c, e = .returned (.slice (some ⟨b, 0, none⟩) L.length c) ∧ b < w'.heap.size ∧ Strs w' b L ∧ Below w.heap.size w w'

set_option maxRecDepth 100000 in
theorem ref_phases (w : World) : Calls Tryd.prog 72 #[] w (WordsPost phaseWords w) := by
  go_enter Tryd.func72, Tryd.ntmps72
  go_wp2_with fail
  go_ret
  exact ⟨w.heap.size, 3, rfl, by simp, strs_phases w _, (Below.refl _ _).alloc (Nat.le_refl _) _⟩

set_option maxRecDepth 100000 in
theorem ref_Names (w : World) : Calls Tryd.prog 23 #[] w (WordsPost nameWords w) := by
  go_enter Tryd.func23, Tryd.ntmps23
  go_wp2_with fail
  go_ret
  exact ⟨w.heap.size, 16, rfl, by simp, strs_names w _, (Below.refl _ _).alloc (Nat.le_refl _) _⟩

def FieldsPost (vs : List Int) (w : World) (e : Ending) (w' : World) : Prop := ∃ b c, e = .returned (.slice (some ⟨b, 0, none⟩) 16 c) ∧ b < w'.heap.size ∧ (∀ j, j < 16 → w'.cell? ⟨b, j, none⟩ = some (.int .i64 (vs.getD j 0))) ∧ Below w.heap.size w w'

set_option maxHeartbeats 2000000 in
set_option maxRecDepth 100000 in
theorem ref_Fields (vs : List Int) (h16 : vs.length = 16) (w : World) : Calls Tryd.prog 24 #[.agg (symArr vs)] w (FieldsPost vs w) := by
  obtain ⟨v0, v1, v2, v3, v4, v5, v6, v7, v8, v9, v10, v11, v12, v13, v14, v15, rfl⟩ := symCells_lit h16
  go_enter Tryd.func24, Tryd.ntmps24
  simp only [symArr, List.map_cons, List.map_nil]
  go_wp2_with fail
  go_ret
  refine ⟨w.heap.size + 1, 16, rfl, by simp, fun j hj => ?_, ((Below.refl _ _).alloc (Nat.le_refl _) _).alloc (by simp) _⟩
  have e := World.cell?_alloc_new (w.alloc (.cells #[.int .i64 v0, .int .i64 v1, .int .i64 v2, .int .i64 v3, .int .i64 v4, .int .i64 v5, .int .i64 v6, .int .i64 v7, .int .i64 v8, .int .i64 v9, .int .i64 v10, .int .i64 v11, .int .i64 v12, .int .i64 v13, .int .i64 v14, .int .i64 v15] 29)) #[.int .i64 v0, .int .i64 v1, .int .i64 v2, .int .i64 v3, .int .i64 v4, .int .i64 v5, .int .i64 v6, .int .i64 v7, .int .i64 v8, .int .i64 v9, .int .i64 v10, .int .i64 v11, .int .i64 v12, .int .i64 v13, .int .i64 v14, .int .i64 v15] 2 j
  rw [World.size_alloc] at e
  rw [e]
  match j, hj with
  | 0, _ => rfl
  | 1, _ => rfl
  | 2, _ => rfl
  | 3, _ => rfl
  | 4, _ => rfl
  | 5, _ => rfl
  | 6, _ => rfl
  | 7, _ => rfl
  | 8, _ => rfl
  | 9, _ => rfl
  | 10, _ => rfl
  | 11, _ => rfl
  | 12, _ => rfl
  | 13, _ => rfl
  | 14, _ => rfl
  | 15, _ => rfl
  | j + 16, h => omega

end Go.Proofs.YtbcepdacfmbekaaDoor
