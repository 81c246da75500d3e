/-
  The walks of sheet.phases and sheet.names: arrays of words.
-/
import Derived.Test.YtbcepdacfmbekaaDoorKBlk
namespace Go.Proofs.YtbcepdacfmbekaaDoor
open Go.RowKit

def phaseWords : List (List UInt8) := [[99, 108, 111, 115, 101, 100], [111, 112, 101, 110, 105, 110, 103], [99, 111, 110, 116, 105, 110, 117, 111, 117, 115]]
def nameWords : List (List UInt8) := [[103, 114, 105, 100], [114, 101, 102], [115, 116, 97, 116, 105, 99], [100, 121, 110, 97, 109, 105, 99], [119, 105, 110, 100, 111, 119], [109, 111, 118, 101], [108, 105, 109, 105, 116], [112, 97, 117, 115, 101], [101, 120, 116], [109, 97, 120, 101, 120, 116], [99, 111, 108, 108, 97, 114], [119, 105, 100, 101, 110], [115, 101, 108, 102], [115, 108, 111, 116, 115], [108, 101, 118, 101, 108, 115], [115, 104, 111, 114, 116]]

theorem sheet_phases (w : World) : Calls Tryd.prog 70 #[] w fun e w' => e = .returned (.agg #[.string ⟨#[99, 108, 111, 115, 101, 100]⟩, .string ⟨#[111, 112, 101, 110, 105, 110, 103]⟩, .string ⟨#[99, 111, 110, 116, 105, 110, 117, 111, 117, 115]⟩]) ∧ Below w.heap.size w w' := by
  go_enter Tryd.func70, Tryd.ntmps70
  go_wp2
  go_returns
  exact ⟨rfl, (Below.refl _ _).alloc (Nat.le_refl _) _⟩

theorem sheet_names (w : World) : Calls Tryd.prog 76 #[] w fun e w' => e = .returned (.agg #[.string ⟨#[103, 114, 105, 100]⟩, .string ⟨#[114, 101, 102]⟩, .string ⟨#[115, 116, 97, 116, 105, 99]⟩, .string ⟨#[100, 121, 110, 97, 109, 105, 99]⟩, .string ⟨#[119, 105, 110, 100, 111, 119]⟩, .string ⟨#[109, 111, 118, 101]⟩, .string ⟨#[108, 105, 109, 105, 116]⟩, .string ⟨#[112, 97, 117, 115, 101]⟩, .string ⟨#[101, 120, 116]⟩, .string ⟨#[109, 97, 120, 101, 120, 116]⟩, .string ⟨#[99, 111, 108, 108, 97, 114]⟩, .string ⟨#[119, 105, 100, 101, 110]⟩, .string ⟨#[115, 101, 108, 102]⟩, .string ⟨#[115, 108, 111, 116, 115]⟩, .string ⟨#[108, 101, 118, 101, 108, 115]⟩, .string ⟨#[115, 104, 111, 114, 116]⟩]) ∧ Below w.heap.size w w' := by
  go_enter Tryd.func76, Tryd.ntmps76
  go_wp2
  go_returns
  exact ⟨rfl, (Below.refl _ _).alloc (Nat.le_refl _) _⟩

theorem strs_phases (w : World) (T : TypeId) : Strs (w.alloc (.cells #[.string ⟨#[99, 108, 111, 115, 101, 100]⟩, .string ⟨#[111, 112, 101, 110, 105, 110, 103]⟩, .string ⟨#[99, 111, 110, 116, 105, 110, 117, 111, 117, 115]⟩] T)) w.heap.size phaseWords := by
  intro j hj
  rw [World.cell?_alloc_new]
  match j, hj with
  | 0, _ => rfl
  | 1, _ => rfl
  | 2, _ => rfl
  | j + 3, h => simp [phaseWords] at h; omega

theorem strs_names (w : World) (T : TypeId) : Strs (w.alloc (.cells #[.string ⟨#[103, 114, 105, 100]⟩, .string ⟨#[114, 101, 102]⟩, .string ⟨#[115, 116, 97, 116, 105, 99]⟩, .string ⟨#[100, 121, 110, 97, 109, 105, 99]⟩, .string ⟨#[119, 105, 110, 100, 111, 119]⟩, .string ⟨#[109, 111, 118, 101]⟩, .string ⟨#[108, 105, 109, 105, 116]⟩, .string ⟨#[112, 97, 117, 115, 101]⟩, .string ⟨#[101, 120, 116]⟩, .string ⟨#[109, 97, 120, 101, 120, 116]⟩, .string ⟨#[99, 111, 108, 108, 97, 114]⟩, .string ⟨#[119, 105, 100, 101, 110]⟩, .string ⟨#[115, 101, 108, 102]⟩, .string ⟨#[115, 108, 111, 116, 115]⟩, .string ⟨#[108, 101, 118, 101, 108, 115]⟩, .string ⟨#[115, 104, 111, 114, 116]⟩] T)) w.heap.size nameWords := by
  intro j hj
  rw [World.cell?_alloc_new]
  match j, hj with
  | 0, _ => rfl
  | 1, _ => rfl
  | 2, _ => rfl
  | 3, _ => rfl
  | 4, _ => rfl
  | 5, _ => rfl
  | 6, _ => rfl
  | 7, _ => rfl
  | 8, _ => rfl
  | 9, _ => rfl
  | 10, _ => rfl
  | 11, _ => rfl
  | 12, _ => rfl
  | 13, _ => rfl
  | 14, _ => rfl
  | 15, _ => rfl
  | j + 16, h => simp [nameWords] at h; omega

end Go.Proofs.YtbcepdacfmbekaaDoor
