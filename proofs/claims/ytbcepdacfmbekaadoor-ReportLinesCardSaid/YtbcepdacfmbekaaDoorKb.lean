/-
  Small laws that the walks of this claim use.
-/
import Derived.Test.YtbcepdacfmbekaaDoorShelf
import Derived.Test.YtbcepdacfmbekaaDoorPl
import Derived.Test.YtbcepdacfmbekaaDoorPs
import Derived.WalkKit
import Derived.WalkSpells
import Derived.WalkLawsBesides
import Derived.Handy
import Derived.Deep.DeepCutAuto
import Derived.Lib.ConvBytes
import Derived.Lib.Hide
namespace Go.Proofs.YtbcepdacfmbekaaDoor
open Go.RowKit

/-- The library's own variable internal/bytealg.MaxLen holds some int. -/
def Env (w : World) : Prop := ∃ m, w.cell? ⟨0, 0, none⟩ = some (.int .i64 m)

theorem Env.lt {w : World} (h : Env w) : 0 < w.heap.size := by
  obtain ⟨m, h⟩ := h
  exact World.block_lt_of_cell? w _ h

theorem Env.below {w w' : World} {B : Nat} (h : Env w) (hB : w.heap.size ≤ B) (hb : Below B w w') : Env w' := by
  have hl := h.lt
  obtain ⟨m, h⟩ := h
  exact ⟨m, (hb.cell (p := ⟨0, 0, none⟩) (by show 0 < B; omega)).trans h⟩

theorem Env.drewN {w : World} (h : Env w) (n : Nat) : Env (w.drewN n) := h.below (Nat.le_refl _) (below_drewN (Below.refl _ _) n)

theorem ba_get (t : List UInt8) (i : Nat) (h : i < (⟨t.toArray⟩ : ByteArray).size) : ((⟨t.toArray⟩ : ByteArray)[i]'h) = t.getD i 0 := by
  have h' : i < t.length := by rw [Lib.size_eq] at h; simpa using h
  show t.toArray[i]'h = _
  simp [List.getD, h']

/-- The cells of block b hold these strings. -/
def Strs (w : World) (b : Nat) (l : List (List UInt8)) : Prop := ∀ j, j < l.length → w.cell? ⟨b, j, none⟩ = some (.string ⟨(l.getD j []).toArray⟩)

theorem Strs.below {w w' : World} {b B : Nat} {l : List (List UInt8)} (h : Strs w b l) (hB : b < B) (hb : Below B w w') : Strs w' b l :=
  fun j hj => (hb.cell (p := ⟨b, j, none⟩) hB).trans (h j hj)

theorem convBytes (w : World) (t : List UInt8) : ∃ W1 c, (convert 9 40 (.string ⟨t.toArray⟩)).run Tryd.prog w = .ok (.slice (some ⟨w.heap.size, 0, none⟩) t.length c) W1 ∧ Below w.heap.size w W1 ∧ w.heap.size < W1.heap.size ∧ ∀ j, j < t.length → W1.cell? ⟨w.heap.size, j, none⟩ = some (.int .u8 (t.getD j 0).toNat) := by
  refine ⟨Lib.bytesWorld w 5 ⟨t.toArray⟩, _, Lib.run_convert_string_bytes w 9 40 5 ⟨t.toArray⟩ Tryd.underlying9 Tryd.underlying40 Tryd.underlying5, ⟨?_, ?_, ?_, ?_, ?_⟩, ?_, ?_⟩
  · rfl
  · rfl
  · rfl
  · rw [Lib.bytesWorld_size]; omega
  · intro k hk; exact Lib.bytesWorld_at_old w _ _ k hk
  · rw [Lib.bytesWorld_size]; omega
  · intro j hj; exact Lib.bytesWorld_cell w _ ⟨t.toArray⟩ j hj

end Go.Proofs.YtbcepdacfmbekaaDoor
