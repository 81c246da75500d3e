/-
  The walk of words.Split once more: the words lie in a slice, whichever line.
-/
import Derived.Test.YtbcepdacfmbekaaDoorKWr
import Derived.Test.YtbcepdacfmbekaaDoorKSplit
namespace Go.Proofs.YtbcepdacfmbekaaDoor
open Go.RowKit

/-- What comes of Split: the words. -/
def SplPost (l : List UInt8) (w : World) (e : Ending) (w' : World) : Prop := ∃ v, e = .returned v ∧ Below w.heap.size w w' ∧ Sl w' (w.heap.size ≤ ·) v (strCells (Pl.split l))
theorem words_Split (s : ByteArray) (w : World) (hE : Env w) (hs : s.size < 4294967281) : Calls Tryd.prog 31 #[.string s] w (SplPost s.data.toList w) := by
  obtain ⟨l, hl⟩ : ∃ l, l = s.data.toList := ⟨_, rfl⟩
  have hsl : s = ⟨l.toArray⟩ := by rw [hl]
  cases l with
  | nil =>
    subst hsl
    exact (words_Split_nil w).mono fun e w' ⟨h1, h2⟩ => ⟨_, h1, by rw [h2]; exact Below.refl _ _, Sl.nil _ _⟩
  | cons a r =>
    refine (words_Split_some s w hE hs (by rw [Lib.toList_data, ← hl]; rfl)).mono fun e w' ⟨h1, h2⟩ => ?_
    have e : Pl.split s.data.toList = Pl.splitC 32 s.data.toList := by rw [← hl]; rfl
    refine ⟨_, h1, by rw [h2]; exact (Below.refl _ _).alloc (Nat.le_refl _) _, .inr ⟨w.heap.size, 0, (Pl.splitC 32 s.data.toList).length, by rw [e]; simp [strCells], by rw [e]; simp [strCells], Nat.le_refl _, by rw [h2]; simp, fun j x hx => ?_⟩⟩
    rw [e] at hx
    rw [h2, Nat.zero_add, World.cell?_alloc_new]
    simpa [strCells] using hx

end Go.Proofs.YtbcepdacfmbekaaDoor
