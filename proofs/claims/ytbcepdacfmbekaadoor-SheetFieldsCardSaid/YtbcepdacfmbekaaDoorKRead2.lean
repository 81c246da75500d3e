/-
  The walk of part.read (package sheet) at the empty line.
-/
import Derived.Test.YtbcepdacfmbekaaDoorKRead
namespace Go.Proofs.YtbcepdacfmbekaaDoor
open Go.RowKit

set_option maxHeartbeats 2000000 in
set_option maxRecDepth 100000 in
theorem part_read_nil (word : List UInt8) (g c n : Nat) (w : World) (hn : n ≤ 1000) :
    Calls Tryd.prog 69 #[.agg #[.string ⟨word.toArray⟩, .slice (some ⟨g, 0, none⟩) n c], .string ⟨#[]⟩] w fun e w' => e = malformed ∧ w.grownBy w' none := by
  go_enter Tryd.func69, Tryd.ntmps69
  go_wp2_with fail
  refine (words_Split_nil _).mono ?_
  rintro e w1 ⟨rfl, rfl⟩
  obtain ⟨W, hW⟩ : ∃ W, W = w.alloc (.cells #[.string ⟨word.toArray⟩, .slice (some ⟨g, 0, none⟩) n c] 101) := ⟨_, rfl⟩
  have hgr : w.grownBy W none := by rw [hW]; exact World.grownBy_alloc _ _ _
  have hp1 : W.cell? ⟨w.heap.size, 1, none⟩ = some (.slice (some ⟨g, 0, none⟩) n c) := by rw [hW]; simp
  have hwr : IntKind.i64.wrap ((n : Int) + 1) = (n : Int) + 1 := by rw [IntKind.wrap_i64]; omega
  have hne2 : (0 == (n : Int) + 1) = false := by simp; omega
  rw [← hW]
  clear hW
  go_wp2_with fail
  go_still_tail 15, (by kernel_rfl)
  change wpList _ _ _ _ _ W.drew
  go_wp2_with (go_at_call 66; refine (sheet_must_false _).mono ?_; rintro e w' ⟨rfl, rfl⟩; unfold malformed)
  exact ⟨rfl, rfl, grownBy_drew hgr⟩

end Go.Proofs.YtbcepdacfmbekaaDoor
