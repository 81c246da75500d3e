/-
  The walk of words.Split: of the empty line nil, of another its parts between spaces, in a new block.
-/
import Derived.Test.YtbcepdacfmbekaaDoorKb
namespace Go.Proofs.YtbcepdacfmbekaaDoor
open Go.RowKit

theorem words_Split_nil (w : World) : Calls Tryd.prog 31 #[.string ⟨#[]⟩] w fun e w' => e = .returned (.slice none 0 0) ∧ w = w' := by
  go_enter Tryd.func31, Tryd.ntmps31
  go_wp2
  go_ret
  exact ⟨rfl, rfl⟩

theorem words_Split_some (s : ByteArray) (w : World) (hE : Env w) (hs : s.size < 4294967281) (hne : s.toList.isEmpty = false) :
    Calls Tryd.prog 31 #[.string s] w fun e w' => e = .returned (.slice (some ⟨w.heap.size, 0, none⟩) (Pl.splitC 32 s.data.toList).length (Pl.splitC 32 s.data.toList).length) ∧ w' = w.alloc (.cells (((Pl.splitC 32 s.data.toList).map fun l => Value.string ⟨l.toArray⟩).toArray) 9) := by
  obtain ⟨m, hm⟩ := hE
  have h1 := Tryd.strings_Split s ⟨#[32]⟩ m w hs hm (by decide)
  have e1 : Lib.countB s ⟨#[32]⟩ = s.data.toList.count 32 := Pl.count_one 32 _ s.data.toList (Nat.le_refl _)
  rw [e1, Pl.splitB_one, ← Pl.splitC_length, List.map_map] at h1
  have H := Lib.hid h1
  clear h1 e1
  go_enter Tryd.func31, Tryd.ntmps31
  go_wp2_with fail
  refine H.out.mono ?_
  rintro e w' ⟨rfl, rfl⟩
  go_wp2
  go_ret
  exact ⟨rfl, rfl⟩

end Go.Proofs.YtbcepdacfmbekaaDoor
