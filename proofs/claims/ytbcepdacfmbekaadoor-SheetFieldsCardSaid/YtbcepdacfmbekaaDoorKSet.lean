/-
  The walks of number.get and number.set (package sheet): a field read and written through one of two pointers.
-/
import Derived.Test.YtbcepdacfmbekaaDoorKb
namespace Go.Proofs.YtbcepdacfmbekaaDoor
open Go.RowKit

theorem number_get_long (b o : Nat) (v : Int) (w : World) (hc : w.cell? ⟨b, o, none⟩ = some (.int .i64 v)) :
    Calls Tryd.prog 78 #[.agg #[.pointer (some ⟨b, o, none⟩), .pointer none]] w fun e w' => e = .returned (.int .i64 v) ∧ Below w.heap.size w w' := by
  have hb : b < w.heap.size := World.block_lt_of_cell? w _ hc
  go_enter Tryd.func78, Tryd.ntmps78
  go_wp2
  go_ret
  exact ⟨rfl, (Below.refl _ _).alloc (Nat.le_refl _) _⟩

theorem number_get_short (b o : Nat) (v : Int) (w : World) (hc : w.cell? ⟨b, o, none⟩ = some (.int .i64 v)) :
    Calls Tryd.prog 78 #[.agg #[.pointer none, .pointer (some ⟨b, o, none⟩)]] w fun e w' => e = .returned (.int .i64 v) ∧ Below w.heap.size w w' := by
  have hb : b < w.heap.size := World.block_lt_of_cell? w _ hc
  go_enter Tryd.func78, Tryd.ntmps78
  go_wp2
  go_ret
  exact ⟨rfl, (Below.refl _ _).alloc (Nat.le_refl _) _⟩

theorem number_set_long (b o : Nat) (v u : Int) (w : World) (hc : w.cell? ⟨b, o, none⟩ = some (.int .i64 v)) (hz : w.frozen? ⟨b, o, none⟩ = false) :
    Calls Tryd.prog 127 #[.agg #[.pointer (some ⟨b, o, none⟩), .pointer none], .int .i64 u] w fun e w' => e = .returned (.tuple #[]) ∧ Below w.heap.size (w.setCell ⟨b, o, none⟩ (.int .i64 u)) w' := by
  have hb : b < w.heap.size := World.block_lt_of_cell? w _ hc
  go_enter Tryd.func127, Tryd.ntmps127
  go_wp2
  go_end0
  exact ⟨rfl, (Below.refl _ _).alloc (by simp) _⟩

theorem number_set_short (b o : Nat) (v u : Int) (h0 : 0 ≤ u) (h1 : u ≤ 9223372036854775807) (w : World) (hc : w.cell? ⟨b, o, none⟩ = some (.int .i64 v)) (hz : w.frozen? ⟨b, o, none⟩ = false) :
    Calls Tryd.prog 127 #[.agg #[.pointer none, .pointer (some ⟨b, o, none⟩)], .int .i64 u] w fun e w' => e = .returned (.tuple #[]) ∧ Below w.heap.size (w.setCell ⟨b, o, none⟩ (.int .i64 u)) w' := by
  have hb : b < w.heap.size := World.block_lt_of_cell? w _ hc
  go_enter Tryd.func127, Tryd.ntmps127
  go_wp2
  refine bodyPost_ret (results_none rfl _ _ _) rfl ?_
  exact ⟨rfl, (Below.refl _ _).alloc (by simp) _⟩

end Go.Proofs.YtbcepdacfmbekaaDoor
