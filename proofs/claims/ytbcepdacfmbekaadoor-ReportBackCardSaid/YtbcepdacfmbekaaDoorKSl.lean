/-
  Slices that lie in memory: what they read as, in a world that grows.
-/
import Derived.Test.YtbcepdacfmbekaaDoorKBlk
import Derived.Deep.AppendLies
namespace Go.Proofs.YtbcepdacfmbekaaDoor
open Go.RowKit

/-- The slice v reads as the cells cs; its row lies in a block of which ok holds. -/
def Sl (w : World) (ok : Nat → Prop) (v : Value) (cs : List Value) : Prop :=
  (v = .slice none 0 0 ∧ cs = []) ∨ ∃ g o c, v = .slice (some ⟨g, o, none⟩) cs.length c ∧ cs.length ≤ c ∧ ok g ∧ g < w.heap.size ∧ ∀ j x, cs[j]? = some x → w.cell? ⟨g, o + j, none⟩ = some x

theorem Sl.nil (w : World) (ok : Nat → Prop) : Sl w ok (.slice none 0 0) [] := .inl ⟨rfl, rfl⟩
theorem Sl.mono {w : World} {ok ok' : Nat → Prop} {v : Value} {cs : List Value} (h : Sl w ok v cs) (hi : ∀ g, ok g → ok' g) : Sl w ok' v cs := by
  rcases h with h | ⟨g, o, c, h1, h2, h3, h4, h5⟩
  · exact .inl h
  · exact .inr ⟨g, o, c, h1, h2, hi g h3, h4, h5⟩
theorem Sl.grown {w w' : World} {r : Option Nat} {ok : Nat → Prop} {v : Value} {cs : List Value} (h : Sl w ok v cs) (hr : ∀ g, ok g → some g ≠ r) (hg : w.grownBy w' r) : Sl w' ok v cs := by
  rcases h with h | ⟨g, o, c, h1, h2, h3, h4, h5⟩
  · exact .inl h
  · exact .inr ⟨g, o, c, h1, h2, h3, Nat.lt_of_lt_of_le h4 hg.size, fun j x hx => (hg.cell_far ⟨g, o + j, none⟩ h4 (hr g h3)).trans (h5 j x hx)⟩
theorem Sl.below {w w' : World} {ok : Nat → Prop} {v : Value} {cs : List Value} (h : Sl w ok v cs) (hb : Below w.heap.size w w') : Sl w' ok v cs :=
  h.grown (r := none) (fun _ _ => by simp) (grownBy_of_below' hb none)
theorem Sl.of_row {w : World} {B n : Nat} {e : TypeId} {v : Value} {xs : List Value} (h : w.ownsRow B e 1 v n xs) (hn : xs.length = n) : Sl w (B ≤ ·) v xs := by
  have hl := h.lt
  have hcells := fun (g : Nat) (hg : v.ownBlock = some g) => h.cells (g := g) hg
  rcases h.2 with ⟨hv, h0⟩ | ⟨g, c, cur, hv, _, _, hcap, _⟩
  · left
    subst hv
    exact ⟨rfl, List.length_eq_zero_iff.1 (by omega)⟩
  · right
    subst hv
    refine ⟨g, 0, c, by rw [hn], by omega, (hl g rfl).1, (hl g rfl).2, fun j x hx => ?_⟩
    · have := hcells g rfl j x hx
      rw [show (⟨g, 0, none⟩ : Addr).add j = ⟨g, j, none⟩ by unfold Addr.add; split <;> simp_all] at this
      rw [Nat.zero_add]; exact this

end Go.Proofs.YtbcepdacfmbekaaDoor
