/-
  The walks of sheet.Names and sheet.Field.
-/
import Derived.Test.YtbcepdacfmbekaaDoorKSym
import Derived.Test.YtbcepdacfmbekaaDoorShelf
namespace Go.Proofs.YtbcepdacfmbekaaDoor
open Go.RowKit

def nameCells : Array Value := #[.string ⟨#[103, 114, 105, 100]⟩, .string ⟨#[114, 101, 102]⟩, .string ⟨#[115, 116, 97, 116, 105, 99]⟩, .string ⟨#[100, 121, 110, 97, 109, 105, 99]⟩, .string ⟨#[119, 105, 110, 100, 111, 119]⟩, .string ⟨#[109, 111, 118, 101]⟩, .string ⟨#[108, 105, 109, 105, 116]⟩, .string ⟨#[112, 97, 117, 115, 101]⟩, .string ⟨#[101, 120, 116]⟩, .string ⟨#[109, 97, 120, 101, 120, 116]⟩, .string ⟨#[99, 111, 108, 108, 97, 114]⟩, .string ⟨#[119, 105, 100, 101, 110]⟩, .string ⟨#[115, 101, 108, 102]⟩, .string ⟨#[115, 108, 111, 116, 115]⟩, .string ⟨#[108, 101, 118, 101, 108, 115]⟩, .string ⟨#[115, 104, 111, 114, 116]⟩]
theorem nameCells_size : (Tryd.prog.info? 110).map (·.size) = some nameCells.size := by kernel_rfl
theorem nameCells_one : nameCells.all (·.oneCell') = true := by kernel_rfl
def emptyNames : Array Value := Array.replicate 16 (.string ⟨#[]⟩)

/-- A slice of the sixteen names. -/
def NamesAt (w : World) (B : Nat) (v : Value) : Prop := ∃ b c, v = .slice (some ⟨b, 0, none⟩) 16 c ∧ B ≤ b ∧ b < w.heap.size ∧ Strs w b nameWords

theorem nameBas_get (j : Nat) (hj : j < 16) : (Value.string ((nameWords.map fun l => (⟨l.toArray⟩ : ByteArray)).getD j ByteArray.empty)) = .string ⟨(nameWords.getD j []).toArray⟩ := by
  match j, hj with
  | 0, _ => rfl
  | 1, _ => rfl
  | 2, _ => rfl
  | 3, _ => rfl
  | 4, _ => rfl
  | 5, _ => rfl
  | 6, _ => rfl
  | 7, _ => rfl
  | 8, _ => rfl
  | 9, _ => rfl
  | 10, _ => rfl
  | 11, _ => rfl
  | 12, _ => rfl
  | 13, _ => rfl
  | 14, _ => rfl
  | 15, _ => rfl
  | j + 16, h => omega

theorem namesAt_of {w : World} {B : Nat} {v : Value} {xs : List Value} (hx : xs = (nameWords.map fun l => (⟨l.toArray⟩ : ByteArray)).map Value.string) (h : w.ownsRow B 9 1 v 16 xs) : NamesAt w B v := by
  have hl := h.lt
  have hcells := fun (g : Nat) (hg : v.ownBlock = some g) => h.cells (g := g) hg
  rcases h.2 with ⟨_, hn⟩ | ⟨g, cap, cur, rfl, _⟩
  · omega
  · refine ⟨g, cap, rfl, (hl g rfl).1, (hl g rfl).2, fun j hj => ?_⟩
    have := hcells g rfl j (Value.string ⟨(nameWords.getD j []).toArray⟩) (by
      rw [hx, ← nameBas_get j hj]
      have hj' : j < 16 := hj
      simp only [List.getElem?_map]
      rw [List.getD_eq_getElem?_getD, List.getElem?_map]
      have : nameWords[j]? = some (nameWords[j]'hj) := List.getElem?_eq_getElem hj
      rw [this]; rfl)
    rw [show (⟨g, 0, none⟩ : Addr).add j = ⟨g, j, none⟩ by unfold Addr.add; split <;> simp_all] at this
    exact this

theorem NamesAt.below {w w' : World} {B : Nat} {v : Value} (h : NamesAt w B v) (hb : Below w.heap.size w w') : NamesAt w' B v := by
  obtain ⟨b, c, rfl, h1, h2, h3⟩ := h
  exact ⟨b, c, rfl, h1, Nat.lt_of_lt_of_le h2 hb.size, h3.below h2 hb⟩

set_option maxHeartbeats 2000000 in
set_option maxRecDepth 100000 in
theorem sheet_Names (w : World) : Calls Tryd.prog 21 #[] w fun e w' => ∃ v, e = .returned v ∧ NamesAt w' w.heap.size v ∧ Below w.heap.size w w' := by
  go_enter Tryd.func21, Tryd.ntmps21
  go_wp2_with fail
  refine (sheet_names w).mono ?_
  rintro e w1 ⟨rfl, hb1⟩
  go_wp2_with fail
  refine (Tryd.slices_Clone_string w1.heap.size 0 16 16 (nameWords.map fun l => (⟨l.toArray⟩ : ByteArray)) _ (by simp [nameWords]) (by omega) (fun j hj => ?_)).mono ?_
  · have hj' : j < 16 := by simpa [nameWords] using hj
    rw [nameBas_get j hj', Nat.zero_add]
    exact strs_names w1 110 j hj'
  rintro e w2 ⟨v, rfl, hown, _, hb2⟩
  have hsz := hb1.size
  have hsz2 := hb2.size
  rw [World.size_alloc] at hsz2
  go_wp2
  go_ret
  refine ⟨v, rfl, namesAt_of (by rw [List.take_of_length_le (by simp [nameWords])]) (ownsRow_base (by rw [World.size_alloc]; omega) hown), ?_⟩
  exact (hb1.alloc hsz _).trans (hb2.mono (by rw [World.size_alloc]; omega))

end Go.Proofs.YtbcepdacfmbekaaDoor
