/-
  The walk of sheet.Field: the field of a name.
-/
import Derived.Test.YtbcepdacfmbekaaDoorKNames
namespace Go.Proofs.YtbcepdacfmbekaaDoor
open Go.RowKit

/-- A symbol's cells, by its numbers. -/
def symArr (vs : List Int) : Array Value := (vs.map (Value.int .i64)).toArray

/-- The field of a name, and whether there is one. -/
def Pl.field (vs : List Int) (name : List UInt8) : Int × Bool := if 0 ≤ Pl.indexOf name nameWords then (vs.getD (Pl.indexOf name nameWords).toNat 0, true) else (0, false)
def FieldPost (vs : List Int) (name : ByteArray) (w : World) (e : Ending) (w' : World) : Prop := e = .returned (.tuple #[.int .i64 (Pl.field vs name.data.toList).1, .bool (Pl.field vs name.data.toList).2]) ∧ Below w.heap.size w w'

theorem symTs_at (k : Nat) (hk : k < 16) : (symTs.getD k (false, 0)).2 = k := by
  match k, hk with
  | 0, _ => rfl
  | 1, _ => rfl
  | 2, _ => rfl
  | 3, _ => rfl
  | 4, _ => rfl
  | 5, _ => rfl
  | 6, _ => rfl
  | 7, _ => rfl
  | 8, _ => rfl
  | 9, _ => rfl
  | 10, _ => rfl
  | 11, _ => rfl
  | 12, _ => rfl
  | 13, _ => rfl
  | 14, _ => rfl
  | 15, _ => rfl
  | j + 16, h => omega

set_option maxHeartbeats 2000000 in
set_option maxRecDepth 100000 in
theorem sheet_Field (vs : List Int) (h16 : vs.length = 16) (name : ByteArray) (w : World) : Calls Tryd.prog 22 #[.agg (symArr vs), .string name] w (FieldPost vs name w) := by
  have hix : nameWords.length = 16 := rfl
  have hge := Pl.indexOf_ge name.data.toList nameWords
  have hlt := Pl.indexOf_lt name.data.toList nameWords
  rw [hix] at hlt
  have hbk := Blk.alloc (w := w) (symArr vs) 29
  have HB := Lib.hid hbk
  have hF : ∀ k, (hk : k < 16) → (symArr vs)[k]? = some (.int .i64 (vs.getD k 0)) := fun k hk => by
    simp [symArr, List.getD, h16, hk]
  have HF := Lib.hid hF
  clear hbk hix hF
  go_enter Tryd.func22, Tryd.ntmps22
  generalize symArr vs = cs at *
  go_wp2_with fail
  refine (sheet_names _).mono ?_
  rintro e w1 ⟨rfl, hb1⟩
  have HB1 := Lib.hid hb1
  have hsz1 := hb1.size
  clear hb1
  go_wp2_with fail
  have HI := Lib.hid (slices_Index_some w1.heap.size 16 nameWords name _ (strs_names w1 110) (by simp [nameWords]))
  refine HI.out.mono ?_
  rintro e w2 ⟨rfl, rfl⟩
  clear HI
  obtain ⟨W2, hW2⟩ : ∃ W2, W2 = w1.alloc (.cells nameCells 110) := ⟨_, rfl⟩
  have hsz2 : W2.heap.size = w1.heap.size + 1 := by rw [hW2, World.size_alloc]
  rw [World.size_alloc] at hsz1
  have hb2 : Below (w.alloc (.cells cs 29)).heap.size (w.alloc (.cells cs 29)) W2 := by rw [hW2]; exact HB1.out.alloc (by rw [World.size_alloc]; exact hsz1) _
  have HB2 := Lib.hid hb2
  have HBL : Hid (Below w.heap.size w W2) := ((Below.refl _ _).alloc (Nat.le_refl _) _).trans (hb2.mono (by rw [World.size_alloc]; omega))
  unfold nameCells at hW2
  rw [← hW2]
  clear hW2 hb2 HB1
  by_cases h0 : 0 ≤ Pl.indexOf name.data.toList nameWords
  · obtain ⟨k, hk⟩ := Int.eq_ofNat_of_zero_le h0
    have HFL := Lib.hid (show Pl.field vs name.data.toList = (vs.getD k 0, true) by unfold Pl.field; rw [if_pos h0, hk]; rfl)
    have hk16 : k < 16 := by omega
    rw [hk] at hlt hge h0 ⊢
    go_wp2_with fail
    refine (sheet_fields w.heap.size W2).mono ?_
    rintro e w3 ⟨v, rfl, hown, hb3⟩
    obtain ⟨p, hv, h3, h4, h5, h6⟩ := piece_of hown (by omega) (fieldCells_one w.heap.size)
    obtain ⟨pb, pn, pc, px⟩ := p
    simp only at h3 h4 h6
    subst h3 h4
    unfold Piece.val at hv
    simp only at hv
    subst hv
    rw [← symTs_cells] at h5
    have hn1 : w3.cell? ⟨pb, k * 2, none⟩ = _ := h5.cell _ _ (numCells_get w.heap.size symTs k (by simpa [symTs] using hk16)).1
    have hn2 : w3.cell? ⟨pb, k * 2 + 1, none⟩ = _ := h5.cell _ _ (numCells_get w.heap.size symTs k (by simpa [symTs] using hk16)).2
    rw [symTs_at k hk16] at hn1 hn2
    have hpl : pb < w3.heap.size := h5.lt
    have HB3 : Hid (Below w.heap.size w w3) := HBL.out.trans (hb3.mono (by omega))
    have hcv : w3.cell? ⟨w.heap.size, k, none⟩ = some (.int .i64 (vs.getD k 0)) := by
      rw [hb3.cell (p := ⟨w.heap.size, k, none⟩) (by show w.heap.size < _; omega), HB2.out.cell (p := ⟨w.heap.size, k, none⟩) (by simp), HB.out.cell k]
      exact HF.out k hk16
    have HCV := Lib.hid hcv
    have hw3 : w.heap.size < w3.heap.size := by have := hb3.size; omega
    clear hown hb3 h5 h6 hcv hsz1 hsz2
    generalize (symTs.getD k (false, 0)).1 = sh at *
    have HFD := Lib.hid (fun (e : Ending) (w' : World) (h : e = .returned (.tuple #[.int .i64 (vs.getD k 0), .bool true])) (hb : Below w.heap.size w w') => (⟨by rw [HFL.out]; exact h, hb⟩ : FieldPost vs name w e w'))
    clear HFL HF
    generalize vs.getD k 0 = x at *
    cases sh
    · simp only [Bool.false_eq_true, if_false] at hn1 hn2
      go_wp2_with fail
      refine (number_get_long w.heap.size k x _ HCV.out).mono ?_
      rintro e w4 ⟨rfl, hb4⟩
      have HB4 : Hid (Below w.heap.size w w4) := HB3.out.trans (hb4.mono (by omega))
      clear hb4 hn1 hn2
      go_wp2
      go_ret2
      exact HFD.out _ _ rfl HB4.out
    · simp only [if_true] at hn1 hn2
      go_wp2_with fail
      refine (number_get_short w.heap.size k x _ HCV.out).mono ?_
      rintro e w4 ⟨rfl, hb4⟩
      have HB4 : Hid (Below w.heap.size w w4) := HB3.out.trans (hb4.mono (by omega))
      clear hb4 hn1 hn2
      go_wp2
      go_ret2
      exact HFD.out _ _ rfl HB4.out
  · have hd : Pl.indexOf name.data.toList nameWords = -1 := by omega
    have HFL := Lib.hid (show Pl.field vs name.data.toList = (0, false) by unfold Pl.field; rw [if_neg h0])
    rw [hd]
    clear hd hge hlt h0
    go_wp2
    go_ret2
    exact ⟨by rw [HFL.out]; rfl, HBL.out⟩

end Go.Proofs.YtbcepdacfmbekaaDoor
