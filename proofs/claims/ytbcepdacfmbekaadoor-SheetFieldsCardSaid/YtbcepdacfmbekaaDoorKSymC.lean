/-
  The walk of the closure of sheet.Symbol: sixteen numbers out of a line.
-/
import Derived.Test.YtbcepdacfmbekaaDoorKRead2
import Derived.Test.YtbcepdacfmbekaaDoorKRow
namespace Go.Proofs.YtbcepdacfmbekaaDoor
open Go.RowKit

def symTs : List (Bool × Nat) := [(false, 0), (false, 1), (true, 2), (true, 3), (false, 4), (true, 5), (false, 6), (false, 7), (false, 8), (true, 9), (true, 10), (true, 11), (true, 12), (true, 13), (true, 14), (true, 15)]
theorem symTs_cells (b : Nat) : numCells b symTs = fieldCells b := rfl
def zero16 : Array Value := #[.int .i64 0, .int .i64 0, .int .i64 0, .int .i64 0, .int .i64 0, .int .i64 0, .int .i64 0, .int .i64 0, .int .i64 0, .int .i64 0, .int .i64 0, .int .i64 0, .int .i64 0, .int .i64 0, .int .i64 0, .int .i64 0]
theorem zero16_ints : IntsAt symTs zero16 := by
  intro t ht
  simp [symTs] at ht
  rcases ht with rfl | rfl | rfl | rfl | rfl | rfl | rfl | rfl | rfl | rfl | rfl | rfl | rfl | rfl | rfl | rfl <;> exact ⟨0, rfl⟩

def SymCPost (line : ByteArray) (b : Nat) (w : World) (e : Ending) (w' : World) : Prop :=
  w.grownBy w' (some b) ∧ match Pl.symbol line.data.toList with
    | some vs => e = .returned (.tuple #[]) ∧ Blk w' b (setAll zero16 symTs vs) 29
    | none => e = malformed ∧ ∃ cs', Blk w' b cs' 29

def symV (line : ByteArray) (b : Nat) (d : Nat) : Value → World → Prop :=
  match d with
  | 2 => fun v w => ∃ p : Piece, v = p.val ∧ p.n = 16 ∧ p.xs = fieldCells b ∧ p.ok w ∧ p.b ≠ b
  | 3 => fun v w => ∃ p : Piece, v = .agg #[.string ⟨Pl.symbolWord.toArray⟩, p.val] ∧ p.n = 16 ∧ p.xs = fieldCells b ∧ p.ok w ∧ p.b ≠ b
  | _ => fun v _ => v = .string line

theorem symV_mono (line : ByteArray) (b d : Nat) (v : Value) (w w' : World) (hb : Below w.heap.size w w') (h : symV line b d v w) : symV line b d v w' := by
  unfold symV at h ⊢
  split at h
  · obtain ⟨p, h1, h2, h3, h4, h5⟩ := h; exact ⟨p, h1, h2, h3, h4.below hb, h5⟩
  · obtain ⟨p, h1, h2, h3, h4, h5⟩ := h; exact ⟨p, h1, h2, h3, h4.below hb, h5⟩
  · exact h

theorem piece_of {w : World} {B n : Nat} {v : Value} {xs : List Value} (h : w.ownsRow B 115 2 v n xs) (h0 : 0 < n) (h1 : ∀ u ∈ xs, u.oneCell' = true) : ∃ p : Piece, v = p.val ∧ p.n = n ∧ p.xs = xs ∧ p.ok w ∧ B ≤ p.b := by
  obtain ⟨p, rfl, h2, h3, h4⟩ := numRow_of h h0 h1
  exact ⟨p, rfl, h2, h3, h4, (h.lt p.b rfl).1⟩

theorem fieldCells_one (b : Nat) : ∀ u ∈ fieldCells b, u.oneCell' = true := by
  simp [fieldCells, longCells, shortCells, ptr, Value.oneCell']

theorem symC_none {line : ByteArray} {b : Nat} {w w' : World} (h : Pl.symbol line.data.toList = none) (hg : w.grownBy w' (some b)) {cs' : Array Value} (hb : Blk w' b cs' 29) : SymCPost line b w malformed w' := by
  unfold SymCPost
  rw [h]
  exact ⟨hg, rfl, cs', hb⟩

set_option maxHeartbeats 2000000 in
set_option maxRecDepth 100000 in
theorem symbol_closure (line : ByteArray) (bs b : Nat) (w : World) (hE : Env w) (hl : w.cell? ⟨bs, 0, none⟩ = some (.string line)) (hb : Blk w b zero16 29) (hs : line.size < 1000000000) :
    Calls Tryd.prog 73 #[.pointer (some ⟨b, 0, none⟩), .pointer (some ⟨bs, 0, none⟩)] w (SymCPost line b w) := by
  have hlt : bs < w.heap.size := World.block_lt_of_cell? w _ hl
  have hbl := hb.lt
  go_enter Tryd.func73, Tryd.ntmps73
  go_wp2
  refine wp_region_last (by kernel_rfl) (n := 6) rfl (by kernel_rfl) 3 rfl (by kernel_rfl) [[], [2], []] (by kernel_rfl) [0, 1] (by kernel_rfl) [2, 3, 4] (by kernel_rfl) _ rfl (symV line b) (fun w' => Below w.heap.size w w') (fun w w' => Below w.heap.size w w') (symV_mono line b) (Below.refl _ _).drew ?_ ?_
  · simp only [List.take_succ_cons, List.take_zero, AllSteps]
    refine ⟨?_, ?_, ?_, trivial⟩
    all_goals (intro a' w' hI hd0 hnw hds K hK; clear hd0)
    all_goals (have h0 : a'.tmps.getD 0 undef = .pointer (some ⟨b, 0, none⟩) := hnw 0 (by simp); have h1 : a'.tmps.getD 1 undef = .pointer (some ⟨bs, 0, none⟩) := hnw 1 (by simp); clear hnw)
    · go_simp
      refine (sheet_fields b w').mono ?_
      rintro e w1 ⟨v, rfl, hown, hbel⟩
      refine hK v w1 ?_ (bThen hI hbel) hbel
      intro d hd; cases hd
      obtain ⟨p, h2, h3, h4, h5, h6⟩ := piece_of hown (by omega) (fieldCells_one b)
      exact ⟨p, h2, h3, h4, h5, by have := hI.size; omega⟩
    · obtain ⟨p, h2, h3, h4, h5, h6⟩ := (show symV line b 2 _ _ from hds 2 (by simp))
      have h2' := getD_form h2
      unfold Piece.val at h2'
      have H3 := Lib.hid h3
      clear h3 h2
      go_simp
      refine hK _ _ ?_ hI (Below.refl _ _)
      intro d hd; cases hd
      exact ⟨p, rfl, H3.out, h4, h5, h6⟩
    · have hc : w'.cell? ⟨bs, 0, none⟩ = some (.string line) := (hI.cell (p := ⟨bs, 0, none⟩) hlt).trans hl
      go_simp
      refine hK _ _ ?_ hI (Below.refl _ _)
      intro d hd; cases hd
      rfl
  · intro a' w' hI hsz hd hnw hds
    obtain ⟨p, h2, h3, h4, h5, h6⟩ := (show symV line b 3 _ _ from hds 3 (by simp))
    have h7 : a'.tmps.getD 4 undef = .string line := hds 4 (by simp)
    have hd' : a'.defers = [] := hd
    clear hds hnw hsz hd
    have hE' : Env w' := hE.below (Nat.le_refl _) hI
    have hb' : Blk w' b zero16 29 := hb.below hbl hI
    obtain ⟨pb, pn, pc, px⟩ := p
    simp only at h3 h4 h6
    subst h3 h4
    unfold Piece.val at h2
    by_cases hne : line.toList.isEmpty = false
    · have hread := part_read Pl.symbolWord line b pb pc symTs zero16 29 w' hE' hb' h6 h5.lt (by rw [symTs_cells]; exact h5.cell) zero16_ints (by omega) (by simp [symTs]) hne
      have HR := Lib.hid hread
      clear hread hE' hb' h5
      go_simp
      refine HR.out.mono ?_
      rintro e w4 ⟨hg, hcase⟩
      have hg2 : w.grownBy w4 (some b) := (grownBy_of_below' hI _).trans hg
      change (match Pl.symbol line.data.toList with
        | some vs => e = .returned (.tuple #[]) ∧ Blk w4 b (setAll zero16 symTs vs) 29
        | none => e = malformed ∧ ∃ cs', Blk w4 b cs' 29) at hcase
      cases hsy : Pl.symbol line.data.toList with
      | none =>
        rw [hsy] at hcase
        obtain ⟨rfl, cs', hbk⟩ := hcase
        exact ⟨hd', symC_none hsy hg2 hbk⟩
      | some vs =>
        have hpost : SymCPost line b w e w4 := ⟨hg2, by rw [hsy] at hcase ⊢; exact hcase⟩
        rw [hsy] at hcase
        obtain ⟨rfl, hbk⟩ := hcase
        exact ⟨rfl, .tuple #[], by simp [results, Tryd.results73, go_sem], hpost⟩
    · have hl0 : line.data.toList = [] := by
        rw [Lib.toList_data] at hne
        simpa using hne
      have hle : line = ⟨#[]⟩ := by
        rw [← Lib.mk_data line, hl0]
      have hsy : Pl.symbol line.data.toList = none := by rw [hl0]; rfl
      subst hle
      have HR := Lib.hid (part_read_nil Pl.symbolWord pb pc 16 w' (by omega))
      clear hE' h5
      go_simp
      refine HR.out.mono ?_
      rintro e w4 ⟨rfl, hg⟩
      exact ⟨hd', symC_none hsy ((grownBy_of_below' hI _).trans (grownBy_but hg _)) (hb'.grown (r := none) (by simp) hg)⟩

end Go.Proofs.YtbcepdacfmbekaaDoor
