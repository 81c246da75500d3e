/-
  The walks of longs and shorts (package sheet): a list of fields out of a list of pointers.
-/
import Derived.Test.YtbcepdacfmbekaaDoorKb
namespace Go.Proofs.YtbcepdacfmbekaaDoor
open Go.RowKit

/-- A pointer that is no nil. -/
abbrev ptr (p : Nat × Nat) : Value := .pointer (some ⟨p.1, p.2, none⟩)
def longCells (ps : List (Nat × Nat)) : List Value := ps.flatMap fun p => [ptr p, .pointer none]
def shortCells (ps : List (Nat × Nat)) : List Value := ps.flatMap fun p => [.pointer none, ptr p]
theorem longCells_snoc (ps : List (Nat × Nat)) (p : Nat × Nat) : longCells (ps ++ [p]) = longCells ps ++ [ptr p, .pointer none] := by simp [longCells]
theorem shortCells_snoc (ps : List (Nat × Nat)) (p : Nat × Nat) : shortCells (ps ++ [p]) = shortCells ps ++ [.pointer none, ptr p] := by simp [shortCells]

theorem take_snoc {α : Type} (l : List α) (k : Nat) (d : α) (h : k < l.length) : l.take (k + 1) = l.take k ++ [l.getD k d] := by
  rw [List.take_succ_eq_append_getElem h]; simp [List.getD, h]

theorem numberInfo : (Tryd.prog.info? 115).map (fun i => (i.zero, i.size, i.bytes)) = some (some (.agg #[.pointer none, .pointer none]), 2, 16) := by kernel_rfl

def RowPost (e : TypeId) (size n : Nat) (xs : List Value) (w : World) (en : Ending) (w' : World) : Prop := ∃ v, en = .returned v ∧ w'.ownsRow w.heap.size e size v n xs ∧ Below w.heap.size w w'

set_option maxHeartbeats 1000000 in
set_option maxRecDepth 100000 in
theorem sheet_longs (g c : Nat) (ps : List (Nat × Nat)) (w : World) (hg : g < w.heap.size) (hl : ps.length ≤ 1000) (h : ∀ j, j < ps.length → w.cell? ⟨g, j, none⟩ = some (ptr (ps.getD j (0, 0)))) :
    Calls Tryd.prog 68 #[.slice (some ⟨g, 0, none⟩) ps.length c] w (RowPost 115 2 ps.length (longCells ps) w) := by
  have HH := Lib.hid h
  clear h
  obtain ⟨inf, hinf, hinf2⟩ := Option.map_eq_some_iff.1 numberInfo
  simp only [Prod.mk.injEq] at hinf2
  obtain ⟨hz, hs, hby⟩ := hinf2
  have HI := Lib.hid hinf
  have HZ := Lib.hid hz
  have HS := Lib.hid hs
  have HB := Lib.hid hby
  clear hinf hz hs hby
  go_enter Tryd.func68, Tryd.ntmps68
  go_wp2
  go_loopw [2, 7] (fun v i wr => ∃ k : Nat, k ≤ ps.length ∧ i = .int .i64 k ∧ wr.ownsRow w.heap.size 115 2 v k (longCells (ps.take k)) ∧ Below w.heap.size w wr) (fun _ i _ => ps.length - (intOf i).toNat)
  case atStart => exact ⟨0, Nat.zero_le _, rfl, by simpa [longCells] using World.ownsRow_nil w w.heap.size 115 2, Below.refl _ _⟩
  case round =>
    obtain ⟨k, hk, rfl, hown, hbel⟩ := hrel
    by_cases hlt : k < ps.length
    · have hc : wr.cell? ⟨g, k, none⟩ = some (ptr (ps.getD k (0, 0))) := (hbel.cell (p := ⟨g, k, none⟩) hg).trans (HH.out k hlt)
      have hts := Lib.hid (take_snoc ps k (0, 0) hlt)
      have hsz := hbel.size
      generalize ps.getD k (0, 0) = p at *
      go_wp2_with (at_builtin; go_must (refine wpList_append_own _ rfl (.tmp 11) (.tmp 14) 97 rfl w.heap.size 115 inf (.agg #[.pointer none, .pointer none]) 2 16 Tryd.underlying97 HI.out HZ.out HS.out HB.out rfl (by decide) _ k _ rfl (World.ownsRow.alloc hown _) ⟨wr.heap.size, 0, none⟩ 1 1 [ptr p, .pointer none] rfl rfl (cell_two_new _ _ _ _) (by intro u hu; simp at hu; rcases hu with rfl | rfl <;> rfl) (by unfold maxLen; omega) (by omega) (by simp; omega) ?_); intro v' w' hown' hgrow' hnn)
      go_roundw
      case rel => exact ⟨k + 1, by omega, by go_num, by rw [hts.out, longCells_snoc]; exact hown', (hbel.alloc hsz _).grown hgrow' (by simp; omega) (fun k hk => (hown.lt k hk).1)⟩
      case measure => simp [intOf]; omega
    · obtain rfl : k = ps.length := by omega
      rw [List.take_length] at hown
      go_wp2
      go_ret
      exact ⟨_, rfl, hown, hbel⟩

set_option maxHeartbeats 1000000 in
set_option maxRecDepth 100000 in
theorem sheet_shorts (g c : Nat) (ps : List (Nat × Nat)) (w : World) (hg : g < w.heap.size) (hl : ps.length ≤ 1000) (h : ∀ j, j < ps.length → w.cell? ⟨g, j, none⟩ = some (ptr (ps.getD j (0, 0)))) :
    Calls Tryd.prog 129 #[.slice (some ⟨g, 0, none⟩) ps.length c] w (RowPost 115 2 ps.length (shortCells ps) w) := by
  have HH := Lib.hid h
  clear h
  obtain ⟨inf, hinf, hinf2⟩ := Option.map_eq_some_iff.1 numberInfo
  simp only [Prod.mk.injEq] at hinf2
  obtain ⟨hz, hs, hby⟩ := hinf2
  have HI := Lib.hid hinf
  have HZ := Lib.hid hz
  have HS := Lib.hid hs
  have HB := Lib.hid hby
  clear hinf hz hs hby
  go_enter Tryd.func129, Tryd.ntmps129
  go_wp2
  go_loopw [2, 7] (fun v i wr => ∃ k : Nat, k ≤ ps.length ∧ i = .int .i64 k ∧ wr.ownsRow w.heap.size 115 2 v k (shortCells (ps.take k)) ∧ Below w.heap.size w wr) (fun _ i _ => ps.length - (intOf i).toNat)
  case atStart => exact ⟨0, Nat.zero_le _, rfl, by simpa [shortCells] using World.ownsRow_nil w w.heap.size 115 2, Below.refl _ _⟩
  case round =>
    obtain ⟨k, hk, rfl, hown, hbel⟩ := hrel
    by_cases hlt : k < ps.length
    · have hc : wr.cell? ⟨g, k, none⟩ = some (ptr (ps.getD k (0, 0))) := (hbel.cell (p := ⟨g, k, none⟩) hg).trans (HH.out k hlt)
      have hts := Lib.hid (take_snoc ps k (0, 0) hlt)
      have hsz := hbel.size
      generalize ps.getD k (0, 0) = p at *
      go_wp2_with (at_builtin; go_must (refine wpList_append_own _ rfl (.tmp 11) (.tmp 14) 97 rfl w.heap.size 115 inf (.agg #[.pointer none, .pointer none]) 2 16 Tryd.underlying97 HI.out HZ.out HS.out HB.out rfl (by decide) _ k _ rfl (World.ownsRow.alloc hown _) ⟨wr.heap.size, 0, none⟩ 1 1 [.pointer none, ptr p] rfl rfl (cell_two_new _ _ _ _) (by intro u hu; simp at hu; rcases hu with rfl | rfl <;> rfl) (by unfold maxLen; omega) (by omega) (by simp; omega) ?_); intro v' w' hown' hgrow' hnn)
      go_roundw
      case rel => exact ⟨k + 1, by omega, by go_num, by rw [hts.out, shortCells_snoc]; exact hown', (hbel.alloc hsz _).grown hgrow' (by simp; omega) (fun k hk => (hown.lt k hk).1)⟩
      case measure => simp [intOf]; omega
    · obtain rfl : k = ps.length := by omega
      rw [List.take_length] at hown
      go_wp2
      go_ret
      exact ⟨_, rfl, hown, hbel⟩

end Go.Proofs.YtbcepdacfmbekaaDoor
