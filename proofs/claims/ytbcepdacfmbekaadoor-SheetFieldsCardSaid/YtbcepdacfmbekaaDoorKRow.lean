/-
  The walk of sheet.Row: the row of any line, or that it is none.
-/
import Derived.Test.YtbcepdacfmbekaaDoorKRowC
namespace Go.Proofs.YtbcepdacfmbekaaDoor
open Go.RowKit

/-- try, of a closure that writes into block b alone. -/
theorem sheet_try_grown (fn : FuncId) (cap : Array Value) (hcf : ∀ W : World, (callFunc fn cap).run Tryd.prog W = .ok (.enter fn cap) W) (w : World) (b : Nat) (hb : b < w.heap.size) (R : Ending → World → Prop) (h : Calls Tryd.prog fn cap (w.alloc (.cells #[.int .i64 0] 25)) R)
    (hR : ∀ e w', R e w' → (e = .returned (.tuple #[]) ∨ e = malformed) ∧ (w.alloc (.cells #[.int .i64 0] 25)).grownBy w' (some b)) :
    Calls Tryd.prog 62 #[.func (.func fn) #[] cap] w fun e w' => ∃ e0 w2, R e0 w2 ∧ w.grownBy w' (some b) ∧ (∀ cs T, Blk w2 b cs T → Blk w' b cs T) ∧ ((e0 = .returned (.tuple #[]) ∧ e = .returned (.int .i64 0)) ∨ (e0 = malformed ∧ e = .returned (.int .i64 4))) := by
  have hg : ∀ (w2 : World) (v : Value), (w.alloc (.cells #[.int .i64 0] 25)).grownBy w2 (some b) → w.grownBy (w2.setCell ⟨w.heap.size, 0, none⟩ v) (some b) := fun w2 v h => by
    have h1 := (World.grownBy_alloc w (.cells #[.int .i64 0] 25) (some b)).trans h
    refine ⟨h1.os, h1.tape, h1.output, ?_, fun k hk hne => ?_⟩
    · rw [World.size_setCell]; exact h1.size
    · rw [Below.heap_setCell _ _ _ _ (by show k ≠ w.heap.size; omega)]
      exact h1.block k hk hne
  refine (sheet_try fn cap hcf w R h fun e w' hr => ?_).mono ?_
  · obtain ⟨he, hgr⟩ := hR e w' hr
    have hbk : Blk w' w.heap.size #[.int .i64 0] 25 := (Blk.alloc (w := w) _ _).grown (r := some b) (by intro e; injection e; omega) hgr
    exact ⟨he, hbk.cell 0, hbk.frozen 0⟩
  · rintro e w' ⟨e0, w2, hr, hcase⟩
    obtain ⟨_, hgr⟩ := hR e0 w2 hr
    rcases hcase with ⟨h1, h2, rfl⟩ | ⟨h1, h2, rfl⟩
    · exact ⟨e0, w2, hr, hg _ _ hgr, fun cs T hbk => hbk.set_other _ (by show w.heap.size ≠ b; omega) _, .inl ⟨h1, h2⟩⟩
    · exact ⟨e0, w2, hr, hg _ _ hgr, fun cs T hbk => hbk.set_other _ (by show w.heap.size ≠ b; omega) _, .inr ⟨h1, h2⟩⟩

def rowRes (line : List UInt8) : Value := match Pl.row line with
  | some (v, p) => .tuple #[.agg #[.int .i64 v, .int .i64 p], .int .i64 0]
  | none => .tuple #[.agg #[.int .i64 0, .int .i64 0], .int .i64 4]

set_option maxHeartbeats 2000000 in
set_option maxRecDepth 100000 in
theorem sheet_Row (line : ByteArray) (w : World) (hE : Env w) (hs : line.size < 1000000000) :
    Calls Tryd.prog 17 #[.string line] w fun e w' => e = .returned (rowRes line.data.toList) ∧ Below w.heap.size w w' := by
  have hmf : ∀ (fn : Fn) (first cap : Array Value) (w : World), (Instr.makeFunc fn first cap).run Tryd.prog w = .ok (.func fn first cap) w := fun _ _ _ _ => rfl
  go_enter Tryd.func17, Tryd.ntmps17
  go_wp2_with fail
  obtain ⟨W, hW⟩ : ∃ W, W = ((w.alloc (.cells #[.string line] 9)).alloc (.cells #[.int .i64 0, .int .i64 0] 24)).alloc (.cells #[.int .i64 0, .int .i64 0] 24) := ⟨_, rfl⟩
  have hbel : Below w.heap.size w W := by rw [hW]; exact (((Below.refl _ _).alloc (Nat.le_refl _) _).alloc (by simp) _).alloc (by simp; omega) _
  have hline : W.cell? ⟨w.heap.size, 0, none⟩ = some (.string line) := by
    rw [hW]
    exact (World.cell?_alloc_past _ _ _ (by simp; omega)).trans ((World.cell?_alloc_past _ _ _ (by simp)).trans (World.cell?_alloc_new _ _ _ _))
  have hb1 : Blk W (w.heap.size + 1) #[.int .i64 0, .int .i64 0] 24 := by
    rw [hW]
    have := Blk.alloc (w := w.alloc (.cells #[.string line] 9)) #[.int .i64 0, .int .i64 0] 24
    rw [World.size_alloc] at this
    exact this.grown (r := none) (by simp) (World.grownBy_alloc _ _ _)
  have hb2 : Blk W (w.heap.size + 1 + 1) #[.int .i64 0, .int .i64 0] 24 := by
    rw [hW]
    have := Blk.alloc (w := (w.alloc (.cells #[.string line] 9)).alloc (.cells #[.int .i64 0, .int .i64 0] 24)) #[.int .i64 0, .int .i64 0] 24
    simpa using this
  have hsz : W.heap.size = w.heap.size + 1 + 1 + 1 := by rw [hW]; simp
  rw [← hW]
  have hEW : Env W := hE.below (Nat.le_refl _) hbel
  have hcl := row_closure line w.heap.size (w.heap.size + 1 + 1) (W.alloc (.cells #[.int .i64 0] 25)) (hEW.below (Nat.le_refl _) ((Below.refl _ _).alloc (Nat.le_refl _) _)) ((World.cell?_alloc_past _ _ _ (by omega)).trans hline) (hb2.grown (r := none) (by simp) (World.grownBy_alloc _ _ _)) hs
  have htry := sheet_try_grown 63 #[.pointer (some ⟨w.heap.size, 0, none⟩), .pointer (some ⟨w.heap.size + 1 + 1, 0, none⟩)] (fun _ => by simp [go_sem]) W (w.heap.size + 1 + 1) (by omega) _ hcl (fun e w' h => ⟨by
    obtain ⟨_, h⟩ := h
    split at h
    · exact .inl h.1
    · exact .inr h.1, h.1⟩)
  have HTRY := Lib.hid htry
  have HBEL := Lib.hid hbel
  have HB1 := Lib.hid hb1
  clear hW htry hcl hEW hbel hline hb1 hb2
  refine HTRY.out.mono ?_
  rintro e w5 ⟨e0, w2, ⟨hg2, hcase⟩, hg5, hblk, hres⟩
  have hb5 : Below w.heap.size w w5 := HBEL.out.trans (below_grownBy hg5 (by omega) (by omega))
  have HB5 := Lib.hid hb5
  have hB1 : Hid (Blk w5 (w.heap.size + 1) #[.int .i64 0, .int .i64 0] 24) := HB1.out.grown (r := some (w.heap.size + 1 + 1)) (by intro e; injection e; omega) hg5
  have hq0 : w5.cell? ⟨w.heap.size + 1, 0, none⟩ = some (.int .i64 0) := hB1.out.cell 0
  have hq1 : w5.cell? ⟨w.heap.size + 1, 1, none⟩ = some (.int .i64 0) := hB1.out.cell 1
  have hz0 : w5.frozen? ⟨w.heap.size + 1, 0, none⟩ = false := hB1.out.frozen 0
  have hz1 : w5.frozen? ⟨w.heap.size + 1, 1, none⟩ = false := hB1.out.frozen 1
  cases hrow : Pl.row line.data.toList with
  | none =>
    have HRES := Lib.hid (show rowRes line.data.toList = .tuple #[.agg #[.int .i64 0, .int .i64 0], .int .i64 4] from by unfold rowRes; rw [hrow])
    rw [hrow] at hcase
    obtain ⟨rfl, _⟩ := hcase
    rcases hres with ⟨h, _⟩ | ⟨_, rfl⟩
    · unfold malformed at h; cases h
    clear hrow hblk hb5 hg2 hg5
    have hb6 : Below w.heap.size w ((w5.setCell ⟨w.heap.size + 1, 0, none⟩ (.int .i64 0)).setCell ⟨w.heap.size + 1, 1, none⟩ (.int .i64 0)) := (HB5.out.setCell (p := ⟨w.heap.size + 1, 0, none⟩) (by simp) _).setCell (p := ⟨w.heap.size + 1, 1, none⟩) (by simp) _
    have hk6 := (hB1.out.set 0 (.int .i64 0)).set 1 (.int .i64 0)
    go_wp2
    generalize (w5.setCell ⟨w.heap.size + 1, 0, none⟩ (.int .i64 0)).setCell ⟨w.heap.size + 1, 1, none⟩ (.int .i64 0) = W6 at *
    have c0 : W6.cell? ⟨w.heap.size + 1, 0, none⟩ = some (.int .i64 0) := hk6.cell 0
    have c1 : W6.cell? ⟨w.heap.size + 1, 1, none⟩ = some (.int .i64 0) := hk6.cell 1
    refine bodyPost_ret (v := .tuple #[.agg #[.int .i64 0, .int .i64 0], .int .i64 4]) (by simp [results, Tryd.results17, go_sem, c0, c1]) rfl ⟨by rw [HRES.out], hb6⟩
  | some r =>
    obtain ⟨v, p⟩ := r
    have HRES := Lib.hid (show rowRes line.data.toList = .tuple #[.agg #[.int .i64 v, .int .i64 p], .int .i64 0] from by unfold rowRes; rw [hrow])
    rw [hrow] at hcase
    obtain ⟨rfl, hbk⟩ := hcase
    have hres2 : e = .returned (.int .i64 0) := by
      rcases hres with ⟨_, h⟩ | ⟨h, _⟩
      · exact h
      · unfold malformed at h; cases h
    subst hres2
    clear hres
    have hbk5 := hblk _ _ hbk
    have hr0 : w5.cell? ⟨w.heap.size + 1 + 1, 0, none⟩ = some (.int .i64 v) := hbk5.cell 0
    have hr1 : w5.cell? ⟨w.heap.size + 1 + 1, 1, none⟩ = some (.int .i64 p) := hbk5.cell 1
    clear hrow hblk hb5 hg2 hg5 hbk hbk5
    have hb6 : Below w.heap.size w ((w5.setCell ⟨w.heap.size + 1, 0, none⟩ (.int .i64 v)).setCell ⟨w.heap.size + 1, 1, none⟩ (.int .i64 p)) := (HB5.out.setCell (p := ⟨w.heap.size + 1, 0, none⟩) (by simp) _).setCell (p := ⟨w.heap.size + 1, 1, none⟩) (by simp) _
    have hk6 := (hB1.out.set 0 (.int .i64 v)).set 1 (.int .i64 p)
    go_wp2
    generalize (w5.setCell ⟨w.heap.size + 1, 0, none⟩ (.int .i64 v)).setCell ⟨w.heap.size + 1, 1, none⟩ (.int .i64 p) = W6 at *
    have c0 : W6.cell? ⟨w.heap.size + 1, 0, none⟩ = some (.int .i64 v) := hk6.cell 0
    have c1 : W6.cell? ⟨w.heap.size + 1, 1, none⟩ = some (.int .i64 p) := hk6.cell 1
    refine bodyPost_ret (v := .tuple #[.agg #[.int .i64 v, .int .i64 p], .int .i64 0]) (by simp [results, Tryd.results17, go_sem, c0, c1]) rfl ⟨by rw [HRES.out], hb6⟩

end Go.Proofs.YtbcepdacfmbekaaDoor
