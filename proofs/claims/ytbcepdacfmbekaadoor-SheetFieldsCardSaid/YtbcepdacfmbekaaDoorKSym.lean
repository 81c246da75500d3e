/-
  The walk of sheet.Symbol: the symbol of any line, or that it is none.
-/
import Derived.Test.YtbcepdacfmbekaaDoorKSymC
import Derived.Deep.MidRow
namespace Go.Proofs.YtbcepdacfmbekaaDoor
open Go.RowKit

/-- A symbol's cells, out of its numbers. -/
def symCells (vs : List Int) : Array Value := setAll zero16 symTs vs
def symRes (line : List UInt8) : Value := match Pl.symbol line with
  | some vs => .tuple #[.agg (symCells vs), .int .i64 0]
  | none => .tuple #[.agg zero16, .int .i64 4]

theorem symCells_lit {vs : List Int} (h : vs.length = 16) : ∃ v0 v1 v2 v3 v4 v5 v6 v7 v8 v9 v10 v11 v12 v13 v14 v15 : Int, vs = [v0, v1, v2, v3, v4, v5, v6, v7, v8, v9, v10, v11, v12, v13, v14, v15] := by
  match vs, h with
  | [v0, v1, v2, v3, v4, v5, v6, v7, v8, v9, v10, v11, v12, v13, v14, v15], _ => exact ⟨_, _, _, _, _, _, _, _, _, _, _, _, _, _, _, _, rfl⟩

theorem zero16_size : (Tryd.prog.info? 29).map (·.size) = some zero16.size := by kernel_rfl
theorem zero16_one : zero16.all (·.oneCell') = true := by kernel_rfl
theorem below_setRow {w w' : World} {B b : Nat} {cs : Array Value} (h : Below B w w') (hb : B ≤ b) : Below B w (w'.setRow b cs) :=
  ⟨h.os, h.tape, h.output, by rw [setRow_size]; exact h.size, fun k hk => (setRow_other w' b k cs (by omega)).trans (h.block k hk)⟩

theorem setAll_size : ∀ (ts : List (Bool × Nat)) (vs : List Int) (cs : Array Value), (setAll cs ts vs).size = cs.size
  | [], _, _ => by cases ‹List Int› <;> rfl
  | _ :: _, [], _ => rfl
  | t :: ts, v :: vs, cs => by rw [setAll, setAll_size ts vs, Array.size_setIfInBounds]
theorem setAll_one : ∀ (ts : List (Bool × Nat)) (vs : List Int) (cs : Array Value), cs.all (·.oneCell') = true → (setAll cs ts vs).all (·.oneCell') = true
  | [], _, _, h => by cases ‹List Int› <;> exact h
  | _ :: _, [], _, h => h
  | t :: ts, v :: vs, cs, h => by
    rw [setAll]
    refine setAll_one ts vs _ ?_
    rw [Array.all_eq_true_iff_forall_mem] at h ⊢
    intro x hx
    rcases Array.mem_or_eq_of_mem_setIfInBounds hx with hx | rfl
    · exact h x hx
    · rfl

/-- What a function of two results, a symbol in a block and one in a slot, returns. -/
theorem results_sym {fn : Func} {p t : Tmp} (h : fn.results = #[.cell p 29, .tmp t]) (tmps : Array Value) (w : World) (b : Nat) (cs : Array Value)
    (hp : tmps.getD p undef = .pointer (some ⟨b, 0, none⟩)) (hb : Blk w b cs 29) (h16 : cs.size = 16) :
    (results fn tmps).run Tryd.prog w = .ok (.tuple #[.agg cs, tmps.getD t undef]) w := by
  have hl := run_loadVar_row (P := Tryd.prog) w b 29 29 cs (0, 0) ((Tryd.prog.underlying 29).get (by kernel_rfl)) hb (by simp) (by kernel_rfl) (by rw [h16]; kernel_rfl)
  have hp' : tmps[p]?.getD undef = .pointer (some ⟨b, 0, none⟩) := by simpa using hp
  simp [results, h, hp', asAddr, hl]

set_option maxHeartbeats 4000000 in
set_option maxRecDepth 100000 in
theorem sheet_Symbol (line : ByteArray) (w : World) (hE : Env w) (hs : line.size < 1000000000) :
    Calls Tryd.prog 19 #[.string line] w fun e w' => e = .returned (symRes line.data.toList) ∧ Below w.heap.size w w' := by
  have hmf : ∀ (fn : Fn) (first cap : Array Value) (w : World), (Instr.makeFunc fn first cap).run Tryd.prog w = .ok (.func fn first cap) w := fun _ _ _ _ => rfl
  go_enter Tryd.func19, Tryd.ntmps19
  go_wp2_with fail
  obtain ⟨W, hW⟩ : ∃ W, W = ((w.alloc (.cells #[.string line] 9)).alloc (.cells zero16 29)).alloc (.cells zero16 29) := ⟨_, rfl⟩
  have hbel : Below w.heap.size w W := by rw [hW]; exact (((Below.refl _ _).alloc (Nat.le_refl _) _).alloc (by simp) _).alloc (by simp; omega) _
  have hline : W.cell? ⟨w.heap.size, 0, none⟩ = some (.string line) := by
    rw [hW]
    exact (World.cell?_alloc_past _ _ _ (by simp; omega)).trans ((World.cell?_alloc_past _ _ _ (by simp)).trans (World.cell?_alloc_new _ _ _ _))
  have hb1 : Blk W (w.heap.size + 1) zero16 29 := by
    rw [hW]
    have := Blk.alloc (w := w.alloc (.cells #[.string line] 9)) zero16 29
    rw [World.size_alloc] at this
    exact this.grown (r := none) (by simp) (World.grownBy_alloc _ _ _)
  have hb2 : Blk W (w.heap.size + 1 + 1) zero16 29 := by
    rw [hW]
    have := Blk.alloc (w := (w.alloc (.cells #[.string line] 9)).alloc (.cells zero16 29)) zero16 29
    simpa using this
  have hsz : W.heap.size = w.heap.size + 1 + 1 + 1 := by rw [hW]; simp
  unfold zero16 at hW
  rw [← hW]
  have hEW : Env W := hE.below (Nat.le_refl _) hbel
  have hcl := symbol_closure line w.heap.size (w.heap.size + 1 + 1) (W.alloc (.cells #[.int .i64 0] 25)) (hEW.below (Nat.le_refl _) ((Below.refl _ _).alloc (Nat.le_refl _) _)) ((World.cell?_alloc_past _ _ _ (by omega)).trans hline) (hb2.grown (r := none) (by simp) (World.grownBy_alloc _ _ _)) hs
  have htry := sheet_try_grown 73 #[.pointer (some ⟨w.heap.size + 1 + 1, 0, none⟩), .pointer (some ⟨w.heap.size, 0, none⟩)] (fun _ => by simp [go_sem]) W (w.heap.size + 1 + 1) (by omega) _ hcl (fun e w' h => ⟨by
    obtain ⟨_, h⟩ := h
    split at h
    · exact .inl h.1
    · exact .inr h.1, h.1⟩)
  have HTRY := Lib.hid htry
  have HBEL := Lib.hid hbel
  have HB1 := Lib.hid hb1
  clear hW htry hcl hEW hbel hline hb1 hb2
  refine HTRY.out.mono ?_
  rintro e w5 ⟨e0, w2, ⟨hg2, hcase⟩, hg5, hblk, hres⟩
  have hb5 : Below w.heap.size w w5 := HBEL.out.trans (below_grownBy hg5 (by omega) (by omega))
  have HB5 := Lib.hid hb5
  have hB1 : Hid (Blk w5 (w.heap.size + 1) zero16 29) := HB1.out.grown (r := some (w.heap.size + 1 + 1)) (by intro e; injection e; omega) hg5
  cases hsym : Pl.symbol line.data.toList with
  | none =>
    have HRES := Lib.hid (show symRes line.data.toList = .tuple #[.agg zero16, .int .i64 4] from by unfold symRes; rw [hsym])
    rw [hsym] at hcase
    obtain ⟨rfl, _⟩ := hcase
    rcases hres with ⟨h, _⟩ | ⟨_, rfl⟩
    · unfold malformed at h; cases h
    clear hsym hblk hb5 hg2 hg5
    have hk6 : Hid (Blk (w5.setRow (w.heap.size + 1) zero16) (w.heap.size + 1) zero16 29) := setRow_heap _ _ _ _ _ _ hB1.out
    have hb6 : Hid (Below w.heap.size w (w5.setRow (w.heap.size + 1) zero16)) := below_setRow HB5.out (by omega)
    go_wp2_with (refine wpList_store_row rfl 29 _ _ rfl (w.heap.size + 1) zero16 rfl rfl 29 zero16 hB1.out zero16_size rfl zero16_one ?_)
    exact bodyPost_ret (results_sym rfl _ _ (w.heap.size + 1) zero16 rfl hk6.out rfl) rfl ⟨by rw [HRES.out]; rfl, hb6.out⟩
  | some vs =>
    have h16 : (symCells vs).size = 16 := by unfold symCells; rw [setAll_size]; rfl
    have hone : (symCells vs).all (·.oneCell') = true := setAll_one _ _ _ zero16_one
    have HRES := Lib.hid (show symRes line.data.toList = .tuple #[.agg (symCells vs), .int .i64 0] from by unfold symRes; rw [hsym])
    rw [hsym] at hcase
    obtain ⟨rfl, hbk⟩ := hcase
    have hres2 : e = .returned (.int .i64 0) := by
      rcases hres with ⟨_, h⟩ | ⟨h, _⟩
      · exact h
      · unfold malformed at h; cases h
    subst hres2
    clear hres
    have hbk5 : Hid (Blk w5 (w.heap.size + 1 + 1) (symCells vs) 29) := hblk _ _ hbk
    clear hsym hblk hb5 hg2 hg5 hbk
    have hk6 : Hid (Blk (w5.setRow (w.heap.size + 1) (symCells vs)) (w.heap.size + 1) (symCells vs) 29) := setRow_heap _ _ _ _ _ _ hB1.out
    have hb6 : Hid (Below w.heap.size w (w5.setRow (w.heap.size + 1) (symCells vs))) := below_setRow HB5.out (by omega)
    have H16 := Lib.hid h16
    have HONE := Lib.hid hone
    clear h16 hone
    go_wp2_with (first | refine wpList_load_row rfl 29 _ rfl (w.heap.size + 1 + 1) rfl 29 (symCells vs) (0, 0) ((Tryd.prog.underlying 29).get (by kernel_rfl)) hbk5.out (by simp) (by kernel_rfl) (by rw [H16.out]; kernel_rfl) ?_ | refine wpList_store_row rfl 29 _ _ rfl (w.heap.size + 1) (symCells vs) rfl rfl 29 zero16 hB1.out (by rw [H16.out]; kernel_rfl) (by rw [H16.out]; rfl) HONE.out ?_)
    exact bodyPost_ret (results_sym rfl _ _ (w.heap.size + 1) (symCells vs) rfl hk6.out H16.out) rfl ⟨by rw [HRES.out]; rfl, hb6.out⟩

end Go.Proofs.YtbcepdacfmbekaaDoor
