/-
  The walks of command.Right and command.Encode.
-/
import Derived.Test.YtbcepdacfmbekaaDoorKOct3
import Derived.Test.YtbcepdacfmbekaaDoorPq
namespace Go.Proofs.YtbcepdacfmbekaaDoor
open Go.RowKit

def Pl.Cmd.arr (c : Pl.Cmd) : Array Value := #[.int .i64 c.kind, .int .i64 c.sym, .int .i64 c.id, .int .i64 c.owner, .int .i64 c.side, .int .i64 c.type, .int .i64 c.price, .int .i64 c.qty, .int .i64 c.flags]

theorem command_in (n lo hi : Int) (w : World) : Calls Tryd.prog 205 #[.int .i64 n, .int .i64 lo, .int .i64 hi] w fun e w' => e = .returned (.bool (Pl.inB n lo hi)) ∧ w = w' := by
  have hb : Pl.inB n lo hi = (decide (lo ≤ n) && decide (n ≤ hi)) := rfl
  rw [hb]
  clear hb
  by_cases h1 : lo ≤ n
  · have d1 : decide (lo ≤ n) = true := decide_eq_true h1
    go_enter Tryd.func205, Tryd.ntmps205
    go_wp2
    go_ret
    exact ⟨by simp [d1], rfl⟩
  · have d1 : decide (lo ≤ n) = false := decide_eq_false h1
    go_enter Tryd.func205, Tryd.ntmps205
    go_wp2
    go_ret
    exact ⟨by simp [d1], rfl⟩

theorem ret_bool {a b : Bool} (h : a = b) : Ending.returned (.bool a) = .returned (.bool b) := by rw [h]
theorem bool_of {r x : Bool} {p : Prop} (hr : r = true ↔ p) (h : x = true ↔ p) : x = r := by
  rw [Bool.eq_iff_iff, h, hr]

def BoolPost (b : Bool) (w : World) (e : Ending) (w' : World) : Prop := e = .returned (.bool b) ∧ Below w.heap.size w w'

set_option maxHeartbeats 2000000 in
set_option maxRecDepth 100000 in
theorem command_Right (c : Pl.Cmd) (w : World) : Calls Tryd.prog 170 #[.agg c.arr] w (BoolPost (Pl.cmdRight c) w) := by
  obtain ⟨kind, sym, id, owner, side, type, price, qty, flags⟩ := c
  simp only [Pl.Cmd.arr]
  have HR := Lib.hid (show Pl.cmdRight ⟨kind, sym, id, owner, side, type, price, qty, flags⟩ = true ↔ _ from decide_eq_true_iff)
  generalize Pl.cmdRight ⟨kind, sym, id, owner, side, type, price, qty, flags⟩ = r at *
  go_enter Tryd.func170, Tryd.ntmps170
  go_wp2_with (go_at_call 205; refine (command_in _ _ _ _).mono ?_; rintro e w' ⟨rfl, rfl⟩)
  all_goals go_ret
  all_goals refine ⟨ret_bool (bool_of HR.out ?_), ?_⟩
  all_goals first
    | (repeat (first | exact Below.refl _ _ | refine Below.setCell ?_ (by simp) _ | refine Below.alloc ?_ (by simp) _))
    | skip
  all_goals simp only [Pl.CmdOk, Pl.inB_iff, beq_iff_eq, Bool.not_eq_true, Bool.and_eq_true, decide_eq_true_eq, beq_eq_false_iff_ne, ne_eq, Bool.false_eq_true, false_iff, true_iff] at *
  all_goals omega

end Go.Proofs.YtbcepdacfmbekaaDoor
