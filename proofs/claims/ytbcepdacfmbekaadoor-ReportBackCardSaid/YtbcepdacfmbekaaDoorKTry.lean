/-
  The walk of sheet.try: what gives up by a panic with a fault comes back as that fault.
-/
import Derived.Test.YtbcepdacfmbekaaDoorKb
import Derived.Defers
import Derived.Recover
import Derived.KernelRfl
namespace Go.Proofs.YtbcepdacfmbekaaDoor
open Go.RowKit

theorem sheet_must_true (w : World) : Calls Tryd.prog 66 #[.bool true] w fun e w' => e = .returned (.tuple #[]) ∧ w' = w := by
  go_enter Tryd.func66, Tryd.ntmps66
  go_wp2
  go_end0
  exact ⟨rfl, rfl⟩

def malformed : Ending := .panicked [{ v := .iface 25 (.int .i64 4), recovered := false }]

theorem sheet_must_false (w : World) : Calls Tryd.prog 66 #[.bool false] w fun e w' => e = malformed ∧ w' = w := by
  go_enter Tryd.func66, Tryd.ntmps66
  go_wp2
  exact ⟨rfl, rfl, rfl⟩

theorem try_catch (p : Addr) (x n : Int) (older : List PanicEntry) (w : World) (hc : w.cell? p = some (.int .i64 x)) (hz : w.frozen? p = false) :
    CallsD Tryd.prog 123 #[.pointer (some p)] (.panicking ({ v := .iface 25 (.int .i64 n), recovered := false } :: older)) w fun e u' w' =>
      e = .returned (.tuple #[]) ∧ u' = .panicking ({ v := .iface 25 (.int .i64 n), recovered := true } :: older) ∧ w' = w.setCell p (.int .i64 n) := by
  have hta : ∀ (W : World), (Instr.typeAssert (.iface 25 (.int .i64 n)) 20 25 false).run Tryd.prog W = .ok (.int .i64 n) W := fun W => by kernel_rfl
  refine callsD_of_wpS Tryd.func123 rfl fun c₀ cs hu => ?_
  apply wpS_seq
  apply wpS_region
  simp [wpOpsS, go_sem, recoverD, hu, Tryd.ntmps123, Exit.thenS]
  apply wpS_seq
  apply wpS_region
  simp [wpOpsS, go_sem, Exit.thenS]
  refine wpS_cond (t := true) (by simp [Act.eval, Array.replicate]) ?_
  simp only [if_true]
  apply wpS_region
  simp [wpOpsS, go_sem, hta, hc, hz, bodyPostS, results, Tryd.results123]

theorem try_idle (p : Addr) (w : World) :
    CallsD Tryd.prog 123 #[.pointer (some p)] .returning w fun e u' w' => e = .returned (.tuple #[]) ∧ u' = .returning ∧ w' = w := by
  refine callsD_of_wpS Tryd.func123 rfl fun c₀ cs hu => ?_
  apply wpS_seq
  apply wpS_region
  simp [wpOpsS, go_sem, recoverD, hu, Tryd.ntmps123, Exit.thenS]
  apply wpS_seq
  apply wpS_region
  simp [wpOpsS, go_sem, Exit.thenS]
  refine wpS_cond (t := false) (by simp [Act.eval, Array.replicate]) ?_
  simp only [Bool.false_eq_true, if_false]
  refine wpS_of_wp (wp_skip ?_)
  cases c₀
  simp_all [bodyPostS, results, Tryd.results123]

def TryPost (R : Ending → World → Prop) (w : World) (e : Ending) (w' : World) : Prop := ∃ e0 w2, R e0 w2 ∧ ((e0 = .returned (.tuple #[]) ∧ e = .returned (.int .i64 0) ∧ w' = w2.setCell ⟨w.heap.size, 0, none⟩ (.int .i64 0)) ∨ (e0 = malformed ∧ e = .returned (.int .i64 4) ∧ w' = w2.setCell ⟨w.heap.size, 0, none⟩ (.int .i64 4)))

set_option maxRecDepth 100000 in
/-- sheet.try of a closure that either returns or gives up. -/
theorem sheet_try (fn : FuncId) (cap : Array Value) (hcf : ∀ W : World, (callFunc fn cap).run Tryd.prog W = .ok (.enter fn cap) W) (w : World) (R : Ending → World → Prop) (h : Calls Tryd.prog fn cap (w.alloc (.cells #[.int .i64 0] 25)) R)
    (hR : ∀ e w', R e w' → (e = .returned (.tuple #[]) ∨ e = malformed) ∧ w'.cell? ⟨w.heap.size, 0, none⟩ = some (.int .i64 0) ∧ w'.frozen? ⟨w.heap.size, 0, none⟩ = false) :
    Calls Tryd.prog 62 #[.func (.func fn) #[] cap] w (TryPost R w) := by
  have hmf : ∀ (fn : Fn) (first cap : Array Value) (w : World), (Instr.makeFunc fn first cap).run Tryd.prog w = .ok (.func fn first cap) w := fun _ _ _ _ => rfl
  have HR := Lib.hid hR
  clear hR
  go_enter_defers Tryd.func62, Tryd.ntmps62
  go_wp2_with fail
  refine h.mono ?_
  intro e w2 hr
  obtain ⟨he, hc, hz⟩ := HR.out e w2 hr
  have hR2 := Lib.hid hr
  clear hr h
  rcases he with rfl | rfl
  · go_wp2
    refine leaves_cons (f := 123) (args := #[.pointer (some ⟨w.heap.size, 0, none⟩)]) (by simp) (by simp [go_sem]) ?_
    refine (try_idle ⟨w.heap.size, 0, none⟩ _).mono ?_
    rintro e u' w'' ⟨rfl, rfl, rfl⟩
    have hfin : TryPost R w (.returned (.int .i64 0)) (w2.setCell ⟨w.heap.size, 0, none⟩ (.int .i64 0)) := ⟨_, _, hR2.out, .inl ⟨rfl, rfl, rfl⟩⟩
    simpa [Leaves, settle, results, Tryd.results62, go_sem, hc] using hfin
  · unfold malformed
    go_wp2
    refine leaves_cons (f := 123) (args := #[.pointer (some ⟨w.heap.size, 0, none⟩)]) (by simp) (by simp [go_sem]) ?_
    refine (try_catch ⟨w.heap.size, 0, none⟩ 0 4 [] _ hc hz).mono ?_
    rintro e u' w'' ⟨rfl, rfl, rfl⟩
    have hfin : TryPost R w (.returned (.int .i64 4)) (w2.setCell ⟨w.heap.size, 0, none⟩ (.int .i64 4)) := ⟨_, _, hR2.out, .inr ⟨rfl, rfl, rfl⟩⟩
    simpa [Leaves, settle, results, Tryd.results62, go_sem, hc] using hfin

end Go.Proofs.YtbcepdacfmbekaaDoor
