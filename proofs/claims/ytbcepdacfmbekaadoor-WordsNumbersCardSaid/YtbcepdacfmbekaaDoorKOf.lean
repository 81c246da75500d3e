/-
  The walk of script.Of.
-/
import Derived.Test.YtbcepdacfmbekaaDoorKEnc
namespace Go.Proofs.YtbcepdacfmbekaaDoor
open Go.RowKit

theorem results_cell_tmp {P : Program} {fn : Func} {p q : Tmp} {T : TypeId} (h : fn.results = #[.cell p T, .tmp q]) (tmps : Array Value) (w : World) (b : Nat) (cs : Array Value) (T' : TypeId) (u : Value) (d : TypeDesc)
    (hp : tmps.getD p undef = .pointer (some ⟨b, 0, none⟩)) (ht : tmps.getD q undef = u) (hb : Blk w b cs T') (hu : P.underlying T = some d) (hd : (match d with | .struct _ | .array _ _ => true | _ => false) = true) (hi : (P.info? T).map (·.size) = some cs.size) :
    (results fn tmps).run P w = .ok (.tuple #[.agg cs, u]) w := by
  subst ht
  have hl := run_loadVar_row (P := P) w b T' T cs (0, 0) d hb hu hd hi
  have hp' : tmps[p]?.getD undef = .pointer (some ⟨b, 0, none⟩) := by simpa using hp
  simp [results, h, hp', asAddr, hl]

/-- A step in memory. -/
def stepArr (kind sym n : Int) (v : Value) : Array Value := #[.int .i64 kind, .int .i64 sym, .int .i64 n, v]

def OfPost (c : Pl.Cmd) (w : World) (e : Ending) (w' : World) : Prop := Below w.heap.size w w' ∧ if Pl.cmdRight c = true then ∃ v, e = .returned (.tuple #[.agg (stepArr 1 0 0 v), .int .i64 0]) ∧ w'.ownsRow w.heap.size 5 1 v (Pl.form c).length (byteCells (Pl.form c)) else e = .returned (.tuple #[.agg (stepArr 0 0 0 (.slice none 0 0)), .int .i64 1])

set_option maxHeartbeats 2000000 in
set_option maxRecDepth 100000 in
theorem script_Of (c : Pl.Cmd) (w : World) (hp : -9223372036854775808 ≤ c.price ∧ c.price ≤ 9223372036854775807) (hq : -9223372036854775808 ≤ c.qty ∧ c.qty ≤ 9223372036854775807) : Calls Tryd.prog 185 #[.agg c.arr] w (OfPost c w) := by
  have HN := Lib.hid (fun w' (h : Pl.cmdRight c = false) (hb : Below w.heap.size w w') => show OfPost c w (.returned (.tuple #[.agg (stepArr 0 0 0 (.slice none 0 0)), .int .i64 1])) w' from ⟨hb, by rw [h]; rfl⟩)
  have HY := Lib.hid (fun w' v (h : Pl.cmdRight c = true) (hb : Below w.heap.size w w') (ho : w'.ownsRow w.heap.size 5 1 v (Pl.form c).length (byteCells (Pl.form c))) => show OfPost c w (.returned (.tuple #[.agg (stepArr 1 0 0 v), .int .i64 0])) w' from ⟨hb, by rw [h]; exact ⟨v, rfl, ho⟩⟩)
  have HC := Lib.hid (fun w => command_Encode c w hp hq)
  have HC0 : Hid (Blk ((w.alloc (.cells c.arr 164)).alloc (.cells #[.int .i64 0, .int .i64 0, .int .i64 0, .slice none 0 0] 42)) w.heap.size c.arr 164) := (Blk.alloc (w := w) c.arr 164).grown (r := none) (by simp) (World.grownBy_alloc _ _ _)
  have HS0 : Hid (Blk ((w.alloc (.cells c.arr 164)).alloc (.cells #[.int .i64 0, .int .i64 0, .int .i64 0, .slice none 0 0] 42)) (w.heap.size + 1) #[.int .i64 0, .int .i64 0, .int .i64 0, .slice none 0 0] 42) := by
    have := Blk.alloc (w := w.alloc (.cells c.arr 164)) #[.int .i64 0, .int .i64 0, .int .i64 0, .slice none 0 0] 42
    rw [World.size_alloc] at this; exact this
  have HB0 : Hid (Below w.heap.size w ((w.alloc (.cells c.arr 164)).alloc (.cells #[.int .i64 0, .int .i64 0, .int .i64 0, .slice none 0 0] 42))) := ((Below.refl _ _).alloc (Nat.le_refl _) _).alloc (by simp) _
  have hsz : ((w.alloc (.cells c.arr 164)).alloc (.cells #[.int .i64 0, .int .i64 0, .int .i64 0, .slice none 0 0] 42)).heap.size = w.heap.size + 2 := by simp
  clear hp hq
  go_enter Tryd.func185, Tryd.ntmps185
  go_wp2_with (first | (refine wpList_load_row rfl 164 _ rfl w.heap.size rfl 164 c.arr (0, 0) _ HC0.out Tryd.underlying164 rfl (by kernel_rfl) ?_) | fail)
  generalize (w.alloc (.cells c.arr 164)).alloc (.cells #[.int .i64 0, .int .i64 0, .int .i64 0, .slice none 0 0] 42) = w0 at *
  refine (HC.out w0).mono ?_
  rintro e w1 ⟨hb1, hcase⟩
  have HB1 : Hid (Below w.heap.size w w1) := HB0.out.trans (hb1.mono (by omega))
  have hs1 := HS0.out.below (by omega) hb1
  have HS1 := Lib.hid hs1
  have hsz1 : w0.heap.size ≤ w1.heap.size := hb1.size
  have c0 := hs1.cell 0
  have c1 := hs1.cell 1
  have c2 := hs1.cell 2
  have c3 := hs1.cell 3
  have z0 := hs1.frozen 0
  have z1 := hs1.frozen 1
  have z2 := hs1.frozen 2
  have z3 := hs1.frozen 3
  clear hb1 HC0 HS0 HB0 HC hs1
  cases hr : Pl.cmdRight c with
  | false =>
    rw [hr] at hcase
    obtain rfl : e = .returned (.tuple #[.slice none 0 0, .int .i64 1]) := hcase
    have HR := Lib.hid hr
    clear hr
    go_wp2_with fail
    have HK := Lib.hid ((((HS1.out.set 0 (.int .i64 0)).set 1 (.int .i64 0)).set 2 (.int .i64 0)).set 3 (.slice none 0 0))
    exact bodyPost_ret (v := .tuple #[.agg (stepArr 0 0 0 (.slice none 0 0)), .int .i64 1]) (results_cell_tmp rfl _ _ (w.heap.size + 1) _ _ _ _ rfl rfl HK.out Tryd.underlying42 rfl (by kernel_rfl)) rfl (HN.out _ HR.out ((((HB1.out.setCell (by simp) _).setCell (by simp) _).setCell (by simp) _).setCell (by simp) _))
  | true =>
    rw [hr] at hcase
    obtain ⟨v, rfl, hown⟩ := hcase
    obtain ⟨p, m, rfl⟩ := ownsRow_slice hown
    have HR := Lib.hid hr
    have HO := Lib.hid hown
    clear hr hown
    go_wp2_with fail
    have HK := Lib.hid ((((HS1.out.set 0 (.int .i64 1)).set 1 (.int .i64 0)).set 2 (.int .i64 0)).set 3 (.slice p (Pl.form c).length m))
    refine bodyPost_ret (v := .tuple #[.agg (stepArr 1 0 0 (.slice p (Pl.form c).length m)), .int .i64 0]) (results_cell_tmp rfl _ _ (w.heap.size + 1) _ _ _ _ rfl rfl HK.out Tryd.underlying42 rfl (by kernel_rfl)) rfl (HY.out _ _ HR.out ((((HB1.out.setCell (by simp) _).setCell (by simp) _).setCell (by simp) _).setCell (by simp) _) ?_)
    have hne : (Value.slice p (Pl.form c).length m).ownBlock ≠ some (w.heap.size + 1) := fun e => by have := (HO.out.lt _ e).1; omega
    have k := fun (W : World) (o : Nat) (x : Value) (h : W.ownsRow w0.heap.size 5 1 (.slice p (Pl.form c).length m) (Pl.form c).length (byteCells (Pl.form c))) => h.kept (grownBy_setCell W (w.heap.size + 1) o x) (.inr hne)
    exact ownsRow_base (by omega) (k _ 3 _ (k _ 2 _ (k _ 1 _ (k _ 0 _ HO.out))))

end Go.Proofs.YtbcepdacfmbekaaDoor
