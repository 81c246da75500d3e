/-
  A block that is known whole: what it holds, and a store into it.
-/
import Derived.Test.YtbcepdacfmbekaaDoorKb
import Derived.Maps.AppendAt
namespace Go.Proofs.YtbcepdacfmbekaaDoor
open Go.RowKit

/-- Block b holds these cells; none is frozen. -/
def Blk (w : World) (b : Nat) (cs : Array Value) (T : TypeId) : Prop := w.heap[b]? = some (.cells cs T (0, 0))

theorem Blk.lt {w : World} {b : Nat} {cs : Array Value} {T : TypeId} (h : Blk w b cs T) : b < w.heap.size := (Array.getElem?_eq_some_iff.1 h).1
theorem Blk.cell {w : World} {b : Nat} {cs : Array Value} {T : TypeId} (h : Blk w b cs T) (o : Nat) : w.cell? ⟨b, o, none⟩ = cs[o]? := by
  unfold Blk at h
  simp [World.cell?, h]
theorem Blk.frozen {w : World} {b : Nat} {cs : Array Value} {T : TypeId} (h : Blk w b cs T) (o : Nat) : w.frozen? ⟨b, o, none⟩ = false := by
  unfold Blk at h
  simp [World.frozen?, h]
theorem Blk.alloc {w : World} (cs : Array Value) (T : TypeId) : Blk (w.alloc (.cells cs T)) w.heap.size cs T := heap_alloc_new w _
theorem Blk.below {w w' : World} {b B : Nat} {cs : Array Value} {T : TypeId} (h : Blk w b cs T) (hB : b < B) (hb : Below B w w') : Blk w' b cs T := (hb.block b hB).trans h
theorem Blk.grown {w w' : World} {b : Nat} {r : Option Nat} {cs : Array Value} {T : TypeId} (h : Blk w b cs T) (hr : some b ≠ r) (hg : w.grownBy w' r) : Blk w' b cs T := (hg.block b h.lt hr).trans h
theorem Blk.set {w : World} {b : Nat} {cs : Array Value} {T : TypeId} (h : Blk w b cs T) (o : Nat) (v : Value) : Blk (w.setCell ⟨b, o, none⟩ v) b (cs.setIfInBounds o v) T := by
  unfold Blk at h ⊢
  simp only [World.setCell, Array.getElem?_modify, if_true, h]
  simp
theorem Blk.set_other {w : World} {b : Nat} {cs : Array Value} {T : TypeId} (h : Blk w b cs T) (a : Addr) (ha : a.block ≠ b) (v : Value) : Blk (w.setCell a v) b cs T := by
  unfold Blk at h ⊢
  simp only [World.setCell, Array.getElem?_modify]
  rw [if_neg ha]; exact h

theorem grownBy_setCell (w : World) (b o : Nat) (v : Value) : w.grownBy (w.setCell ⟨b, o, none⟩ v) (some b) :=
  ⟨rfl, rfl, rfl, by simp [World.setCell], fun k _ hne => by
    simp only [World.setCell, Array.getElem?_modify]
    rw [if_neg (by intro h; exact hne (by rw [← h]))]⟩

theorem grownBy_of_below' {w w1 : World} (h : Below w.heap.size w w1) (row : Option Nat) : w.grownBy w1 row := ⟨h.os, h.tape, h.output, h.size, fun i hi _ => h.block i hi⟩
theorem grownBy_drew {w w' : World} {row : Option Nat} (h : w.grownBy w' row) : w.grownBy w'.drew row := ⟨h.os, h.tape, h.output, h.size, h.block⟩
theorem grownBy_drewN {w w' : World} {row : Option Nat} (h : w.grownBy w' row) (n : Nat) : w.grownBy (w'.drewN n) row := ⟨h.os, h.tape, h.output, h.size, h.block⟩
theorem grownBy_but {a c : World} (h : a.grownBy c none) (row : Option Nat) : a.grownBy c row := ⟨h.os, h.tape, h.output, h.size, fun i hi _ => h.block i hi (by simp)⟩
theorem grownBy_refl (w : World) (row : Option Nat) : w.grownBy w row := ⟨rfl, rfl, rfl, Nat.le_refl _, fun _ _ _ => rfl⟩
theorem grownBy_set_below {w w4 : World} {b o : Nat} {v : Value} (h : Below w.heap.size (w.setCell ⟨b, o, none⟩ v) w4) : w.grownBy w4 (some b) :=
  (grownBy_setCell w b o v).trans (grownBy_of_below' (by rw [World.size_setCell]; exact h) _)
theorem Blk.set_below {w w4 : World} {b o : Nat} {cs : Array Value} {T : TypeId} {v : Value} (hb : Blk w b cs T) (h : Below w.heap.size (w.setCell ⟨b, o, none⟩ v) w4) : Blk w4 b (cs.setIfInBounds o v) T :=
  (hb.set o v).below hb.lt h

/-- Behind what may have written block b alone: all below b stands. -/
theorem below_grownBy {w w1 : World} {b B : Nat} (h : w.grownBy w1 (some b)) (hB : B ≤ b) (hB2 : B ≤ w.heap.size) : Below B w w1 :=
  ⟨h.os, h.tape, h.output, h.size, fun k hk => h.block k (by omega) (by intro e; injection e; omega)⟩

end Go.Proofs.YtbcepdacfmbekaaDoor
