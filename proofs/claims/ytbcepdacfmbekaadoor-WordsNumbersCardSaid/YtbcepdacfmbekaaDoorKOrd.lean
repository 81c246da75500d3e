/-
  The walks of the reader of bytes (package octets).
-/
import Derived.Test.YtbcepdacfmbekaaDoorKOct3
namespace Go.Proofs.YtbcepdacfmbekaaDoor
open Go.RowKit
variable {B : Nat → Prop}

/-- The reader in block b: the bytes ahead, or it has met a fault. -/
def Ord (B : Nat → Prop) (w : World) (b : Nat) : Option (List UInt8) → Prop
  | some l => ∃ v, Blk w b #[v, .int .i64 0] 238 ∧ Sl w (fun g => g ≠ b ∧ B g) v (byteCells l) ∧ l.length ≤ 1000000
  | none => ∃ p n c f, Blk w b #[.slice p n c, .int .i64 f] 238 ∧ f ≠ 0 ∧ n ≤ 1000000

theorem Ord.grown {w w' : World} {r : Option Nat} {b : Nat} {s : Option (List UInt8)} (h : Ord B w b s) (hr : some b ≠ r) (hr2 : ∀ k, r = some k → ¬ B k) (hg : w.grownBy w' r) : Ord B w' b s := by
  cases s with
  | none =>
    obtain ⟨p, n, c, f, h1, h2⟩ := h
    exact ⟨p, n, c, f, h1.grown hr hg, h2⟩
  | some l =>
    obtain ⟨v, h1, h2, h3⟩ := h
    exact ⟨v, h1.grown hr hg, h2.grown (fun g hk e => hr2 g e.symm hk.2) hg, h3⟩
theorem Ord.below {w w' : World} {b : Nat} {s : Option (List UInt8)} (h : Ord B w b s) (hb : Below w.heap.size w w') : Ord B w' b s := h.grown (r := none) (by simp) (by simp) (grownBy_of_below' hb none)
theorem Ord.lt {w : World} {b : Nat} {s : Option (List UInt8)} (h : Ord B w b s) : b < w.heap.size := by
  cases s with
  | none => obtain ⟨_, _, _, _, h1, _⟩ := h; exact h1.lt
  | some l => obtain ⟨_, h1, _⟩ := h; exact h1.lt

theorem byteCells_get (l : List UInt8) (j : Nat) : (byteCells l)[j]? = l[j]?.map fun c => Value.int .u8 (c.toNat : Int) := by simp [byteCells]

/-- What comes of take: so many bytes. -/
def TakeYes (B : Nat → Prop) (b : Nat) (l : List UInt8) (n : Nat) (w : World) (e : Ending) (w' : World) : Prop :=
  ∃ g o c, e = .returned (.tuple #[.slice (some ⟨g, o, none⟩) n c, .bool true]) ∧ g ≠ b ∧ g < w.heap.size ∧ (∀ j x, (byteCells (l.take n))[j]? = some x → w'.cell? ⟨g, o + j, none⟩ = some x) ∧ w.grownBy w' (some b) ∧ Ord B w' b (some (l.drop n))
def TakeNo (B : Nat → Prop) (b : Nat) (w : World) (e : Ending) (w' : World) : Prop := e = .returned (.tuple #[.slice none 0 0, .bool false]) ∧ w.grownBy w' (some b) ∧ Ord B w' b none

set_option maxHeartbeats 1000000 in
set_option maxRecDepth 100000 in
theorem take_fault (b : Nat) (n : Int) (w : World) (h : Ord B w b none) : Calls Tryd.prog 203 #[.pointer (some ⟨b, 0, none⟩), .int .i64 n] w (TakeNo B b w) := by
  obtain ⟨p, m, c, f, hb, hf, hm⟩ := h
  have hc := hb.cell 1
  have hne : (f == 0) = false := by rw [beq_eq_false_iff_ne]; exact hf
  have HH : Hid (Ord B w b none) := ⟨p, m, c, f, hb, hf, hm⟩
  clear hb hf
  go_enter Tryd.func203, Tryd.ntmps203
  go_wp2_with fail
  go_ret2
  exact ⟨rfl, grownBy_refl _ _, HH.out⟩

set_option maxHeartbeats 1000000 in
set_option maxRecDepth 100000 in
theorem take_short (b n : Nat) (l : List UInt8) (w : World) (h : Ord B w b (some l)) (hn : l.length < n) (hn2 : n ≤ 8) : Calls Tryd.prog 203 #[.pointer (some ⟨b, 0, none⟩), .int .i64 n] w (TakeNo B b w) := by
  obtain ⟨v, hb, hs, hl⟩ := h
  have HB := Lib.hid hb
  have hc := hb.cell 1
  have hz := hb.frozen 1
  have hc0 := hb.cell 0
  clear hb
  have hlen := byteCells_length l
  rcases hs with ⟨rfl, h0⟩ | ⟨g, o, c, rfl, _⟩
  · have hd : decide ((n : Int) ≤ 0) = false := decide_eq_false (by omega)
    go_enter Tryd.func203, Tryd.ntmps203
    go_wp2_with fail
    go_ret2
    exact ⟨rfl, grownBy_setCell _ _ _ _, _, _, _, 3, HB.out.set 1 (.int .i64 3), by omega, by omega⟩
  · rw [hlen] at hc0 HB
    have hd : decide ((n : Int) ≤ l.length) = false := decide_eq_false (by omega)
    clear hlen
    go_enter Tryd.func203, Tryd.ntmps203
    go_wp2_with fail
    go_ret2
    exact ⟨rfl, grownBy_setCell _ _ _ _, _, _, _, 3, HB.out.set 1 (.int .i64 3), by omega, hl⟩

theorem byteCells_take {l : List UInt8} {n j : Nat} {x : Value} (h : (byteCells (l.take n))[j]? = some x) : (byteCells l)[j]? = some x := by
  rw [byteCells_get] at h ⊢
  rw [List.getElem?_take] at h
  split at h
  · exact h
  · cases h
theorem byteCells_drop {l : List UInt8} {n j : Nat} : (byteCells (l.drop n))[j]? = (byteCells l)[n + j]? := by
  rw [byteCells_get, byteCells_get, List.getElem?_drop]

set_option maxHeartbeats 1000000 in
set_option maxRecDepth 100000 in
theorem take_yes (b n : Nat) (l : List UInt8) (w : World) (h : Ord B w b (some l)) (h0 : 0 < n) (hn : n ≤ l.length) : Calls Tryd.prog 203 #[.pointer (some ⟨b, 0, none⟩), .int .i64 n] w (TakeYes B b l n w) := by
  obtain ⟨v, hb, hs, hl⟩ := h
  have HB := Lib.hid hb
  have hc := hb.cell 1
  have hc0 := hb.cell 0
  have hz0 := hb.frozen 0
  clear hb
  have hlen := byteCells_length l
  rcases hs with ⟨rfl, e0⟩ | ⟨g, o, c, rfl, hlc, hg, hgl, hcs⟩
  · rw [e0] at hlen; simp at hlen; omega
  · rw [hlen] at hc0 HB hlc
    have HCS := Lib.hid hcs
    have hd : decide ((l.length : Int) < n) = false := decide_eq_false (by omega)
    clear hlen hcs
    have h1 : ∀ x : Value, ∀ j y, (byteCells (l.take n))[j]? = some y → (w.setCell ⟨b, 0, none⟩ x).cell? ⟨g, o + j, none⟩ = some y := fun x j y hy =>
      ((grownBy_setCell w b 0 x).cell_far ⟨g, o + j, none⟩ hgl (by simp [hg.1])).trans (HCS.out j y (byteCells_take hy))
    have HH1 := Lib.hid h1
    clear h1
    by_cases hcn : c = n
    · subst hcn
      have hln : l.length = c := by omega
      have HLN := Lib.hid hln
      go_enter Tryd.func203, Tryd.ntmps203
      go_wp2_with fail
      go_ret2
      exact ⟨g, o, c, rfl, hg.1, hgl, HH1.out _, grownBy_setCell _ _ _ _, _, HB.out.set 0 _, by
        rw [List.drop_eq_nil_of_le (by omega)]
        refine .inr ⟨g, o, 0, by simp [byteCells], by simp [byteCells], hg, by rw [World.size_setCell]; exact hgl, by simp [byteCells]⟩, by simp; omega⟩
    · have hcn2 : (c == n) = false := by rw [beq_eq_false_iff_ne]; exact hcn
      go_enter Tryd.func203, Tryd.ntmps203
      go_wp2_with fail
      go_ret2
      refine ⟨g, o, c, rfl, hg.1, hgl, HH1.out _, grownBy_setCell _ _ _ _, _, HB.out.set 0 _, ?_, by simp; omega⟩
      refine .inr ⟨g, o + n, c - n, by simp [byteCells], by simp [byteCells]; omega, hg, by rw [World.size_setCell]; exact hgl, fun j y hy => ?_⟩
      rw [byteCells_drop] at hy
      rw [show o + n + j = o + (n + j) by omega]
      exact ((grownBy_setCell w b 0 _).cell_far ⟨g, o + (n + j), none⟩ hgl (by simp [hg.1])).trans (HCS.out _ y hy)

end Go.Proofs.YtbcepdacfmbekaaDoor
