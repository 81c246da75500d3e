/-
  The walks of the reader of words (package words): word, num, in.
-/
import Derived.Test.YtbcepdacfmbekaaDoorKSl
import Derived.Test.YtbcepdacfmbekaaDoorKTry
import Derived.Test.YtbcepdacfmbekaaDoorKNum
namespace Go.Proofs.YtbcepdacfmbekaaDoor
open Go.RowKit
variable {B : Nat}

theorem words_must_true (w : World) : Calls Tryd.prog 135 #[.bool true] w fun e w' => e = .returned (.tuple #[]) ∧ w = w' := by
  go_enter Tryd.func135, Tryd.ntmps135
  go_wp2
  go_end0
  exact ⟨rfl, rfl⟩
theorem words_must_false (w : World) : Calls Tryd.prog 135 #[.bool false] w fun e w' => e = malformed ∧ w = w' := by
  go_enter Tryd.func135, Tryd.ntmps135
  go_wp2
  exact ⟨rfl, rfl, rfl⟩

def strCells (l : List (List UInt8)) : List Value := l.map fun x => .string ⟨x.toArray⟩

/-- The reader in block b has the words l ahead. -/
def Rdr (B : Nat) (w : World) (b : Nat) (l : List (List UInt8)) : Prop := ∃ v, Blk w b #[v] 119 ∧ Sl w (fun g => g ≠ b ∧ g < B) v (strCells l) ∧ l.length ≤ 1000000000 ∧ ∀ x ∈ l, x.length ≤ 1000000000

theorem Rdr.grown {w w' : World} {r : Option Nat} {b : Nat} {l : List (List UInt8)} (h : Rdr B w b l) (hr : r = none) (hg : w.grownBy w' r) : Rdr B w' b l := by
  subst hr
  obtain ⟨v, h1, h2, h3⟩ := h
  exact ⟨v, h1.grown (by simp) hg, h2.grown (fun _ _ => by simp) hg, h3⟩
theorem Rdr.below {w w' : World} {b : Nat} {l : List (List UInt8)} (h : Rdr B w b l) (hb : Below w.heap.size w w') : Rdr B w' b l := h.grown rfl (grownBy_of_below' hb none)
theorem Rdr.lt {w : World} {b : Nat} {l : List (List UInt8)} (h : Rdr B w b l) : b < w.heap.size := by
  obtain ⟨v, h1, _⟩ := h
  exact h1.lt

/-- What comes of a reading: a value and the words that are left, or it gives up. -/
def RPost (B b : Nat) (w : World) (o : Option (Value × List (List UInt8))) (e : Ending) (w' : World) : Prop :=
  w.grownBy w' (some b) ∧ match o with
    | some (v, r) => e = .returned v ∧ Rdr B w' b r
    | none => e = malformed

theorem RPost.none {b : Nat} {w : World} {o : Option (Value × List (List UInt8))} {e : Ending} {w' : World} (h : RPost B b w o e w') (ho : o = none) : e = malformed ∧ w.grownBy w' (some b) := by
  subst ho
  exact ⟨h.2, h.1⟩
theorem RPost.some {b : Nat} {w : World} {o : Option (Value × List (List UInt8))} {e : Ending} {w' : World} {v : Value} {r : List (List UInt8)} (h : RPost B b w o e w') (ho : o = some (v, r)) : e = .returned v ∧ w.grownBy w' (some b) ∧ Rdr B w' b r := by
  subst ho
  exact ⟨h.2.1, h.1, h.2.2⟩
theorem RPost.mk_none {b : Nat} {w w' : World} {o : Option (Value × List (List UInt8))} (ho : o = .none) (hg : w.grownBy w' (.some b)) : RPost B b w o malformed w' := by
  subst ho
  exact ⟨hg, rfl⟩
theorem RPost.mk_some {b : Nat} {w w' : World} {o : Option (Value × List (List UInt8))} {v : Value} {r : List (List UInt8)} (ho : o = .some (v, r)) (hg : w.grownBy w' (.some b)) (hr : Rdr B w' b r) : RPost B b w o (.returned v) w' := by
  subst ho
  exact ⟨hg, rfl, hr⟩

theorem word_no (b : Nat) (w : World) (h : Rdr B w b []) : Calls Tryd.prog 130 #[.pointer (some ⟨b, 0, none⟩)] w fun e w' => e = malformed ∧ w = w' := by
  obtain ⟨v, hb, hs, _⟩ := h
  have hc := hb.cell 0
  rcases hs with ⟨rfl, _⟩ | ⟨g, o, c, rfl, hlc, hg, hgl, _⟩
  · go_enter Tryd.func130, Tryd.ntmps130
    go_wp2_with (go_at_call 135; refine (words_must_false _).mono ?_; rintro e w' ⟨rfl, rfl⟩; unfold malformed)
    exact ⟨rfl, rfl, rfl⟩
  · have hz : (strCells []).length = 0 := rfl
    go_enter Tryd.func130, Tryd.ntmps130
    go_wp2_with (go_at_call 135; refine (words_must_false _).mono ?_; rintro e w' ⟨rfl, rfl⟩; unfold malformed)
    exact ⟨rfl, rfl, rfl⟩

def WordPost (B b : Nat) (x : List UInt8) (r : List (List UInt8)) (w : World) (e : Ending) (w' : World) : Prop := e = .returned (.string ⟨x.toArray⟩) ∧ w.grownBy w' (some b) ∧ Rdr B w' b r

theorem word_rdr {w : World} {b g o c : Nat} {r : List (List UInt8)} {v0 : Value} {v : Value} (hb : Blk w b #[v0] 119) (hv : v = .slice (some ⟨g, o, none⟩) r.length c) (hlc : r.length ≤ c) (hg : g ≠ b ∧ g < B) (hgl : g < w.heap.size)
    (hc : ∀ j x, (strCells r)[j]? = some x → w.cell? ⟨g, o + j, none⟩ = some x) (hl : r.length ≤ 1000000000) (hx : ∀ x ∈ r, x.length ≤ 1000000000) : Rdr B (w.setCell ⟨b, 0, none⟩ v) b r := by
  refine ⟨v, hb.set 0 v, .inr ⟨g, o, c, by rw [hv]; simp [strCells], by simpa [strCells] using hlc, hg, by rw [World.size_setCell]; exact hgl, fun j x hx => ?_⟩, hl, hx⟩
  rw [← hc j x hx]
  exact (grownBy_setCell w b 0 v).cell_far ⟨g, o + j, none⟩ hgl (by simp [hg.1])

set_option maxHeartbeats 1000000 in
theorem word_yes (b : Nat) (x : List UInt8) (r : List (List UInt8)) (w : World) (h : Rdr B w b (x :: r)) : Calls Tryd.prog 130 #[.pointer (some ⟨b, 0, none⟩)] w (WordPost B b x r w) := by
  obtain ⟨v, hb, hs, hl, hx⟩ := h
  have hc := hb.cell 0
  have hz := hb.frozen 0
  rcases hs with ⟨_, h0⟩ | ⟨g, o, c, rfl, hlc, hg, hgl, hcs⟩
  · simp [strCells] at h0
  · have e0 : (strCells (x :: r)).length = r.length + 1 := by simp [strCells]
    rw [e0] at hc hlc
    have c0 : w.cell? ⟨g, o, none⟩ = some (.string ⟨x.toArray⟩) := hcs 0 _ rfl
    have hcr : ∀ j x, (strCells r)[j]? = some x → w.cell? ⟨g, o + 1 + j, none⟩ = some x := fun j y hy => by
      rw [show o + 1 + j = o + (j + 1) by omega]
      exact hcs (j + 1) y (by simpa [strCells] using hy)
    have HB := Lib.hid hb
    have HC := Lib.hid hcr
    have HX := Lib.hid (fun y (hy : y ∈ r) => hx y (List.mem_cons_of_mem _ hy))
    have hlr : r.length ≤ 1000000000 := by simp at hl; omega
    clear hb hcs hcr hx hl e0
    by_cases h1 : c = 1
    · subst h1
      obtain rfl : r = [] := List.length_eq_zero_iff.1 (by omega)
      go_enter Tryd.func130, Tryd.ntmps130
      go_wp2_with (go_at_call 135; refine (words_must_true _).mono ?_; rintro e w' ⟨rfl, rfl⟩)
      go_ret
      exact ⟨rfl, grownBy_setCell _ _ _ _, word_rdr HB.out rfl (by simp) hg hgl (by simp [strCells]) (by simp) (by simp)⟩
    · have hd : (c == 1) = false := by rw [beq_eq_false_iff_ne]; exact h1
      have hlt : (0 : Int) < (r.length : Int) + 1 := by omega
      go_enter Tryd.func130, Tryd.ntmps130
      go_wp2_with (go_at_call 135; refine (words_must_true _).mono ?_; rintro e w' ⟨rfl, rfl⟩)
      go_ret
      exact ⟨rfl, grownBy_setCell _ _ _ _, word_rdr HB.out rfl (by omega) hg hgl HC.out hlr HX.out⟩

/-- A number ahead. -/
def Pl.rnum : List (List UInt8) → Option (Int × List (List UInt8))
  | [] => none
  | x :: r => if (Pl.number x).2 then some ((Pl.number x).1, r) else none
def intVal (o : Option (Int × List (List UInt8))) : Option (Value × List (List UInt8)) := o.map fun p => (.int .i64 p.1, p.2)

set_option maxHeartbeats 1000000 in
theorem reader_num (b : Nat) (l : List (List UInt8)) (w : World) (h : Rdr B w b l) : Calls Tryd.prog 131 #[.pointer (some ⟨b, 0, none⟩)] w (RPost B b w (intVal (Pl.rnum l))) := by
  have HN := Lib.hid (fun w' => @RPost.mk_none B b w w' (intVal (Pl.rnum l)))
  have HY := Lib.hid (fun w' => @RPost.mk_some B b w w' (intVal (Pl.rnum l)))
  cases l with
  | nil =>
    go_enter Tryd.func131, Tryd.ntmps131
    go_wp2_with fail
    refine (word_no b w h).mono ?_
    rintro e w1 ⟨rfl, rfl⟩
    unfold malformed
    go_wp2
    exact ⟨rfl, HN.out _ rfl (grownBy_refl _ _)⟩
  | cons x r =>
    have hxl : x.length ≤ 1000000000 := by
      obtain ⟨_, _, _, _, hx⟩ := h
      exact hx x (by simp)
    have HO := Lib.hid (show intVal (Pl.rnum (x :: r)) = if (Pl.number x).2 then some (.int .i64 (Pl.number x).1, r) else none by simp only [Pl.rnum, intVal]; split <;> rfl)
    go_enter Tryd.func131, Tryd.ntmps131
    go_wp2_with fail
    refine (word_yes b x r w h).mono ?_
    rintro e w1 ⟨rfl, hg1, hr1⟩
    have HG1 := Lib.hid hg1
    have HR1 := Lib.hid hr1
    clear hg1 hr1 h
    go_wp2_with fail
    refine (words_Number ⟨x.toArray⟩ w1 (by rw [Lib.size_eq]; simp; omega)).mono ?_
    rintro e w2 ⟨rfl, hb2⟩
    have HG2 : Hid (w.grownBy w2 (some b)) := HG1.out.trans (grownBy_of_below' hb2 _)
    have HR2 : Hid (Rdr B w2 b r) := HR1.out.below hb2
    clear hb2 HG1 HR1
    rw [show (⟨x.toArray⟩ : ByteArray).data.toList = x from rfl]
    generalize Pl.number x = nn at *
    obtain ⟨n, is⟩ := nn
    cases is
    · go_wp2_with (go_at_call 135; refine (words_must_false _).mono ?_; rintro e w' ⟨rfl, rfl⟩; unfold malformed)
      exact ⟨rfl, HN.out _ HO.out HG2.out⟩
    · go_wp2_with (go_at_call 135; refine (words_must_true _).mono ?_; rintro e w' ⟨rfl, rfl⟩)
      go_ret
      exact HY.out _ HO.out HG2.out HR2.out

/-- A number from 0 to a greatest one ahead. -/
def Pl.rin (most : Int) (l : List (List UInt8)) : Option (Int × List (List UInt8)) :=
  match Pl.rnum l with
  | some (n, r) => if 0 ≤ n ∧ n ≤ most then some (n, r) else none
  | none => none

set_option maxHeartbeats 1000000 in
theorem reader_in (b : Nat) (l : List (List UInt8)) (most : Int) (w : World) (h : Rdr B w b l) : Calls Tryd.prog 132 #[.pointer (some ⟨b, 0, none⟩), .int .i64 most] w (RPost B b w (intVal (Pl.rin most l))) := by
  have HN := Lib.hid (fun w' => @RPost.mk_none B b w w' (intVal (Pl.rin most l)))
  have HY := Lib.hid (fun w' => @RPost.mk_some B b w w' (intVal (Pl.rin most l)))
  have HC := Lib.hid (reader_num b l w h)
  rcases hn : Pl.rnum l with _ | ⟨n, r⟩
  · have HO := Lib.hid (show intVal (Pl.rin most l) = none by unfold Pl.rin; rw [hn]; rfl)
    rw [hn] at HC
    clear hn
    go_enter Tryd.func132, Tryd.ntmps132
    go_wp2_with fail
    refine HC.out.mono ?_
    intro e w1 hp
    obtain ⟨rfl, hg⟩ := hp.none rfl
    have HG := Lib.hid hg
    clear hp hg HC
    unfold malformed
    go_wp2
    exact ⟨rfl, HN.out _ HO.out HG.out⟩
  · have HO := Lib.hid (show intVal (Pl.rin most l) = if 0 ≤ n ∧ n ≤ most then some (.int .i64 n, r) else none by unfold Pl.rin; rw [hn]; simp only; split <;> rfl)
    rw [hn] at HC
    clear hn
    go_enter Tryd.func132, Tryd.ntmps132
    go_wp2_with fail
    refine HC.out.mono ?_
    intro e w1 hp
    obtain ⟨rfl, hg, hr⟩ := hp.some rfl
    have HG := Lib.hid hg
    have HR := Lib.hid hr
    clear hp hg hr HC
    by_cases h0 : 0 ≤ n
    · have d0 : decide (0 ≤ n) = true := decide_eq_true h0
      by_cases h1 : n ≤ most
      · have d1 : decide (n ≤ most) = true := decide_eq_true h1
        have HO2 := Lib.hid (HO.out.trans (if_pos ⟨h0, h1⟩))
        clear h0 h1
        go_wp2_with (go_at_call 135; refine (words_must_true _).mono ?_; rintro e w' ⟨rfl, rfl⟩)
        go_ret
        exact HY.out _ HO2.out HG.out HR.out
      · have d1 : decide (n ≤ most) = false := decide_eq_false h1
        have HO2 := Lib.hid (HO.out.trans (if_neg (fun h => h1 h.2)))
        clear h0 h1
        go_wp2_with (go_at_call 135; refine (words_must_false _).mono ?_; rintro e w' ⟨rfl, rfl⟩; unfold malformed)
        exact ⟨rfl, HN.out _ HO2.out HG.out⟩
    · have d0 : decide (0 ≤ n) = false := decide_eq_false h0
      have HO2 := Lib.hid (HO.out.trans (if_neg (fun h => h0 h.1)))
      clear h0
      go_wp2_with (go_at_call 135; refine (words_must_false _).mono ?_; rintro e w' ⟨rfl, rfl⟩; unfold malformed)
      exact ⟨rfl, HN.out _ HO2.out HG.out⟩

end Go.Proofs.YtbcepdacfmbekaaDoor
