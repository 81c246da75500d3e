/-
  The walk of the reader's step (package words).
-/
import Derived.Test.YtbcepdacfmbekaaDoorKRaw
namespace Go.Proofs.YtbcepdacfmbekaaDoor
open Go.RowKit
variable {B : Nat}

def Pl.wTick : List UInt8 := [116, 105, 99, 107]
def Pl.wIndex : List UInt8 := [105, 110, 100, 101, 120]
def Pl.wBid : List UInt8 := [98, 105, 100]
def Pl.wNew : List UInt8 := [110, 101, 119]
def Pl.wCancel : List UInt8 := [99, 97, 110, 99, 101, 108]
def Pl.wReplace : List UInt8 := [114, 101, 112, 108, 97, 99, 101]
def Pl.wRaw : List UInt8 := [114, 97, 119]
/-- Nothing is left. -/
def Pl.fin (s : Pl.St) (r : List (List UInt8)) : Option Pl.St := if r = [] then some s else none
/-- The step of a line's words. -/
def Pl.stepOf : List (List UInt8) → Option Pl.St
  | [] => none
  | x :: r =>
    if x = Pl.wTick then (Pl.rnum r).bind fun p => Pl.fin ⟨2, 0, p.1, []⟩ p.2
    else if x = Pl.wIndex then (Pl.rnum r).bind fun p => Pl.fin ⟨3, 0, p.1, []⟩ p.2
    else if x = Pl.wBid then (Pl.rin 255 r).bind fun p => (Pl.rnum p.2).bind fun q => Pl.fin ⟨4, p.1, q.1, []⟩ q.2
    else if x = Pl.wNew then (Pl.rcommand 1 r).bind fun p => Pl.fin ⟨1, 0, 0, Pl.form p.1⟩ p.2
    else if x = Pl.wCancel then (Pl.rcommand 2 r).bind fun p => Pl.fin ⟨1, 0, 0, Pl.form p.1⟩ p.2
    else if x = Pl.wReplace then (Pl.rcommand 3 r).bind fun p => Pl.fin ⟨1, 0, 0, Pl.form p.1⟩ p.2
    else if x = Pl.wRaw then (Pl.rraw r).bind fun p => Pl.fin ⟨1, 0, 0, p.1⟩ p.2
    else none

theorem Pl.step_tick (r : List (List UInt8)) : Pl.stepOf (Pl.wTick :: r) = (Pl.rnum r).bind fun p => Pl.fin ⟨2, 0, p.1, []⟩ p.2 := by
  rw [Pl.stepOf, if_pos rfl]
theorem Pl.step_index (r : List (List UInt8)) : Pl.stepOf (Pl.wIndex :: r) = (Pl.rnum r).bind fun p => Pl.fin ⟨3, 0, p.1, []⟩ p.2 := by
  rw [Pl.stepOf, if_neg (by decide), if_pos rfl]
theorem Pl.step_bid (r : List (List UInt8)) : Pl.stepOf (Pl.wBid :: r) = (Pl.rin 255 r).bind fun p => (Pl.rnum p.2).bind fun q => Pl.fin ⟨4, p.1, q.1, []⟩ q.2 := by
  rw [Pl.stepOf, if_neg (by decide), if_neg (by decide), if_pos rfl]
theorem Pl.step_new (r : List (List UInt8)) : Pl.stepOf (Pl.wNew :: r) = (Pl.rcommand 1 r).bind fun p => Pl.fin ⟨1, 0, 0, Pl.form p.1⟩ p.2 := by
  rw [Pl.stepOf, if_neg (by decide), if_neg (by decide), if_neg (by decide), if_pos rfl]
theorem Pl.step_cancel (r : List (List UInt8)) : Pl.stepOf (Pl.wCancel :: r) = (Pl.rcommand 2 r).bind fun p => Pl.fin ⟨1, 0, 0, Pl.form p.1⟩ p.2 := by
  rw [Pl.stepOf, if_neg (by decide), if_neg (by decide), if_neg (by decide), if_neg (by decide), if_pos rfl]
theorem Pl.step_replace (r : List (List UInt8)) : Pl.stepOf (Pl.wReplace :: r) = (Pl.rcommand 3 r).bind fun p => Pl.fin ⟨1, 0, 0, Pl.form p.1⟩ p.2 := by
  rw [Pl.stepOf, if_neg (by decide), if_neg (by decide), if_neg (by decide), if_neg (by decide), if_neg (by decide), if_pos rfl]
theorem Pl.step_raw (r : List (List UInt8)) : Pl.stepOf (Pl.wRaw :: r) = (Pl.rraw r).bind fun p => Pl.fin ⟨1, 0, 0, p.1⟩ p.2 := by
  rw [Pl.stepOf, if_neg (by decide), if_neg (by decide), if_neg (by decide), if_neg (by decide), if_neg (by decide), if_neg (by decide), if_pos rfl]
theorem Pl.step_none {x : List UInt8} (r : List (List UInt8)) (h0 : ¬ x = Pl.wTick) (h1 : ¬ x = Pl.wIndex) (h2 : ¬ x = Pl.wBid) (h3 : ¬ x = Pl.wNew) (h4 : ¬ x = Pl.wCancel) (h5 : ¬ x = Pl.wReplace) (h6 : ¬ x = Pl.wRaw) : Pl.stepOf (x :: r) = none := by
  rw [Pl.stepOf, if_neg h0, if_neg h1, if_neg h2, if_neg h3, if_neg h4, if_neg h5, if_neg h6]

def StepPost (b : Nat) (o : Option Pl.St) (w : World) (e : Ending) (w' : World) : Prop :=
  w.grownBy w' (some b) ∧ match o with
    | some s => ∃ v, e = .returned (.agg (stepArr s.kind s.sym s.n v)) ∧ w'.ownsRow w.heap.size 5 1 v s.frame.length (byteCells s.frame)
    | none => e = malformed
theorem StepPost.mk_none {b : Nat} {w w' : World} {o : Option Pl.St} (ho : o = none) (hg : w.grownBy w' (some b)) : StepPost b o w malformed w' := by
  subst ho; exact ⟨hg, rfl⟩

/-- Behind the switch: the result's block holds the step, the reader what is left. -/
structure StepAt (B b : Nat) (w : World) (s : Pl.St) (v : Value) (r : List (List UInt8)) (W : World) : Prop where
  grow : w.grownBy W (some b)
  rdr : Rdr B W b r
  res : Blk W w.heap.size (stepArr s.kind s.sym s.n v) 42
  own : W.ownsRow (w.heap.size + 1) 5 1 v s.frame.length (byteCells s.frame)
  low : b < w.heap.size ∧ B ≤ w.heap.size
theorem StepAt.yes {b : Nat} {w W : World} {s : Pl.St} {v : Value} {r : List (List UInt8)} {o : Option Pl.St} (h : StepAt B b w s v r W) (ho : o = Pl.fin s r) (hr : r = []) : StepPost b o w (.returned (.agg (stepArr s.kind s.sym s.n v))) W := by
  rw [ho, Pl.fin, if_pos hr]
  exact ⟨h.grow, v, rfl, ownsRow_base (by omega) h.own⟩
theorem StepAt.no {b : Nat} {w W : World} {s : Pl.St} {v : Value} {r : List (List UInt8)} {o : Option Pl.St} (h : StepAt B b w s v r W) (ho : o = Pl.fin s r) (hr : r ≠ []) : StepPost b o w malformed W := by
  rw [ho, Pl.fin, if_neg hr]
  exact ⟨h.grow, rfl⟩
/-- Between two readings. -/
structure MidAt (B b : Nat) (w : World) (r : List (List UInt8)) (W : World) : Prop where
  grow : w.grownBy W (some b)
  rdr : Rdr B W b r
  res : Blk W w.heap.size #[.int .i64 0, .int .i64 0, .int .i64 0, .slice none 0 0] 42
  low : b < w.heap.size ∧ B ≤ w.heap.size
theorem MidAt.call {b : Nat} {w W W' : World} {r r' : List (List UInt8)} (h : MidAt B b w r W) (hg : W.grownBy W' (some b)) (hr : Rdr B W' b r') : MidAt B b w r' W' :=
  have hl := h.low
  ⟨h.grow.trans hg, hr, h.res.grown (by simp; omega) hg, hl⟩
theorem grownBy_setRow (w : World) (g : Nat) (cs : Array Value) : w.grownBy (w.setRow g cs) (some g) :=
  ⟨rfl, rfl, rfl, by simp, fun k _ hne => setRow_other w g k cs (fun e => hne (by rw [e]))⟩
theorem Blk.setRow {w : World} {g : Nat} {old : Array Value} {T : TypeId} (h : Blk w g old T) (cs : Array Value) : Blk (w.setRow g cs) g cs T := setRow_heap _ _ _ _ _ _ h
theorem Rdr.rowOther {w w' : World} {b g : Nat} {l : List (List UInt8)} (h : Rdr B w b l) (hw : w.grownBy w' (some g)) (hg : g ≠ b) (hB : B ≤ g) : Rdr B w' b l :=
  h.newRow hw (fun k e => by cases e; exact ⟨hg, hB⟩)
theorem MidAt.store {b : Nat} {w W : World} {r : List (List UInt8)} (s : Pl.St) {v : Value} (h : MidAt B b w r W) (ho : W.ownsRow (w.heap.size + 1) 5 1 v s.frame.length (byteCells s.frame)) :
    StepAt B b w s v r (W.setRow w.heap.size (stepArr s.kind s.sym s.n v)) := by
  have hl := h.low
  have hg := grownBy_setRow W w.heap.size (stepArr s.kind s.sym s.n v)
  exact ⟨grownBy_newRow h.grow hg (fun g e => by cases e; exact Nat.le_refl _), h.rdr.rowOther hg (by omega) hl.2, h.res.setRow _, ho.kept hg (.inr (fun e => by have := (ho.lt _ e).1; omega)), hl⟩
theorem StepAt.again {b : Nat} {w W : World} {s : Pl.St} {v : Value} {r : List (List UInt8)} (h : StepAt B b w s v r W) : StepAt B b w s v r (W.setRow w.heap.size (stepArr s.kind s.sym s.n v)) := by
  have hl := h.low
  have hg := grownBy_setRow W w.heap.size (stepArr s.kind s.sym s.n v)
  exact ⟨grownBy_newRow h.grow hg (fun g e => by cases e; exact Nat.le_refl _), h.rdr.rowOther hg (by omega) hl.2, h.res.setRow _, h.own.kept hg (.inr (fun e => by have := (h.own.lt _ e).1; omega)), hl⟩

set_option maxHeartbeats 4000000 in
set_option maxRecDepth 100000 in
theorem reader_step (b : Nat) (l : List (List UInt8)) (w : World) (h : Rdr B w b l) (hB : B ≤ w.heap.size) : Calls Tryd.prog 80 #[.pointer (some ⟨b, 0, none⟩)] w (StepPost b (Pl.stepOf l) w) := by
  have HN := Lib.hid (fun w' => @StepPost.mk_none b w w' (Pl.stepOf l))
  have hbl := h.lt
  have HM0 : Hid (MidAt B b w l (w.alloc (.cells #[.int .i64 0, .int .i64 0, .int .i64 0, .slice none 0 0] 42))) := ⟨World.grownBy_alloc _ _ _, h.grown rfl (World.grownBy_alloc _ _ _), Blk.alloc _ _, hbl, hB⟩
  clear h
  rcases l with _ | ⟨x, r⟩
  · have HC := Lib.hid (word_no b _ HM0.out.rdr)
    have HO := Lib.hid (show Pl.stepOf [] = none from rfl)
    go_enter Tryd.func80, Tryd.ntmps80
    go_wp2_with fail
    generalize w.alloc (.cells #[.int .i64 0, .int .i64 0, .int .i64 0, .slice none 0 0] 42) = w0 at *
    refine HC.out.mono ?_
    rintro e w1 ⟨rfl, rfl⟩
    unfold malformed
    go_wp2
    exact ⟨rfl, HN.out _ HO.out HM0.out.grow⟩
  have HC := Lib.hid (word_yes b x r _ HM0.out.rdr)
  go_enter Tryd.func80, Tryd.ntmps80
  go_wp2_with fail
  generalize w.alloc (.cells #[.int .i64 0, .int .i64 0, .int .i64 0, .slice none 0 0] 42) = w0 at *
  refine HC.out.mono ?_
  rintro e w1 ⟨rfl, hg, hr⟩
  have HM1 := Lib.hid (HM0.out.call hg hr)
  clear hg hr HC HM0
  by_cases hx0 : x = Pl.wTick
  · subst hx0
    skip
    have HE2 := Lib.hid (Pl.step_tick r)
    unfold Pl.wTick
    go_wp2_with fail
    rcases hn : Pl.rnum r with _ | ⟨n, r2⟩
    · have HO : Hid (Pl.stepOf (Pl.wTick :: r) = none) := by show _ = _; rw [HE2.out, hn]; rfl
      have HC := Lib.hid (calls_no (reader_num b r w1 HM1.out.rdr) hn)
      clear hn
      refine HC.out.mono ?_
      rintro e w2 ⟨rfl, hg⟩
      have HG := Lib.hid (HM1.out.grow.trans hg)
      clear hg HC
      unfold malformed
      go_wp2
      exact ⟨rfl, HN.out _ HO.out HG.out⟩
    have HC := Lib.hid (calls_yes (reader_num b r w1 HM1.out.rdr) hn)
    have HF := Lib.hid (HE2.out.trans (by rw [hn]; rfl : _ = Pl.fin ⟨2, 0, n, []⟩ r2))
    clear hn HE2
    refine HC.out.mono ?_
    rintro e w2 ⟨rfl, hg, hr⟩
    have HM2 := Lib.hid (HM1.out.call hg hr)
    clear hg hr HC HM1
    have HS := Lib.hid (HM2.out.store ⟨2, 0, n, []⟩ (World.ownsRow_nil _ _ _ _))
    obtain ⟨vr, hrb, hrs, hrl, _⟩ := HS.out.rdr
    have q0 := hrb.cell 0
    clear hrb
    by_cases hr2 : r2 = []
    · have HR2 := Lib.hid hr2
      have hlen : (strCells r2).length = 0 := by rw [hr2]; rfl
      clear hr2
      obtain ⟨p, cc, rfl⟩ : ∃ p cc, vr = .slice p 0 cc := by
        rcases hrs with ⟨rfl, _⟩ | ⟨g, o, c, rfl, _⟩
        · exact ⟨_, _, rfl⟩
        · exact ⟨_, _, by rw [hlen]⟩
      clear hrs hlen
      go_wp2_with (first | (go_at_call 135; refine (words_must_true _).mono ?_; rintro e w' ⟨rfl, rfl⟩) | (refine wpList_load_row rfl 42 _ rfl w.heap.size rfl 42 _ (0, 0) _ HS.out.res Tryd.underlying42 rfl (by kernel_rfl) ?_) | (refine wpList_store_row rfl 42 _ _ rfl w.heap.size (stepArr 2 0 n (.slice none 0 0)) rfl rfl 42 _ HM2.out.res (by kernel_rfl) rfl (by kernel_rfl) ?_) | (refine wpList_store_row rfl 42 _ _ rfl w.heap.size (stepArr 2 0 n (.slice none 0 0)) rfl rfl 42 _ HS.out.res (by kernel_rfl) rfl (by kernel_rfl) ?_))
      exact bodyPost_ret (v := .agg (stepArr 2 0 n (.slice none 0 0))) (results_cell_row rfl _ _ w.heap.size _ _ (0, 0) _ rfl HS.out.again.res Tryd.underlying42 rfl (by kernel_rfl)) rfl (HS.out.again.yes HF.out HR2.out)
    · have HR2 := Lib.hid hr2
      have hl0 : 0 < r2.length := List.length_pos_iff.2 hr2
      have hlen : (strCells r2).length = r2.length := by simp [strCells]
      clear hr2
      obtain ⟨p, cc, rfl⟩ : ∃ p cc, vr = .slice p r2.length cc := by
        rcases hrs with ⟨_, h0⟩ | ⟨g, o, c, rfl, _⟩
        · rw [h0] at hlen; simp at hlen; omega
        · exact ⟨_, _, by rw [hlen]⟩
      have hl0b : ((r2.length : Int) == 0) = false := by rw [beq_eq_false_iff_ne]; omega
      have hl1 : (r2.length : Int) ≤ 1000000000 := by omega
      clear hrs hlen hl0
      go_wp2_with (first | (go_at_call 135; refine (words_must_false _).mono ?_; rintro e w' ⟨rfl, rfl⟩; unfold malformed) | (refine wpList_load_row rfl 42 _ rfl w.heap.size rfl 42 _ (0, 0) _ HS.out.res Tryd.underlying42 rfl (by kernel_rfl) ?_) | (refine wpList_store_row rfl 42 _ _ rfl w.heap.size (stepArr 2 0 n (.slice none 0 0)) rfl rfl 42 _ HM2.out.res (by kernel_rfl) rfl (by kernel_rfl) ?_) | (refine wpList_store_row rfl 42 _ _ rfl w.heap.size (stepArr 2 0 n (.slice none 0 0)) rfl rfl 42 _ HS.out.res (by kernel_rfl) rfl (by kernel_rfl) ?_))
      exact ⟨rfl, HS.out.no HF.out HR2.out⟩
  by_cases hx1 : x = Pl.wIndex
  · subst hx1
    clear hx0
    have HE2 := Lib.hid (Pl.step_index r)
    unfold Pl.wIndex
    go_wp2_with fail
    rcases hn : Pl.rnum r with _ | ⟨n, r2⟩
    · have HO : Hid (Pl.stepOf (Pl.wIndex :: r) = none) := by show _ = _; rw [HE2.out, hn]; rfl
      have HC := Lib.hid (calls_no (reader_num b r w1 HM1.out.rdr) hn)
      clear hn
      refine HC.out.mono ?_
      rintro e w2 ⟨rfl, hg⟩
      have HG := Lib.hid (HM1.out.grow.trans hg)
      clear hg HC
      unfold malformed
      go_wp2
      exact ⟨rfl, HN.out _ HO.out HG.out⟩
    have HC := Lib.hid (calls_yes (reader_num b r w1 HM1.out.rdr) hn)
    have HF := Lib.hid (HE2.out.trans (by rw [hn]; rfl : _ = Pl.fin ⟨3, 0, n, []⟩ r2))
    clear hn HE2
    refine HC.out.mono ?_
    rintro e w2 ⟨rfl, hg, hr⟩
    have HM2 := Lib.hid (HM1.out.call hg hr)
    clear hg hr HC HM1
    have HS := Lib.hid (HM2.out.store ⟨3, 0, n, []⟩ (World.ownsRow_nil _ _ _ _))
    obtain ⟨vr, hrb, hrs, hrl, _⟩ := HS.out.rdr
    have q0 := hrb.cell 0
    clear hrb
    by_cases hr2 : r2 = []
    · have HR2 := Lib.hid hr2
      have hlen : (strCells r2).length = 0 := by rw [hr2]; rfl
      clear hr2
      obtain ⟨p, cc, rfl⟩ : ∃ p cc, vr = .slice p 0 cc := by
        rcases hrs with ⟨rfl, _⟩ | ⟨g, o, c, rfl, _⟩
        · exact ⟨_, _, rfl⟩
        · exact ⟨_, _, by rw [hlen]⟩
      clear hrs hlen
      go_wp2_with (first | (go_at_call 135; refine (words_must_true _).mono ?_; rintro e w' ⟨rfl, rfl⟩) | (refine wpList_load_row rfl 42 _ rfl w.heap.size rfl 42 _ (0, 0) _ HS.out.res Tryd.underlying42 rfl (by kernel_rfl) ?_) | (refine wpList_store_row rfl 42 _ _ rfl w.heap.size (stepArr 3 0 n (.slice none 0 0)) rfl rfl 42 _ HM2.out.res (by kernel_rfl) rfl (by kernel_rfl) ?_) | (refine wpList_store_row rfl 42 _ _ rfl w.heap.size (stepArr 3 0 n (.slice none 0 0)) rfl rfl 42 _ HS.out.res (by kernel_rfl) rfl (by kernel_rfl) ?_))
      exact bodyPost_ret (v := .agg (stepArr 3 0 n (.slice none 0 0))) (results_cell_row rfl _ _ w.heap.size _ _ (0, 0) _ rfl HS.out.again.res Tryd.underlying42 rfl (by kernel_rfl)) rfl (HS.out.again.yes HF.out HR2.out)
    · have HR2 := Lib.hid hr2
      have hl0 : 0 < r2.length := List.length_pos_iff.2 hr2
      have hlen : (strCells r2).length = r2.length := by simp [strCells]
      clear hr2
      obtain ⟨p, cc, rfl⟩ : ∃ p cc, vr = .slice p r2.length cc := by
        rcases hrs with ⟨_, h0⟩ | ⟨g, o, c, rfl, _⟩
        · rw [h0] at hlen; simp at hlen; omega
        · exact ⟨_, _, by rw [hlen]⟩
      have hl0b : ((r2.length : Int) == 0) = false := by rw [beq_eq_false_iff_ne]; omega
      have hl1 : (r2.length : Int) ≤ 1000000000 := by omega
      clear hrs hlen hl0
      go_wp2_with (first | (go_at_call 135; refine (words_must_false _).mono ?_; rintro e w' ⟨rfl, rfl⟩; unfold malformed) | (refine wpList_load_row rfl 42 _ rfl w.heap.size rfl 42 _ (0, 0) _ HS.out.res Tryd.underlying42 rfl (by kernel_rfl) ?_) | (refine wpList_store_row rfl 42 _ _ rfl w.heap.size (stepArr 3 0 n (.slice none 0 0)) rfl rfl 42 _ HM2.out.res (by kernel_rfl) rfl (by kernel_rfl) ?_) | (refine wpList_store_row rfl 42 _ _ rfl w.heap.size (stepArr 3 0 n (.slice none 0 0)) rfl rfl 42 _ HS.out.res (by kernel_rfl) rfl (by kernel_rfl) ?_))
      exact ⟨rfl, HS.out.no HF.out HR2.out⟩
  by_cases hx2 : x = Pl.wBid
  · subst hx2
    clear hx0 hx1
    have HE2 := Lib.hid (Pl.step_bid r)
    unfold Pl.wBid
    go_wp2_with fail
    rcases hn : Pl.rin 255 r with _ | ⟨n, r1⟩
    · have HO : Hid (Pl.stepOf (Pl.wBid :: r) = none) := by show _ = _; rw [HE2.out, hn]; rfl
      have HC := Lib.hid (calls_no (reader_in b r 255 w1 HM1.out.rdr) hn)
      clear hn
      refine HC.out.mono ?_
      rintro e w2 ⟨rfl, hg⟩
      have HG := Lib.hid (HM1.out.grow.trans hg)
      clear hg HC
      unfold malformed
      go_wp2
      exact ⟨rfl, HN.out _ HO.out HG.out⟩
    have HC := Lib.hid (calls_yes (reader_in b r 255 w1 HM1.out.rdr) hn)
    have HE3 := Lib.hid (HE2.out.trans (by rw [hn]; rfl : _ = (Pl.rnum r1).bind fun q => Pl.fin ⟨4, n, q.1, []⟩ q.2))
    clear hn HE2
    refine HC.out.mono ?_
    rintro e w11 ⟨rfl, hg, hr⟩
    have HM11 := Lib.hid (HM1.out.call hg hr)
    clear hg hr HC HM1
    go_wp2_with fail
    rcases hn : Pl.rnum r1 with _ | ⟨m, r2⟩
    · have HO : Hid (Pl.stepOf (Pl.wBid :: r) = none) := by show _ = _; rw [HE3.out, hn]; rfl
      have HC := Lib.hid (calls_no (reader_num b r1 w11 HM11.out.rdr) hn)
      clear hn
      refine HC.out.mono ?_
      rintro e w2 ⟨rfl, hg⟩
      have HG := Lib.hid (HM11.out.grow.trans hg)
      clear hg HC
      unfold malformed
      go_wp2
      exact ⟨rfl, HN.out _ HO.out HG.out⟩
    have HC := Lib.hid (calls_yes (reader_num b r1 w11 HM11.out.rdr) hn)
    have HF := Lib.hid (HE3.out.trans (by rw [hn]; rfl : _ = Pl.fin ⟨4, n, m, []⟩ r2))
    clear hn HE3
    refine HC.out.mono ?_
    rintro e w2 ⟨rfl, hg, hr⟩
    have HM2 := Lib.hid (HM11.out.call hg hr)
    clear hg hr HC HM11
    have HS := Lib.hid (HM2.out.store ⟨4, n, m, []⟩ (World.ownsRow_nil _ _ _ _))
    obtain ⟨vr, hrb, hrs, hrl, _⟩ := HS.out.rdr
    have q0 := hrb.cell 0
    clear hrb
    by_cases hr2 : r2 = []
    · have HR2 := Lib.hid hr2
      have hlen : (strCells r2).length = 0 := by rw [hr2]; rfl
      clear hr2
      obtain ⟨p, cc, rfl⟩ : ∃ p cc, vr = .slice p 0 cc := by
        rcases hrs with ⟨rfl, _⟩ | ⟨g, o, c, rfl, _⟩
        · exact ⟨_, _, rfl⟩
        · exact ⟨_, _, by rw [hlen]⟩
      clear hrs hlen
      go_wp2_with (first | (go_at_call 135; refine (words_must_true _).mono ?_; rintro e w' ⟨rfl, rfl⟩) | (refine wpList_load_row rfl 42 _ rfl w.heap.size rfl 42 _ (0, 0) _ HS.out.res Tryd.underlying42 rfl (by kernel_rfl) ?_) | (refine wpList_store_row rfl 42 _ _ rfl w.heap.size (stepArr 4 n m (.slice none 0 0)) rfl rfl 42 _ HM2.out.res (by kernel_rfl) rfl (by kernel_rfl) ?_) | (refine wpList_store_row rfl 42 _ _ rfl w.heap.size (stepArr 4 n m (.slice none 0 0)) rfl rfl 42 _ HS.out.res (by kernel_rfl) rfl (by kernel_rfl) ?_))
      exact bodyPost_ret (v := .agg (stepArr 4 n m (.slice none 0 0))) (results_cell_row rfl _ _ w.heap.size _ _ (0, 0) _ rfl HS.out.again.res Tryd.underlying42 rfl (by kernel_rfl)) rfl (HS.out.again.yes HF.out HR2.out)
    · have HR2 := Lib.hid hr2
      have hl0 : 0 < r2.length := List.length_pos_iff.2 hr2
      have hlen : (strCells r2).length = r2.length := by simp [strCells]
      clear hr2
      obtain ⟨p, cc, rfl⟩ : ∃ p cc, vr = .slice p r2.length cc := by
        rcases hrs with ⟨_, h0⟩ | ⟨g, o, c, rfl, _⟩
        · rw [h0] at hlen; simp at hlen; omega
        · exact ⟨_, _, by rw [hlen]⟩
      have hl0b : ((r2.length : Int) == 0) = false := by rw [beq_eq_false_iff_ne]; omega
      have hl1 : (r2.length : Int) ≤ 1000000000 := by omega
      clear hrs hlen hl0
      go_wp2_with (first | (go_at_call 135; refine (words_must_false _).mono ?_; rintro e w' ⟨rfl, rfl⟩; unfold malformed) | (refine wpList_load_row rfl 42 _ rfl w.heap.size rfl 42 _ (0, 0) _ HS.out.res Tryd.underlying42 rfl (by kernel_rfl) ?_) | (refine wpList_store_row rfl 42 _ _ rfl w.heap.size (stepArr 4 n m (.slice none 0 0)) rfl rfl 42 _ HM2.out.res (by kernel_rfl) rfl (by kernel_rfl) ?_) | (refine wpList_store_row rfl 42 _ _ rfl w.heap.size (stepArr 4 n m (.slice none 0 0)) rfl rfl 42 _ HS.out.res (by kernel_rfl) rfl (by kernel_rfl) ?_))
      exact ⟨rfl, HS.out.no HF.out HR2.out⟩
  by_cases hx3 : x = Pl.wNew
  · subst hx3
    clear hx0 hx1 hx2
    have HE2 := Lib.hid (Pl.step_new r)
    unfold Pl.wNew
    go_wp2_with fail
    have HC := Lib.hid (reader_command b 1 r w1 HM1.out.rdr (Nat.le_trans HM1.out.low.2 HM1.out.grow.size) (by decide))
    rcases hn : Pl.rcommand 1 r with _ | ⟨c, r2⟩
    · have HO : Hid (Pl.stepOf (Pl.wNew :: r) = none) := by show _ = _; rw [HE2.out, hn]; rfl
      rw [hn] at HC
      clear hn
      refine HC.out.mono ?_
      rintro e w2 ⟨hg, rfl⟩
      have HG := Lib.hid (HM1.out.grow.trans hg)
      clear hg HC
      unfold malformed
      go_wp2
      exact ⟨rfl, HN.out _ HO.out HG.out⟩
    have HF := Lib.hid (HE2.out.trans (by rw [hn]; rfl : _ = Pl.fin ⟨1, 0, 0, Pl.form c⟩ r2))
    rw [hn] at HC
    clear hn HE2
    refine HC.out.mono ?_
    rintro e w2 ⟨hg, v, rfl, hr, hown⟩
    have HM2 := Lib.hid (HM1.out.call hg hr)
    have HW := Lib.hid (ownsRow_base (b' := w.heap.size + 1) HM1.out.res.lt hown)
    obtain ⟨p0, m0, rfl⟩ := ownsRow_slice hown
    clear hg hr hown HC HM1
    generalize hfr : Pl.form c = fr at *
    have HFR := Lib.hid hfr
    clear hfr
    unfold stepArr
    have HS := Lib.hid (HM2.out.store ⟨1, 0, 0, fr⟩ HW.out)
    obtain ⟨vr, hrb, hrs, hrl, _⟩ := HS.out.rdr
    have q0 := hrb.cell 0
    clear hrb
    by_cases hr2 : r2 = []
    · have HR2 := Lib.hid hr2
      have hlen : (strCells r2).length = 0 := by rw [hr2]; rfl
      clear hr2
      obtain ⟨p, cc, rfl⟩ : ∃ p cc, vr = .slice p 0 cc := by
        rcases hrs with ⟨rfl, _⟩ | ⟨g, o, c, rfl, _⟩
        · exact ⟨_, _, rfl⟩
        · exact ⟨_, _, by rw [hlen]⟩
      clear hrs hlen
      go_wp2_with (first | (go_at_call 135; refine (words_must_true _).mono ?_; rintro e w' ⟨rfl, rfl⟩) | (refine wpList_load_row rfl 42 _ rfl w.heap.size rfl 42 _ (0, 0) _ HS.out.res Tryd.underlying42 rfl (by kernel_rfl) ?_) | (refine wpList_store_row rfl 42 _ _ rfl w.heap.size (stepArr 1 0 0 (.slice p0 fr.length m0)) rfl rfl 42 _ HM2.out.res (by kernel_rfl) rfl (by kernel_rfl) ?_) | (refine wpList_store_row rfl 42 _ _ rfl w.heap.size (stepArr 1 0 0 (.slice p0 fr.length m0)) rfl rfl 42 _ HS.out.res (by kernel_rfl) rfl (by kernel_rfl) ?_))
      exact bodyPost_ret (v := .agg (stepArr 1 0 0 (.slice p0 fr.length m0))) (results_cell_row rfl _ _ w.heap.size _ _ (0, 0) _ rfl HS.out.again.res Tryd.underlying42 rfl (by kernel_rfl)) rfl (HS.out.again.yes HF.out HR2.out)
    · have HR2 := Lib.hid hr2
      have hl0 : 0 < r2.length := List.length_pos_iff.2 hr2
      have hlen : (strCells r2).length = r2.length := by simp [strCells]
      clear hr2
      obtain ⟨p, cc, rfl⟩ : ∃ p cc, vr = .slice p r2.length cc := by
        rcases hrs with ⟨_, h0⟩ | ⟨g, o, c, rfl, _⟩
        · rw [h0] at hlen; simp at hlen; omega
        · exact ⟨_, _, by rw [hlen]⟩
      have hl0b : ((r2.length : Int) == 0) = false := by rw [beq_eq_false_iff_ne]; omega
      have hl1 : (r2.length : Int) ≤ 1000000000 := by omega
      clear hrs hlen hl0
      go_wp2_with (first | (go_at_call 135; refine (words_must_false _).mono ?_; rintro e w' ⟨rfl, rfl⟩; unfold malformed) | (refine wpList_load_row rfl 42 _ rfl w.heap.size rfl 42 _ (0, 0) _ HS.out.res Tryd.underlying42 rfl (by kernel_rfl) ?_) | (refine wpList_store_row rfl 42 _ _ rfl w.heap.size (stepArr 1 0 0 (.slice p0 fr.length m0)) rfl rfl 42 _ HM2.out.res (by kernel_rfl) rfl (by kernel_rfl) ?_) | (refine wpList_store_row rfl 42 _ _ rfl w.heap.size (stepArr 1 0 0 (.slice p0 fr.length m0)) rfl rfl 42 _ HS.out.res (by kernel_rfl) rfl (by kernel_rfl) ?_))
      exact ⟨rfl, HS.out.no HF.out HR2.out⟩
  by_cases hx4 : x = Pl.wCancel
  · subst hx4
    clear hx0 hx1 hx2 hx3
    have HE2 := Lib.hid (Pl.step_cancel r)
    unfold Pl.wCancel
    go_wp2_with fail
    have HC := Lib.hid (reader_command b 2 r w1 HM1.out.rdr (Nat.le_trans HM1.out.low.2 HM1.out.grow.size) (by decide))
    rcases hn : Pl.rcommand 2 r with _ | ⟨c, r2⟩
    · have HO : Hid (Pl.stepOf (Pl.wCancel :: r) = none) := by show _ = _; rw [HE2.out, hn]; rfl
      rw [hn] at HC
      clear hn
      refine HC.out.mono ?_
      rintro e w2 ⟨hg, rfl⟩
      have HG := Lib.hid (HM1.out.grow.trans hg)
      clear hg HC
      unfold malformed
      go_wp2
      exact ⟨rfl, HN.out _ HO.out HG.out⟩
    have HF := Lib.hid (HE2.out.trans (by rw [hn]; rfl : _ = Pl.fin ⟨1, 0, 0, Pl.form c⟩ r2))
    rw [hn] at HC
    clear hn HE2
    refine HC.out.mono ?_
    rintro e w2 ⟨hg, v, rfl, hr, hown⟩
    have HM2 := Lib.hid (HM1.out.call hg hr)
    have HW := Lib.hid (ownsRow_base (b' := w.heap.size + 1) HM1.out.res.lt hown)
    obtain ⟨p0, m0, rfl⟩ := ownsRow_slice hown
    clear hg hr hown HC HM1
    generalize hfr : Pl.form c = fr at *
    have HFR := Lib.hid hfr
    clear hfr
    unfold stepArr
    have HS := Lib.hid (HM2.out.store ⟨1, 0, 0, fr⟩ HW.out)
    obtain ⟨vr, hrb, hrs, hrl, _⟩ := HS.out.rdr
    have q0 := hrb.cell 0
    clear hrb
    by_cases hr2 : r2 = []
    · have HR2 := Lib.hid hr2
      have hlen : (strCells r2).length = 0 := by rw [hr2]; rfl
      clear hr2
      obtain ⟨p, cc, rfl⟩ : ∃ p cc, vr = .slice p 0 cc := by
        rcases hrs with ⟨rfl, _⟩ | ⟨g, o, c, rfl, _⟩
        · exact ⟨_, _, rfl⟩
        · exact ⟨_, _, by rw [hlen]⟩
      clear hrs hlen
      go_wp2_with (first | (go_at_call 135; refine (words_must_true _).mono ?_; rintro e w' ⟨rfl, rfl⟩) | (refine wpList_load_row rfl 42 _ rfl w.heap.size rfl 42 _ (0, 0) _ HS.out.res Tryd.underlying42 rfl (by kernel_rfl) ?_) | (refine wpList_store_row rfl 42 _ _ rfl w.heap.size (stepArr 1 0 0 (.slice p0 fr.length m0)) rfl rfl 42 _ HM2.out.res (by kernel_rfl) rfl (by kernel_rfl) ?_) | (refine wpList_store_row rfl 42 _ _ rfl w.heap.size (stepArr 1 0 0 (.slice p0 fr.length m0)) rfl rfl 42 _ HS.out.res (by kernel_rfl) rfl (by kernel_rfl) ?_))
      exact bodyPost_ret (v := .agg (stepArr 1 0 0 (.slice p0 fr.length m0))) (results_cell_row rfl _ _ w.heap.size _ _ (0, 0) _ rfl HS.out.again.res Tryd.underlying42 rfl (by kernel_rfl)) rfl (HS.out.again.yes HF.out HR2.out)
    · have HR2 := Lib.hid hr2
      have hl0 : 0 < r2.length := List.length_pos_iff.2 hr2
      have hlen : (strCells r2).length = r2.length := by simp [strCells]
      clear hr2
      obtain ⟨p, cc, rfl⟩ : ∃ p cc, vr = .slice p r2.length cc := by
        rcases hrs with ⟨_, h0⟩ | ⟨g, o, c, rfl, _⟩
        · rw [h0] at hlen; simp at hlen; omega
        · exact ⟨_, _, by rw [hlen]⟩
      have hl0b : ((r2.length : Int) == 0) = false := by rw [beq_eq_false_iff_ne]; omega
      have hl1 : (r2.length : Int) ≤ 1000000000 := by omega
      clear hrs hlen hl0
      go_wp2_with (first | (go_at_call 135; refine (words_must_false _).mono ?_; rintro e w' ⟨rfl, rfl⟩; unfold malformed) | (refine wpList_load_row rfl 42 _ rfl w.heap.size rfl 42 _ (0, 0) _ HS.out.res Tryd.underlying42 rfl (by kernel_rfl) ?_) | (refine wpList_store_row rfl 42 _ _ rfl w.heap.size (stepArr 1 0 0 (.slice p0 fr.length m0)) rfl rfl 42 _ HM2.out.res (by kernel_rfl) rfl (by kernel_rfl) ?_) | (refine wpList_store_row rfl 42 _ _ rfl w.heap.size (stepArr 1 0 0 (.slice p0 fr.length m0)) rfl rfl 42 _ HS.out.res (by kernel_rfl) rfl (by kernel_rfl) ?_))
      exact ⟨rfl, HS.out.no HF.out HR2.out⟩
  by_cases hx5 : x = Pl.wReplace
  · subst hx5
    clear hx0 hx1 hx2 hx3 hx4
    have HE2 := Lib.hid (Pl.step_replace r)
    unfold Pl.wReplace
    go_wp2_with fail
    have HC := Lib.hid (reader_command b 3 r w1 HM1.out.rdr (Nat.le_trans HM1.out.low.2 HM1.out.grow.size) (by decide))
    rcases hn : Pl.rcommand 3 r with _ | ⟨c, r2⟩
    · have HO : Hid (Pl.stepOf (Pl.wReplace :: r) = none) := by show _ = _; rw [HE2.out, hn]; rfl
      rw [hn] at HC
      clear hn
      refine HC.out.mono ?_
      rintro e w2 ⟨hg, rfl⟩
      have HG := Lib.hid (HM1.out.grow.trans hg)
      clear hg HC
      unfold malformed
      go_wp2
      exact ⟨rfl, HN.out _ HO.out HG.out⟩
    have HF := Lib.hid (HE2.out.trans (by rw [hn]; rfl : _ = Pl.fin ⟨1, 0, 0, Pl.form c⟩ r2))
    rw [hn] at HC
    clear hn HE2
    refine HC.out.mono ?_
    rintro e w2 ⟨hg, v, rfl, hr, hown⟩
    have HM2 := Lib.hid (HM1.out.call hg hr)
    have HW := Lib.hid (ownsRow_base (b' := w.heap.size + 1) HM1.out.res.lt hown)
    obtain ⟨p0, m0, rfl⟩ := ownsRow_slice hown
    clear hg hr hown HC HM1
    generalize hfr : Pl.form c = fr at *
    have HFR := Lib.hid hfr
    clear hfr
    unfold stepArr
    have HS := Lib.hid (HM2.out.store ⟨1, 0, 0, fr⟩ HW.out)
    obtain ⟨vr, hrb, hrs, hrl, _⟩ := HS.out.rdr
    have q0 := hrb.cell 0
    clear hrb
    by_cases hr2 : r2 = []
    · have HR2 := Lib.hid hr2
      have hlen : (strCells r2).length = 0 := by rw [hr2]; rfl
      clear hr2
      obtain ⟨p, cc, rfl⟩ : ∃ p cc, vr = .slice p 0 cc := by
        rcases hrs with ⟨rfl, _⟩ | ⟨g, o, c, rfl, _⟩
        · exact ⟨_, _, rfl⟩
        · exact ⟨_, _, by rw [hlen]⟩
      clear hrs hlen
      go_wp2_with (first | (go_at_call 135; refine (words_must_true _).mono ?_; rintro e w' ⟨rfl, rfl⟩) | (refine wpList_load_row rfl 42 _ rfl w.heap.size rfl 42 _ (0, 0) _ HS.out.res Tryd.underlying42 rfl (by kernel_rfl) ?_) | (refine wpList_store_row rfl 42 _ _ rfl w.heap.size (stepArr 1 0 0 (.slice p0 fr.length m0)) rfl rfl 42 _ HM2.out.res (by kernel_rfl) rfl (by kernel_rfl) ?_) | (refine wpList_store_row rfl 42 _ _ rfl w.heap.size (stepArr 1 0 0 (.slice p0 fr.length m0)) rfl rfl 42 _ HS.out.res (by kernel_rfl) rfl (by kernel_rfl) ?_))
      exact bodyPost_ret (v := .agg (stepArr 1 0 0 (.slice p0 fr.length m0))) (results_cell_row rfl _ _ w.heap.size _ _ (0, 0) _ rfl HS.out.again.res Tryd.underlying42 rfl (by kernel_rfl)) rfl (HS.out.again.yes HF.out HR2.out)
    · have HR2 := Lib.hid hr2
      have hl0 : 0 < r2.length := List.length_pos_iff.2 hr2
      have hlen : (strCells r2).length = r2.length := by simp [strCells]
      clear hr2
      obtain ⟨p, cc, rfl⟩ : ∃ p cc, vr = .slice p r2.length cc := by
        rcases hrs with ⟨_, h0⟩ | ⟨g, o, c, rfl, _⟩
        · rw [h0] at hlen; simp at hlen; omega
        · exact ⟨_, _, by rw [hlen]⟩
      have hl0b : ((r2.length : Int) == 0) = false := by rw [beq_eq_false_iff_ne]; omega
      have hl1 : (r2.length : Int) ≤ 1000000000 := by omega
      clear hrs hlen hl0
      go_wp2_with (first | (go_at_call 135; refine (words_must_false _).mono ?_; rintro e w' ⟨rfl, rfl⟩; unfold malformed) | (refine wpList_load_row rfl 42 _ rfl w.heap.size rfl 42 _ (0, 0) _ HS.out.res Tryd.underlying42 rfl (by kernel_rfl) ?_) | (refine wpList_store_row rfl 42 _ _ rfl w.heap.size (stepArr 1 0 0 (.slice p0 fr.length m0)) rfl rfl 42 _ HM2.out.res (by kernel_rfl) rfl (by kernel_rfl) ?_) | (refine wpList_store_row rfl 42 _ _ rfl w.heap.size (stepArr 1 0 0 (.slice p0 fr.length m0)) rfl rfl 42 _ HS.out.res (by kernel_rfl) rfl (by kernel_rfl) ?_))
      exact ⟨rfl, HS.out.no HF.out HR2.out⟩
  by_cases hx6 : x = Pl.wRaw
  · subst hx6
    clear hx0 hx1 hx2 hx3 hx4 hx5
    have HE2 := Lib.hid (Pl.step_raw r)
    unfold Pl.wRaw
    go_wp2_with fail
    have HC := Lib.hid (reader_raw b r w1 HM1.out.rdr (Nat.le_trans HM1.out.low.2 HM1.out.grow.size))
    rcases hn : Pl.rraw r with _ | ⟨c, r2⟩
    · have HO : Hid (Pl.stepOf (Pl.wRaw :: r) = none) := by show _ = _; rw [HE2.out, hn]; rfl
      rw [hn] at HC
      clear hn
      refine HC.out.mono ?_
      rintro e w2 ⟨hg, rfl⟩
      have HG := Lib.hid (HM1.out.grow.trans hg)
      clear hg HC
      unfold malformed
      go_wp2
      exact ⟨rfl, HN.out _ HO.out HG.out⟩
    have HF := Lib.hid (HE2.out.trans (by rw [hn]; rfl : _ = Pl.fin ⟨1, 0, 0, c⟩ r2))
    rw [hn] at HC
    clear hn HE2
    refine HC.out.mono ?_
    rintro e w2 ⟨hg, v, rfl, hr, hown⟩
    have HM2 := Lib.hid (HM1.out.call hg hr)
    have HW := Lib.hid (ownsRow_base (b' := w.heap.size + 1) HM1.out.res.lt hown)
    obtain ⟨p0, m0, rfl⟩ := ownsRow_slice hown
    clear hg hr hown HC HM1
    generalize hfr : c = fr at *
    have HFR := Lib.hid hfr
    clear hfr
    unfold stepArr
    have HS := Lib.hid (HM2.out.store ⟨1, 0, 0, fr⟩ HW.out)
    obtain ⟨vr, hrb, hrs, hrl, _⟩ := HS.out.rdr
    have q0 := hrb.cell 0
    clear hrb
    by_cases hr2 : r2 = []
    · have HR2 := Lib.hid hr2
      have hlen : (strCells r2).length = 0 := by rw [hr2]; rfl
      clear hr2
      obtain ⟨p, cc, rfl⟩ : ∃ p cc, vr = .slice p 0 cc := by
        rcases hrs with ⟨rfl, _⟩ | ⟨g, o, c, rfl, _⟩
        · exact ⟨_, _, rfl⟩
        · exact ⟨_, _, by rw [hlen]⟩
      clear hrs hlen
      go_wp2_with (first | (go_at_call 135; refine (words_must_true _).mono ?_; rintro e w' ⟨rfl, rfl⟩) | (refine wpList_load_row rfl 42 _ rfl w.heap.size rfl 42 _ (0, 0) _ HS.out.res Tryd.underlying42 rfl (by kernel_rfl) ?_) | (refine wpList_store_row rfl 42 _ _ rfl w.heap.size (stepArr 1 0 0 (.slice p0 fr.length m0)) rfl rfl 42 _ HM2.out.res (by kernel_rfl) rfl (by kernel_rfl) ?_) | (refine wpList_store_row rfl 42 _ _ rfl w.heap.size (stepArr 1 0 0 (.slice p0 fr.length m0)) rfl rfl 42 _ HS.out.res (by kernel_rfl) rfl (by kernel_rfl) ?_))
      exact bodyPost_ret (v := .agg (stepArr 1 0 0 (.slice p0 fr.length m0))) (results_cell_row rfl _ _ w.heap.size _ _ (0, 0) _ rfl HS.out.again.res Tryd.underlying42 rfl (by kernel_rfl)) rfl (HS.out.again.yes HF.out HR2.out)
    · have HR2 := Lib.hid hr2
      have hl0 : 0 < r2.length := List.length_pos_iff.2 hr2
      have hlen : (strCells r2).length = r2.length := by simp [strCells]
      clear hr2
      obtain ⟨p, cc, rfl⟩ : ∃ p cc, vr = .slice p r2.length cc := by
        rcases hrs with ⟨_, h0⟩ | ⟨g, o, c, rfl, _⟩
        · rw [h0] at hlen; simp at hlen; omega
        · exact ⟨_, _, by rw [hlen]⟩
      have hl0b : ((r2.length : Int) == 0) = false := by rw [beq_eq_false_iff_ne]; omega
      have hl1 : (r2.length : Int) ≤ 1000000000 := by omega
      clear hrs hlen hl0
      go_wp2_with (first | (go_at_call 135; refine (words_must_false _).mono ?_; rintro e w' ⟨rfl, rfl⟩; unfold malformed) | (refine wpList_load_row rfl 42 _ rfl w.heap.size rfl 42 _ (0, 0) _ HS.out.res Tryd.underlying42 rfl (by kernel_rfl) ?_) | (refine wpList_store_row rfl 42 _ _ rfl w.heap.size (stepArr 1 0 0 (.slice p0 fr.length m0)) rfl rfl 42 _ HM2.out.res (by kernel_rfl) rfl (by kernel_rfl) ?_) | (refine wpList_store_row rfl 42 _ _ rfl w.heap.size (stepArr 1 0 0 (.slice p0 fr.length m0)) rfl rfl 42 _ HS.out.res (by kernel_rfl) rfl (by kernel_rfl) ?_))
      exact ⟨rfl, HS.out.no HF.out HR2.out⟩
  have HO := Lib.hid (Pl.step_none r hx0 hx1 hx2 hx3 hx4 hx5 hx6)
  have b0 : (x == [116, 105, 99, 107]) = false := by rw [beq_eq_false_iff_ne]; exact hx0
  have b1 : (x == [105, 110, 100, 101, 120]) = false := by rw [beq_eq_false_iff_ne]; exact hx1
  have b2 : (x == [98, 105, 100]) = false := by rw [beq_eq_false_iff_ne]; exact hx2
  have b3 : (x == [110, 101, 119]) = false := by rw [beq_eq_false_iff_ne]; exact hx3
  have b4 : (x == [99, 97, 110, 99, 101, 108]) = false := by rw [beq_eq_false_iff_ne]; exact hx4
  have b5 : (x == [114, 101, 112, 108, 97, 99, 101]) = false := by rw [beq_eq_false_iff_ne]; exact hx5
  have b6 : (x == [114, 97, 119]) = false := by rw [beq_eq_false_iff_ne]; exact hx6
  clear hx0 hx1 hx2 hx3 hx4 hx5 hx6
  go_wp2_with (go_at_call 135; refine (words_must_false _).mono ?_; rintro e w' ⟨rfl, rfl⟩; unfold malformed)
  exact ⟨rfl, HN.out _ HO.out HM1.out.grow⟩

end Go.Proofs.YtbcepdacfmbekaaDoor
