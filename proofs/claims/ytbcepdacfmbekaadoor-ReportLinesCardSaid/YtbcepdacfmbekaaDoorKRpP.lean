/-
  The walk of report.Parse.
-/
import Derived.Test.YtbcepdacfmbekaaDoorKRLn
import Derived.Test.YtbcepdacfmbekaaDoorKSpl
namespace Go.Proofs.YtbcepdacfmbekaaDoor
open Go.RowKit

theorem results_ct {P : Program} {fn : Func} {p q : Tmp} {T : TypeId} (h : fn.results = #[.cell p T, .tmp q]) (tmps : Array Value) (w : World) (b : Nat) (cs : Array Value) (T' : TypeId) (u : Value) (d : TypeDesc)
    (hp : tmps.getD p undef = .pointer (some ⟨b, 0, none⟩)) (ht : tmps.getD q undef = u) (hb : Blk w b cs T') (hu : P.underlying T = some d) (hd : (match d with | .struct _ | .array _ _ => true | _ => false) = true) (hi : (P.info? T).map (·.size) = some cs.size) :
    (results fn tmps).run P w = .ok (.tuple #[.agg cs, u]) w := by
  subst ht
  have hl := run_loadVar_row (P := P) w b T' T cs (0, 0) d hb hu hd hi
  have hp' : tmps[p]?.getD undef = .pointer (some ⟨b, 0, none⟩) := by simpa using hp
  simp [results, h, hp', asAddr, hl]
theorem below_setRow3 {w w' : World} {B b : Nat} {cs : Array Value} (h : Below B w w') (hb : B ≤ b) : Below B w (w'.setRow b cs) :=
  ⟨h.os, h.tape, h.output, by rw [setRow_size]; exact h.size, fun k hk => (setRow_other w' b k cs (by omega)).trans (h.block k hk)⟩

def zeroMsg : Pl.Msg := ⟨0, 0, 0, 0, 0, 0, 0, 0, 0⟩
def MsgPost (l : List UInt8) (w : World) (e : Ending) (w' : World) : Prop := Below w.heap.size w w' ∧ match Pl.mparse l with
  | some m => e = .returned (.tuple #[.agg m.arr, .int .i64 0])
  | none => e = .returned (.tuple #[.agg zeroMsg.arr, .int .i64 4])
theorem MsgPost.no {l : List UInt8} {w w' : World} (h : Pl.mparse l = none) (hb : Below w.heap.size w w') : MsgPost l w (.returned (.tuple #[.agg zeroMsg.arr, .int .i64 4])) w' := by
  unfold MsgPost; rw [h]; exact ⟨hb, rfl⟩
theorem MsgPost.yes {l : List UInt8} {w w' : World} {m : Pl.Msg} (h : Pl.mparse l = some m) (hb : Below w.heap.size w w') : MsgPost l w (.returned (.tuple #[.agg m.arr, .int .i64 0])) w' := by
  unfold MsgPost; rw [h]; exact ⟨hb, rfl⟩

def kindAt (ws : List (List UInt8)) : Int := Pl.kindOf (ws.getD 3 [])
/-- The message's block when the first k words have been read. -/
def mcells (ws : List (List UInt8)) : Nat → Array Value
  | 0 => #[.int .i64 0, .int .i64 0, .int .i64 0, .int .i64 0, .int .i64 0, .int .i64 0, .int .i64 0, .int .i64 0, .int .i64 0]
  | 1 => #[.int .i64 0, .int .i64 0, .int .i64 (Pl.numAt ws 0), .int .i64 0, .int .i64 0, .int .i64 0, .int .i64 0, .int .i64 0, .int .i64 0]
  | 2 => #[.int .i64 0, .int .i64 0, .int .i64 (Pl.numAt ws 0), .int .i64 (Pl.numAt ws 1), .int .i64 0, .int .i64 0, .int .i64 0, .int .i64 0, .int .i64 0]
  | 3 => #[.int .i64 0, .int .i64 0, .int .i64 (Pl.numAt ws 0), .int .i64 (Pl.numAt ws 1), .int .i64 0, .int .i64 0, .int .i64 0, .int .i64 0, .int .i64 0]
  | 4 => #[.int .i64 (kindAt ws), .int .i64 0, .int .i64 (Pl.numAt ws 0), .int .i64 (Pl.numAt ws 1), .int .i64 0, .int .i64 0, .int .i64 0, .int .i64 0, .int .i64 0]
  | 5 => #[.int .i64 (kindAt ws), .int .i64 0, .int .i64 (Pl.numAt ws 0), .int .i64 (Pl.numAt ws 1), .int .i64 (Pl.numAt ws 4), .int .i64 0, .int .i64 0, .int .i64 0, .int .i64 0]
  | 6 => #[.int .i64 (kindAt ws), .int .i64 0, .int .i64 (Pl.numAt ws 0), .int .i64 (Pl.numAt ws 1), .int .i64 (Pl.numAt ws 4), .int .i64 (Pl.numAt ws 5), .int .i64 0, .int .i64 0, .int .i64 0]
  | 7 => #[.int .i64 (kindAt ws), .int .i64 0, .int .i64 (Pl.numAt ws 0), .int .i64 (Pl.numAt ws 1), .int .i64 (Pl.numAt ws 4), .int .i64 (Pl.numAt ws 5), .int .i64 (Pl.numAt ws 6), .int .i64 0, .int .i64 0]
  | 8 => #[.int .i64 (kindAt ws), .int .i64 0, .int .i64 (Pl.numAt ws 0), .int .i64 (Pl.numAt ws 1), .int .i64 (Pl.numAt ws 4), .int .i64 (Pl.numAt ws 5), .int .i64 (Pl.numAt ws 6), .int .i64 (Pl.numAt ws 7), .int .i64 0]
  | _ => #[.int .i64 (kindAt ws), .int .i64 0, .int .i64 (Pl.numAt ws 0), .int .i64 (Pl.numAt ws 1), .int .i64 (Pl.numAt ws 4), .int .i64 (Pl.numAt ws 5), .int .i64 (Pl.numAt ws 6), .int .i64 (Pl.numAt ws 7), .int .i64 0]
def symCell (ws : List (List UInt8)) (k : Nat) : Int := if 2 < k then Pl.numAt ws 2 else 0
def codeCell (ws : List (List UInt8)) (k : Nat) : Int := if 8 < k then Pl.numAt ws 8 else 0
theorem symCell_same {ws : List (List UInt8)} {k : Nat} (h : k ≠ 2) : symCell ws (k + 1) = symCell ws k := by
  unfold symCell
  by_cases c : 2 < k
  · rw [if_pos c, if_pos (by omega)]
  · rw [if_neg c, if_neg (by omega)]
theorem codeCell_same {ws : List (List UInt8)} {k : Nat} (h : k ≠ 8) : codeCell ws (k + 1) = codeCell ws k := by
  unfold codeCell
  by_cases c : 8 < k
  · rw [if_pos c, if_pos (by omega)]
  · rw [if_neg c, if_neg (by omega)]
structure MpAt (w : World) (ws : List (List UInt8)) (sb : Nat) (k : Nat) (W : World) : Prop where
  below : Below w.heap.size w W
  msg : Blk W w.heap.size (mcells ws k) 62
  sym : Blk W sb #[.int .i64 (symCell ws k)] 2
  code : Blk W (sb + 1) #[.int .i64 (codeCell ws k)] 2
  hb : w.heap.size < sb
theorem MpAt.quiet {w W W' : World} {ws : List (List UInt8)} {sb k : Nat} (h : MpAt w ws sb k W) (hb : Below W.heap.size W W') : MpAt w ws sb k W' := by
  obtain ⟨h1, h2, h3, h4, h5⟩ := h
  exact ⟨h1.trans (hb.mono h1.size), h2.below h2.lt hb, h3.below h3.lt hb, h4.below h4.lt hb, h5⟩
theorem MpAt.field {w W : World} {ws : List (List UInt8)} {sb k o : Nat} {x : Value} (h : MpAt w ws sb k W) (hm : mcells ws (k + 1) = (mcells ws k).setIfInBounds o x) (h2 : k ≠ 2) (h8 : k ≠ 8) : MpAt w ws sb (k + 1) (W.setCell ⟨w.heap.size, o, none⟩ x) := by
  obtain ⟨h1, h2', h3, h4, h5⟩ := h
  refine ⟨h1.setCell (p := ⟨w.heap.size, o, none⟩) (Nat.le_refl _) _, ?_, ?_, ?_, h5⟩
  · rw [hm]; exact h2'.set o x
  · rw [symCell_same h2]; exact h3.set_other _ (by simp; omega) _
  · rw [codeCell_same h8]; exact h4.set_other _ (by simp; omega) _
theorem MpAt.setSym {w W : World} {ws : List (List UInt8)} {sb : Nat} (h : MpAt w ws sb 2 W) : MpAt w ws sb 3 (W.setCell ⟨sb, 0, none⟩ (.int .i64 (Pl.numAt ws 2))) := by
  obtain ⟨h1, h2, h3, h4, h5⟩ := h
  exact ⟨h1.setCell (p := ⟨sb, 0, none⟩) (by simp; omega) _, h2.set_other _ (by simp; omega) _, h3.set 0 _, h4.set_other _ (by simp) _, h5⟩
theorem MpAt.setCode {w W : World} {ws : List (List UInt8)} {sb : Nat} (h : MpAt w ws sb 8 W) : MpAt w ws sb 9 (W.setCell ⟨sb + 1, 0, none⟩ (.int .i64 (Pl.numAt ws 8))) := by
  obtain ⟨h1, h2, h3, h4, h5⟩ := h
  exact ⟨h1.setCell (p := ⟨sb + 1, 0, none⟩) (by simp; omega) _, h2.set_other _ (by simp; omega) _, h3.set_other _ (by simp) _, h4.set 0 _, h5⟩
/-- The words so far are numbers. -/
def okUpto (ws : List (List UInt8)) (k : Nat) : Prop := ∀ j, j < k → j ≠ 3 → Pl.okAt ws j = true
theorem okUpto.succ {ws : List (List UInt8)} {k : Nat} (h : okUpto ws k) (hk : k = 3 ∨ Pl.okAt ws k = true) : okUpto ws (k + 1) := by
  intro j hj h3
  by_cases e : j = k
  · subst e
    rcases hk with hk | hk
    · exact absurd hk h3
    · exact hk
  · exact h j (by omega) h3
theorem okUpto.all {ws : List (List UInt8)} (h : okUpto ws 9) : Pl.allOk ws = true := by
  unfold Pl.allOk
  rw [h 0 (by omega) (by omega), h 1 (by omega) (by omega), h 2 (by omega) (by omega), h 4 (by omega) (by omega), h 5 (by omega) (by omega), h 6 (by omega) (by omega), h 7 (by omega) (by omega), h 8 (by omega) (by omega)]
  rfl
theorem allOk_not {ws : List (List UInt8)} {k : Nat} (hk : k < 9) (h3 : k ≠ 3) (h : Pl.okAt ws k = false) : Pl.allOk ws = false := by
  unfold Pl.allOk
  obtain rfl | rfl | rfl | rfl | rfl | rfl | rfl | rfl : k = 0 ∨ k = 1 ∨ k = 2 ∨ k = 4 ∨ k = 5 ∨ k = 6 ∨ k = 7 ∨ k = 8 := by omega
  all_goals rw [h]; simp
theorem mparse_len {l : List UInt8} (h : (Pl.split l).length ≠ 9) : Pl.mparse l = none := if_neg h
theorem mparse_bad {l : List UInt8} (h : Pl.allOk (Pl.split l) = false) : Pl.mparse l = none := by
  unfold Pl.mparse
  by_cases h9 : (Pl.split l).length = 9
  · rw [if_pos h9, if_neg (by rw [h]; simp)]
  · rw [if_neg h9]
theorem mparse_wrong {l : List UInt8} (h : Pl.msgRight (Pl.msgOf (Pl.split l)) = false) : Pl.mparse l = none := by
  unfold Pl.mparse
  by_cases h9 : (Pl.split l).length = 9
  · rw [if_pos h9, if_neg (by rw [h]; simp)]
  · rw [if_neg h9]
theorem mparse_some {l : List UInt8} (h9 : (Pl.split l).length = 9) (h : Pl.allOk (Pl.split l) = true) (h2 : Pl.msgRight (Pl.msgOf (Pl.split l)) = true) : Pl.mparse l = some (Pl.msgOf (Pl.split l)) := by
  unfold Pl.mparse
  rw [if_pos h9, if_pos ⟨h, h2⟩]

set_option maxHeartbeats 8000000 in
set_option maxRecDepth 100000 in
theorem report_Parse (l : List UInt8) (w : World) (hE : Env w) (hl : l.length ≤ 1000000) : Calls Tryd.prog 40 #[.string ⟨l.toArray⟩] w (MsgPost l w) := by
  have HE := Lib.hid hE
  have HNO := Lib.hid (fun w' => @MsgPost.no l w w')
  have HYES := Lib.hid (fun w' => @MsgPost.yes l w w')
  have HB0 : Hid (Below w.heap.size w (w.alloc (.cells #[.int .i64 0, .int .i64 0, .int .i64 0, .int .i64 0, .int .i64 0, .int .i64 0, .int .i64 0, .int .i64 0, .int .i64 0] 62))) := (Below.refl _ _).alloc (Nat.le_refl _) _
  have HK0 : Hid (Blk (w.alloc (.cells #[.int .i64 0, .int .i64 0, .int .i64 0, .int .i64 0, .int .i64 0, .int .i64 0, .int .i64 0, .int .i64 0, .int .i64 0] 62)) w.heap.size #[.int .i64 0, .int .i64 0, .int .i64 0, .int .i64 0, .int .i64 0, .int .i64 0, .int .i64 0, .int .i64 0, .int .i64 0] 62) := Blk.alloc _ _
  have hs0 : (w.alloc (.cells #[.int .i64 0, .int .i64 0, .int .i64 0, .int .i64 0, .int .i64 0, .int .i64 0, .int .i64 0, .int .i64 0, .int .i64 0] 62)).heap.size = w.heap.size + 1 := World.size_alloc _ _
  have HC := Lib.hid (words_Split ⟨l.toArray⟩ (w.alloc (.cells #[.int .i64 0, .int .i64 0, .int .i64 0, .int .i64 0, .int .i64 0, .int .i64 0, .int .i64 0, .int .i64 0, .int .i64 0] 62)) (HE.out.below (Nat.le_refl _) HB0.out) (by rw [Lib.size_eq]; simp; omega))
  unfold SplPost at HC
  rw [show (⟨l.toArray⟩ : ByteArray).data.toList = l from rfl] at HC
  have HW := Lib.hid (fun (h : (Pl.split l).length ≠ 9) => mparse_len h)
  have HX := Lib.hid (fun (h : Pl.allOk (Pl.split l) = false) => mparse_bad h)
  have HV := Lib.hid (fun (h : Pl.msgRight (Pl.msgOf (Pl.split l)) = false) => mparse_wrong h)
  have HY := Lib.hid (fun (h9 : (Pl.split l).length = 9) (h : Pl.allOk (Pl.split l) = true) (h2 : Pl.msgRight (Pl.msgOf (Pl.split l)) = true) => mparse_some h9 h h2)
  have HLE := Lib.hid (Pl.split_getD_le l)
  clear hE
  go_enter Tryd.func40, Tryd.ntmps40
  go_wp2_with fail
  generalize w.alloc (.cells #[.int .i64 0, .int .i64 0, .int .i64 0, .int .i64 0, .int .i64 0, .int .i64 0, .int .i64 0, .int .i64 0, .int .i64 0] 62) = w0 at *
  refine HC.out.mono ?_
  rintro e w1 ⟨v, rfl, hb1, hsl⟩
  have hlen : (strCells (Pl.split l)).length = (Pl.split l).length := by simp [strCells]
  have hl1 : (Pl.split l).length ≤ 1000001 := by
    unfold Pl.split
    split
    · simp
    · rw [Pl.splitC_length]; have := List.count_le_length (a := (32 : UInt8)) (l := l); omega
  generalize Pl.split l = ws at *
  have HB1 : Hid (Below w.heap.size w w1) := HB0.out.trans (hb1.mono (by omega))
  have HK1 : Hid (Blk w1 w.heap.size #[.int .i64 0, .int .i64 0, .int .i64 0, .int .i64 0, .int .i64 0, .int .i64 0, .int .i64 0, .int .i64 0, .int .i64 0] 62) := HK0.out.below (by omega) hb1
  have HSL := Lib.hid hsl
  obtain ⟨p, c, rfl⟩ : ∃ p c, v = .slice p ws.length c := by
    rcases hsl with ⟨rfl, h0⟩ | ⟨g, o, c, rfl, _⟩
    · rw [h0] at hlen; simp at hlen
      exact ⟨none, 0, by rw [← hlen]⟩
    · exact ⟨_, _, by rw [hlen]⟩
  have hs1 := HK1.out.lt
  clear hb1 hsl hlen HC HB0 HK0
  by_cases h9 : ws.length = 9
  · skip
    have HSL9 := HSL.out
    have HH9 := Lib.hid h9
    rw [h9]
    obtain ⟨g, o, c', hp, hgl, hcs⟩ : ∃ g o c', Value.slice p 9 c = .slice (some ⟨g, o, none⟩) 9 c' ∧ (g < w1.heap.size ∧ w.heap.size < g) ∧ ∀ j, j < 9 → w1.cell? ⟨g, o + j, none⟩ = some (.string ⟨(ws.getD j []).toArray⟩) := by
      rcases HSL9 with ⟨_, h0⟩ | ⟨g, o, c', h1, _, hg0, h4, h5⟩
      · have : ws.length = 0 := by have h2 : (strCells ws).length = 0 := by rw [h0]; rfl
                                   simpa [strCells] using h2
        omega
      · refine ⟨g, o, c', by rw [← h9]; rw [h1]; simp [strCells], ⟨h4, by omega⟩, fun j hj => h5 j _ ?_⟩
        simp [strCells, List.getD, h9, hj]
    obtain ⟨rfl, rfl⟩ : p = some ⟨g, o, none⟩ ∧ c = c' := by
      injection hp with e1 _ e2
      exact ⟨e1, e2⟩
    have HCS := Lib.hid hcs
    clear hcs hp HSL9 HSL h9 hl1
    have HP0 : Hid (MpAt w ws w1.heap.size 0 ((((w1.alloc (.cells #[.int .i64 0] 2)).alloc (.cells #[.int .i64 0] 2))))) := by
      refine ⟨(HB1.out.alloc (by omega) _).alloc (by simp; omega) _, (HK1.out.grown (r := none) (by simp) (World.grownBy_alloc _ _ _)).grown (r := none) (by simp) (World.grownBy_alloc _ _ _), (Blk.alloc (w := w1) _ _).grown (r := none) (by simp) (World.grownBy_alloc _ _ _), ?_, hs1⟩
      have := Blk.alloc (w := w1.alloc (.cells #[.int .i64 0] 2)) #[.int .i64 0] 2
      rw [World.size_alloc] at this; exact this
    have hgb : Below w1.heap.size w1 ((w1.alloc (.cells #[.int .i64 0] 2)).alloc (.cells #[.int .i64 0] 2)) := ((Below.refl _ _).alloc (Nat.le_refl _) _).alloc (by simp) _
    have hsz2 : ((w1.alloc (.cells #[.int .i64 0] 2)).alloc (.cells #[.int .i64 0] 2)).heap.size = w1.heap.size + 2 := by simp
    have HP1 : Hid (MpAt w ws w1.heap.size 0 (((w1.alloc (.cells #[.int .i64 0] 2)).alloc (.cells #[.int .i64 0] 2)).alloc (.cells #[.pointer (some ⟨w.heap.size, 2, none⟩), .pointer (some ⟨w.heap.size, 3, none⟩), .pointer (some ⟨w1.heap.size, 0, none⟩), .pointer none, .pointer (some ⟨w.heap.size, 4, none⟩), .pointer (some ⟨w.heap.size, 5, none⟩), .pointer (some ⟨w.heap.size, 6, none⟩), .pointer (some ⟨w.heap.size, 7, none⟩), .pointer (some ⟨w1.heap.size + 1, 0, none⟩)] 142))) := HP0.out.quiet ((Below.refl _ _).alloc (Nat.le_refl _) _)
    have hgb1 : Below w1.heap.size w1 (((w1.alloc (.cells #[.int .i64 0] 2)).alloc (.cells #[.int .i64 0] 2)).alloc (.cells #[.pointer (some ⟨w.heap.size, 2, none⟩), .pointer (some ⟨w.heap.size, 3, none⟩), .pointer (some ⟨w1.heap.size, 0, none⟩), .pointer none, .pointer (some ⟨w.heap.size, 4, none⟩), .pointer (some ⟨w.heap.size, 5, none⟩), .pointer (some ⟨w.heap.size, 6, none⟩), .pointer (some ⟨w.heap.size, 7, none⟩), .pointer (some ⟨w1.heap.size + 1, 0, none⟩)] 142)) := hgb.alloc (by simp; omega) _
    have HCW0 : Hid (∀ j, j < 9 → (((w1.alloc (.cells #[.int .i64 0] 2)).alloc (.cells #[.int .i64 0] 2)).alloc (.cells #[.pointer (some ⟨w.heap.size, 2, none⟩), .pointer (some ⟨w.heap.size, 3, none⟩), .pointer (some ⟨w1.heap.size, 0, none⟩), .pointer none, .pointer (some ⟨w.heap.size, 4, none⟩), .pointer (some ⟨w.heap.size, 5, none⟩), .pointer (some ⟨w.heap.size, 6, none⟩), .pointer (some ⟨w.heap.size, 7, none⟩), .pointer (some ⟨w1.heap.size + 1, 0, none⟩)] 142)).cell? ⟨g, o + j, none⟩ = some (.string ⟨(ws.getD j []).toArray⟩)) := fun j hj => (hgb1.cell (p := ⟨g, o + j, none⟩) hgl.1).trans (HCS.out j hj)
    clear HP0 hgb hsz2 hgb1 HCS HK1 HB1
    go_wp2_with fail
    have hszP := HP1.out.code.lt
    generalize (((w1.alloc (.cells #[.int .i64 0] 2)).alloc (.cells #[.int .i64 0] 2)).alloc (.cells #[.pointer (some ⟨w.heap.size, 2, none⟩), .pointer (some ⟨w.heap.size, 3, none⟩), .pointer (some ⟨w1.heap.size, 0, none⟩), .pointer none, .pointer (some ⟨w.heap.size, 4, none⟩), .pointer (some ⟨w.heap.size, 5, none⟩), .pointer (some ⟨w.heap.size, 6, none⟩), .pointer (some ⟨w.heap.size, 7, none⟩), .pointer (some ⟨w1.heap.size + 1, 0, none⟩)] 142)) = w4 at *
    obtain ⟨sb, hsb⟩ : ∃ sb, sb = w1.heap.size := ⟨_, rfl⟩
    rw [← hsb] at HP1 hszP hgl ⊢
    clear hsb
    go_loopw [26] (fun i wr => ∃ k : Nat, k ≤ 9 ∧ i = .int .i64 k ∧ Hid (MpAt w ws sb k wr) ∧ Hid (∀ j, j < 9 → wr.cell? ⟨g, o + j, none⟩ = some (.string ⟨(ws.getD j []).toArray⟩)) ∧ Hid (okUpto ws k)) (fun i _ => 9 - (intOf i).toNat)
    case atStart => exact ⟨0, by omega, rfl, HP1, HCW0.out, fun j hj => absurd hj (by omega)⟩
    case round =>
      obtain ⟨k, hk, rfl, HP, HCW, HOK⟩ := hrel
      clear HP1 HCW0
      have hgw : g < wr.heap.size := by have h1 := HP.out.sym.lt; omega
      by_cases hlt : k < 9
      · have hcase : k = 0 ∨ k = 1 ∨ k = 2 ∨ k = 3 ∨ k = 4 ∨ k = 5 ∨ k = 6 ∨ k = 7 ∨ k = 8 := by omega
        clear hlt hk
        rcases hcase with rfl | rfl | rfl | rfl | rfl | rfl | rfl | rfl | rfl
        · rw [show (((0 : Nat) : Int)) = 0 from rfl]
          have hidx : ∀ W : World, (Instr.index 142 (.agg #[.pointer (some ⟨w.heap.size, 2, none⟩), .pointer (some ⟨w.heap.size, 3, none⟩), .pointer (some ⟨sb, 0, none⟩), .pointer none, .pointer (some ⟨w.heap.size, 4, none⟩), .pointer (some ⟨w.heap.size, 5, none⟩), .pointer (some ⟨w.heap.size, 6, none⟩), .pointer (some ⟨w.heap.size, 7, none⟩), .pointer (some ⟨sb + 1, 0, none⟩)]) (.int .i64 0)).run Tryd.prog W = .ok (.pointer (some ⟨w.heap.size, 2, none⟩)) W := fun _ => by kernel_rfl
          have cw : wr.cell? ⟨g, o, none⟩ = some (.string ⟨(ws.getD 0 []).toArray⟩) := HCW.out 0 (by omega)
          have HLX : Hid ((ws.getD 0 []).length ≤ 1000000) := Nat.le_trans (HLE.out 0) hl
          have HVA : Hid (Pl.numAt ws 0 = (Pl.number (ws.getD 0 [])).1) := rfl
          have HOA : Hid (Pl.okAt ws 0 = (Pl.number (ws.getD 0 [])).2) := rfl
          generalize ws.getD 0 [] = x at *
          have hxl := HLX.out
          have HNX := Lib.hid (words_Number ⟨x.toArray⟩ wr (by rw [Lib.size_eq]; simp; omega))
          unfold NumPost at HNX
          rw [show (⟨x.toArray⟩ : ByteArray).data.toList = x from rfl] at HNX
          generalize Pl.number x = nn at *
          obtain ⟨n, is⟩ := nn
          go_wp2_with fail
          refine HNX.out.mono ?_
          rintro e w5 ⟨rfl, hb5⟩
          have HSZ5 := Lib.hid hb5.size
          have HP5 := Lib.hid (HP.out.quiet hb5)
          have HC5 : Hid (∀ j, j < 9 → w5.cell? ⟨g, o + j, none⟩ = some (.string ⟨(ws.getD j []).toArray⟩)) := fun j hj => (hb5.cell (p := ⟨g, o + j, none⟩) hgw).trans (HCW.out j hj)
          clear hb5 HNX cw HP HCW
          cases is
          · have HBAD := Lib.hid (HX.out (allOk_not (k := 0) (by omega) (by omega) HOA.out))
            go_wp2_with (refine wpList_store_row rfl 62 _ _ rfl w.heap.size zeroMsg.arr rfl rfl 62 _ HP5.out.msg (by kernel_rfl) rfl (by kernel_rfl) ?_)
            exact bodyPost_ret (v := .tuple #[.agg zeroMsg.arr, .int .i64 4]) (results_ct rfl _ _ w.heap.size zeroMsg.arr _ _ _ rfl rfl (setRow_heap _ _ _ _ _ _ HP5.out.msg) Tryd.underlying62 rfl (by kernel_rfl)) rfl (HNO.out _ HBAD.out (below_setRow3 HP5.out.below (Nat.le_refl _)))
          · have cs : w5.cell? ⟨w.heap.size, 2, none⟩ = some (.int .i64 0) := HP5.out.msg.cell 2
            have zs := HP5.out.msg.frozen 2
            go_wp2_with fail
            go_roundw
            case rel => exact ⟨1, by omega, by go_num, by have h := HP5.out.field (o := 2) (x := .int .i64 (Pl.numAt ws 0)) rfl (by omega) (by omega); rw [HVA.out] at h; exact h, fun j hj => ((grownBy_setCell w5 w.heap.size 2 _).cell_far ⟨g, o + j, none⟩ (Nat.lt_of_lt_of_le hgw HSZ5.out) (by simp; omega)).trans (HC5.out j hj), HOK.out.succ (.inr HOA.out)⟩
            case measure => simp [intOf]
        · rw [show (((1 : Nat) : Int)) = 1 from rfl]
          have hidx : ∀ W : World, (Instr.index 142 (.agg #[.pointer (some ⟨w.heap.size, 2, none⟩), .pointer (some ⟨w.heap.size, 3, none⟩), .pointer (some ⟨sb, 0, none⟩), .pointer none, .pointer (some ⟨w.heap.size, 4, none⟩), .pointer (some ⟨w.heap.size, 5, none⟩), .pointer (some ⟨w.heap.size, 6, none⟩), .pointer (some ⟨w.heap.size, 7, none⟩), .pointer (some ⟨sb + 1, 0, none⟩)]) (.int .i64 1)).run Tryd.prog W = .ok (.pointer (some ⟨w.heap.size, 3, none⟩)) W := fun _ => by kernel_rfl
          have cw : wr.cell? ⟨g, o + 1, none⟩ = some (.string ⟨(ws.getD 1 []).toArray⟩) := HCW.out 1 (by omega)
          have HLX : Hid ((ws.getD 1 []).length ≤ 1000000) := Nat.le_trans (HLE.out 1) hl
          have HVA : Hid (Pl.numAt ws 1 = (Pl.number (ws.getD 1 [])).1) := rfl
          have HOA : Hid (Pl.okAt ws 1 = (Pl.number (ws.getD 1 [])).2) := rfl
          generalize ws.getD 1 [] = x at *
          have hxl := HLX.out
          have HNX := Lib.hid (words_Number ⟨x.toArray⟩ wr (by rw [Lib.size_eq]; simp; omega))
          unfold NumPost at HNX
          rw [show (⟨x.toArray⟩ : ByteArray).data.toList = x from rfl] at HNX
          generalize Pl.number x = nn at *
          obtain ⟨n, is⟩ := nn
          go_wp2_with fail
          refine HNX.out.mono ?_
          rintro e w5 ⟨rfl, hb5⟩
          have HSZ5 := Lib.hid hb5.size
          have HP5 := Lib.hid (HP.out.quiet hb5)
          have HC5 : Hid (∀ j, j < 9 → w5.cell? ⟨g, o + j, none⟩ = some (.string ⟨(ws.getD j []).toArray⟩)) := fun j hj => (hb5.cell (p := ⟨g, o + j, none⟩) hgw).trans (HCW.out j hj)
          clear hb5 HNX cw HP HCW
          cases is
          · have HBAD := Lib.hid (HX.out (allOk_not (k := 1) (by omega) (by omega) HOA.out))
            go_wp2_with (refine wpList_store_row rfl 62 _ _ rfl w.heap.size zeroMsg.arr rfl rfl 62 _ HP5.out.msg (by kernel_rfl) rfl (by kernel_rfl) ?_)
            exact bodyPost_ret (v := .tuple #[.agg zeroMsg.arr, .int .i64 4]) (results_ct rfl _ _ w.heap.size zeroMsg.arr _ _ _ rfl rfl (setRow_heap _ _ _ _ _ _ HP5.out.msg) Tryd.underlying62 rfl (by kernel_rfl)) rfl (HNO.out _ HBAD.out (below_setRow3 HP5.out.below (Nat.le_refl _)))
          · have cs : w5.cell? ⟨w.heap.size, 3, none⟩ = some (.int .i64 0) := HP5.out.msg.cell 3
            have zs := HP5.out.msg.frozen 3
            go_wp2_with fail
            go_roundw
            case rel => exact ⟨2, by omega, by go_num, by have h := HP5.out.field (o := 3) (x := .int .i64 (Pl.numAt ws 1)) rfl (by omega) (by omega); rw [HVA.out] at h; exact h, fun j hj => ((grownBy_setCell w5 w.heap.size 3 _).cell_far ⟨g, o + j, none⟩ (Nat.lt_of_lt_of_le hgw HSZ5.out) (by simp; omega)).trans (HC5.out j hj), HOK.out.succ (.inr HOA.out)⟩
            case measure => simp [intOf]
        · rw [show (((2 : Nat) : Int)) = 2 from rfl]
          have hidx : ∀ W : World, (Instr.index 142 (.agg #[.pointer (some ⟨w.heap.size, 2, none⟩), .pointer (some ⟨w.heap.size, 3, none⟩), .pointer (some ⟨sb, 0, none⟩), .pointer none, .pointer (some ⟨w.heap.size, 4, none⟩), .pointer (some ⟨w.heap.size, 5, none⟩), .pointer (some ⟨w.heap.size, 6, none⟩), .pointer (some ⟨w.heap.size, 7, none⟩), .pointer (some ⟨sb + 1, 0, none⟩)]) (.int .i64 2)).run Tryd.prog W = .ok (.pointer (some ⟨sb, 0, none⟩)) W := fun _ => by kernel_rfl
          have cw : wr.cell? ⟨g, o + 2, none⟩ = some (.string ⟨(ws.getD 2 []).toArray⟩) := HCW.out 2 (by omega)
          have HLX : Hid ((ws.getD 2 []).length ≤ 1000000) := Nat.le_trans (HLE.out 2) hl
          have HVA : Hid (Pl.numAt ws 2 = (Pl.number (ws.getD 2 [])).1) := rfl
          have HOA : Hid (Pl.okAt ws 2 = (Pl.number (ws.getD 2 [])).2) := rfl
          generalize ws.getD 2 [] = x at *
          have hxl := HLX.out
          have HNX := Lib.hid (words_Number ⟨x.toArray⟩ wr (by rw [Lib.size_eq]; simp; omega))
          unfold NumPost at HNX
          rw [show (⟨x.toArray⟩ : ByteArray).data.toList = x from rfl] at HNX
          generalize Pl.number x = nn at *
          obtain ⟨n, is⟩ := nn
          go_wp2_with fail
          refine HNX.out.mono ?_
          rintro e w5 ⟨rfl, hb5⟩
          have HSZ5 := Lib.hid hb5.size
          have HP5 := Lib.hid (HP.out.quiet hb5)
          have HC5 : Hid (∀ j, j < 9 → w5.cell? ⟨g, o + j, none⟩ = some (.string ⟨(ws.getD j []).toArray⟩)) := fun j hj => (hb5.cell (p := ⟨g, o + j, none⟩) hgw).trans (HCW.out j hj)
          clear hb5 HNX cw HP HCW
          cases is
          · have HBAD := Lib.hid (HX.out (allOk_not (k := 2) (by omega) (by omega) HOA.out))
            go_wp2_with (refine wpList_store_row rfl 62 _ _ rfl w.heap.size zeroMsg.arr rfl rfl 62 _ HP5.out.msg (by kernel_rfl) rfl (by kernel_rfl) ?_)
            exact bodyPost_ret (v := .tuple #[.agg zeroMsg.arr, .int .i64 4]) (results_ct rfl _ _ w.heap.size zeroMsg.arr _ _ _ rfl rfl (setRow_heap _ _ _ _ _ _ HP5.out.msg) Tryd.underlying62 rfl (by kernel_rfl)) rfl (HNO.out _ HBAD.out (below_setRow3 HP5.out.below (Nat.le_refl _)))
          · have cs : w5.cell? ⟨sb, 0, none⟩ = some (.int .i64 0) := HP5.out.sym.cell 0
            have zs := HP5.out.sym.frozen 0
            go_wp2_with fail
            go_roundw
            case rel => exact ⟨3, by omega, by go_num, by have h := HP5.out.setSym; rw [HVA.out] at h; exact h, fun j hj => ((grownBy_setCell w5 (sb) 0 _).cell_far ⟨g, o + j, none⟩ (Nat.lt_of_lt_of_le hgw HSZ5.out) (by simp; omega)).trans (HC5.out j hj), HOK.out.succ (.inr HOA.out)⟩
            case measure => simp [intOf]
        · rw [show (((3 : Nat) : Int)) = 3 from rfl]
          have hidx : ∀ W : World, (Instr.index 142 (.agg #[.pointer (some ⟨w.heap.size, 2, none⟩), .pointer (some ⟨w.heap.size, 3, none⟩), .pointer (some ⟨sb, 0, none⟩), .pointer none, .pointer (some ⟨w.heap.size, 4, none⟩), .pointer (some ⟨w.heap.size, 5, none⟩), .pointer (some ⟨w.heap.size, 6, none⟩), .pointer (some ⟨w.heap.size, 7, none⟩), .pointer (some ⟨sb + 1, 0, none⟩)]) (.int .i64 3)).run Tryd.prog W = .ok (.pointer none) W := fun _ => by kernel_rfl
          have cw : wr.cell? ⟨g, o + 3, none⟩ = some (.string ⟨(ws.getD 3 []).toArray⟩) := HCW.out 3 (by omega)
          have HLX : Hid ((ws.getD 3 []).length ≤ 1000000) := Nat.le_trans (HLE.out 3) hl
          have HVA : Hid (kindAt ws = Pl.kindOf (ws.getD 3 [])) := rfl
          have HOA : Hid (Pl.okAt ws 3 = (Pl.number (ws.getD 3 [])).2) := rfl
          generalize ws.getD 3 [] = x at *
          have hxl := HLX.out
          have HNX := Lib.hid (report_kindOf x wr)
          unfold IntPost at HNX
          generalize Pl.kindOf x = n at *
          go_wp2_with fail
          refine HNX.out.mono ?_
          rintro e w5 ⟨rfl, hb5⟩
          have HSZ5 := Lib.hid hb5.size
          have HP5 := Lib.hid (HP.out.quiet hb5)
          have HC5 : Hid (∀ j, j < 9 → w5.cell? ⟨g, o + j, none⟩ = some (.string ⟨(ws.getD j []).toArray⟩)) := fun j hj => (hb5.cell (p := ⟨g, o + j, none⟩) hgw).trans (HCW.out j hj)
          clear hb5 HNX cw HP HCW
          have cs : w5.cell? ⟨w.heap.size, 0, none⟩ = some (.int .i64 0) := HP5.out.msg.cell 0
          have zs := HP5.out.msg.frozen 0
          go_wp2_with fail
          go_roundw
          case rel => exact ⟨4, by omega, by go_num, by have h := HP5.out.field (o := 0) (x := .int .i64 (kindAt ws)) rfl (by omega) (by omega); rw [HVA.out] at h; exact h, fun j hj => ((grownBy_setCell w5 w.heap.size 0 _).cell_far ⟨g, o + j, none⟩ (Nat.lt_of_lt_of_le hgw HSZ5.out) (by simp; omega)).trans (HC5.out j hj), HOK.out.succ (.inl rfl)⟩
          case measure => simp [intOf]
        · rw [show (((4 : Nat) : Int)) = 4 from rfl]
          have hidx : ∀ W : World, (Instr.index 142 (.agg #[.pointer (some ⟨w.heap.size, 2, none⟩), .pointer (some ⟨w.heap.size, 3, none⟩), .pointer (some ⟨sb, 0, none⟩), .pointer none, .pointer (some ⟨w.heap.size, 4, none⟩), .pointer (some ⟨w.heap.size, 5, none⟩), .pointer (some ⟨w.heap.size, 6, none⟩), .pointer (some ⟨w.heap.size, 7, none⟩), .pointer (some ⟨sb + 1, 0, none⟩)]) (.int .i64 4)).run Tryd.prog W = .ok (.pointer (some ⟨w.heap.size, 4, none⟩)) W := fun _ => by kernel_rfl
          have cw : wr.cell? ⟨g, o + 4, none⟩ = some (.string ⟨(ws.getD 4 []).toArray⟩) := HCW.out 4 (by omega)
          have HLX : Hid ((ws.getD 4 []).length ≤ 1000000) := Nat.le_trans (HLE.out 4) hl
          have HVA : Hid (Pl.numAt ws 4 = (Pl.number (ws.getD 4 [])).1) := rfl
          have HOA : Hid (Pl.okAt ws 4 = (Pl.number (ws.getD 4 [])).2) := rfl
          generalize ws.getD 4 [] = x at *
          have hxl := HLX.out
          have HNX := Lib.hid (words_Number ⟨x.toArray⟩ wr (by rw [Lib.size_eq]; simp; omega))
          unfold NumPost at HNX
          rw [show (⟨x.toArray⟩ : ByteArray).data.toList = x from rfl] at HNX
          generalize Pl.number x = nn at *
          obtain ⟨n, is⟩ := nn
          go_wp2_with fail
          refine HNX.out.mono ?_
          rintro e w5 ⟨rfl, hb5⟩
          have HSZ5 := Lib.hid hb5.size
          have HP5 := Lib.hid (HP.out.quiet hb5)
          have HC5 : Hid (∀ j, j < 9 → w5.cell? ⟨g, o + j, none⟩ = some (.string ⟨(ws.getD j []).toArray⟩)) := fun j hj => (hb5.cell (p := ⟨g, o + j, none⟩) hgw).trans (HCW.out j hj)
          clear hb5 HNX cw HP HCW
          cases is
          · have HBAD := Lib.hid (HX.out (allOk_not (k := 4) (by omega) (by omega) HOA.out))
            go_wp2_with (refine wpList_store_row rfl 62 _ _ rfl w.heap.size zeroMsg.arr rfl rfl 62 _ HP5.out.msg (by kernel_rfl) rfl (by kernel_rfl) ?_)
            exact bodyPost_ret (v := .tuple #[.agg zeroMsg.arr, .int .i64 4]) (results_ct rfl _ _ w.heap.size zeroMsg.arr _ _ _ rfl rfl (setRow_heap _ _ _ _ _ _ HP5.out.msg) Tryd.underlying62 rfl (by kernel_rfl)) rfl (HNO.out _ HBAD.out (below_setRow3 HP5.out.below (Nat.le_refl _)))
          · have cs : w5.cell? ⟨w.heap.size, 4, none⟩ = some (.int .i64 0) := HP5.out.msg.cell 4
            have zs := HP5.out.msg.frozen 4
            go_wp2_with fail
            go_roundw
            case rel => exact ⟨5, by omega, by go_num, by have h := HP5.out.field (o := 4) (x := .int .i64 (Pl.numAt ws 4)) rfl (by omega) (by omega); rw [HVA.out] at h; exact h, fun j hj => ((grownBy_setCell w5 w.heap.size 4 _).cell_far ⟨g, o + j, none⟩ (Nat.lt_of_lt_of_le hgw HSZ5.out) (by simp; omega)).trans (HC5.out j hj), HOK.out.succ (.inr HOA.out)⟩
            case measure => simp [intOf]
        · rw [show (((5 : Nat) : Int)) = 5 from rfl]
          have hidx : ∀ W : World, (Instr.index 142 (.agg #[.pointer (some ⟨w.heap.size, 2, none⟩), .pointer (some ⟨w.heap.size, 3, none⟩), .pointer (some ⟨sb, 0, none⟩), .pointer none, .pointer (some ⟨w.heap.size, 4, none⟩), .pointer (some ⟨w.heap.size, 5, none⟩), .pointer (some ⟨w.heap.size, 6, none⟩), .pointer (some ⟨w.heap.size, 7, none⟩), .pointer (some ⟨sb + 1, 0, none⟩)]) (.int .i64 5)).run Tryd.prog W = .ok (.pointer (some ⟨w.heap.size, 5, none⟩)) W := fun _ => by kernel_rfl
          have cw : wr.cell? ⟨g, o + 5, none⟩ = some (.string ⟨(ws.getD 5 []).toArray⟩) := HCW.out 5 (by omega)
          have HLX : Hid ((ws.getD 5 []).length ≤ 1000000) := Nat.le_trans (HLE.out 5) hl
          have HVA : Hid (Pl.numAt ws 5 = (Pl.number (ws.getD 5 [])).1) := rfl
          have HOA : Hid (Pl.okAt ws 5 = (Pl.number (ws.getD 5 [])).2) := rfl
          generalize ws.getD 5 [] = x at *
          have hxl := HLX.out
          have HNX := Lib.hid (words_Number ⟨x.toArray⟩ wr (by rw [Lib.size_eq]; simp; omega))
          unfold NumPost at HNX
          rw [show (⟨x.toArray⟩ : ByteArray).data.toList = x from rfl] at HNX
          generalize Pl.number x = nn at *
          obtain ⟨n, is⟩ := nn
          go_wp2_with fail
          refine HNX.out.mono ?_
          rintro e w5 ⟨rfl, hb5⟩
          have HSZ5 := Lib.hid hb5.size
          have HP5 := Lib.hid (HP.out.quiet hb5)
          have HC5 : Hid (∀ j, j < 9 → w5.cell? ⟨g, o + j, none⟩ = some (.string ⟨(ws.getD j []).toArray⟩)) := fun j hj => (hb5.cell (p := ⟨g, o + j, none⟩) hgw).trans (HCW.out j hj)
          clear hb5 HNX cw HP HCW
          cases is
          · have HBAD := Lib.hid (HX.out (allOk_not (k := 5) (by omega) (by omega) HOA.out))
            go_wp2_with (refine wpList_store_row rfl 62 _ _ rfl w.heap.size zeroMsg.arr rfl rfl 62 _ HP5.out.msg (by kernel_rfl) rfl (by kernel_rfl) ?_)
            exact bodyPost_ret (v := .tuple #[.agg zeroMsg.arr, .int .i64 4]) (results_ct rfl _ _ w.heap.size zeroMsg.arr _ _ _ rfl rfl (setRow_heap _ _ _ _ _ _ HP5.out.msg) Tryd.underlying62 rfl (by kernel_rfl)) rfl (HNO.out _ HBAD.out (below_setRow3 HP5.out.below (Nat.le_refl _)))
          · have cs : w5.cell? ⟨w.heap.size, 5, none⟩ = some (.int .i64 0) := HP5.out.msg.cell 5
            have zs := HP5.out.msg.frozen 5
            go_wp2_with fail
            go_roundw
            case rel => exact ⟨6, by omega, by go_num, by have h := HP5.out.field (o := 5) (x := .int .i64 (Pl.numAt ws 5)) rfl (by omega) (by omega); rw [HVA.out] at h; exact h, fun j hj => ((grownBy_setCell w5 w.heap.size 5 _).cell_far ⟨g, o + j, none⟩ (Nat.lt_of_lt_of_le hgw HSZ5.out) (by simp; omega)).trans (HC5.out j hj), HOK.out.succ (.inr HOA.out)⟩
            case measure => simp [intOf]
        · rw [show (((6 : Nat) : Int)) = 6 from rfl]
          have hidx : ∀ W : World, (Instr.index 142 (.agg #[.pointer (some ⟨w.heap.size, 2, none⟩), .pointer (some ⟨w.heap.size, 3, none⟩), .pointer (some ⟨sb, 0, none⟩), .pointer none, .pointer (some ⟨w.heap.size, 4, none⟩), .pointer (some ⟨w.heap.size, 5, none⟩), .pointer (some ⟨w.heap.size, 6, none⟩), .pointer (some ⟨w.heap.size, 7, none⟩), .pointer (some ⟨sb + 1, 0, none⟩)]) (.int .i64 6)).run Tryd.prog W = .ok (.pointer (some ⟨w.heap.size, 6, none⟩)) W := fun _ => by kernel_rfl
          have cw : wr.cell? ⟨g, o + 6, none⟩ = some (.string ⟨(ws.getD 6 []).toArray⟩) := HCW.out 6 (by omega)
          have HLX : Hid ((ws.getD 6 []).length ≤ 1000000) := Nat.le_trans (HLE.out 6) hl
          have HVA : Hid (Pl.numAt ws 6 = (Pl.number (ws.getD 6 [])).1) := rfl
          have HOA : Hid (Pl.okAt ws 6 = (Pl.number (ws.getD 6 [])).2) := rfl
          generalize ws.getD 6 [] = x at *
          have hxl := HLX.out
          have HNX := Lib.hid (words_Number ⟨x.toArray⟩ wr (by rw [Lib.size_eq]; simp; omega))
          unfold NumPost at HNX
          rw [show (⟨x.toArray⟩ : ByteArray).data.toList = x from rfl] at HNX
          generalize Pl.number x = nn at *
          obtain ⟨n, is⟩ := nn
          go_wp2_with fail
          refine HNX.out.mono ?_
          rintro e w5 ⟨rfl, hb5⟩
          have HSZ5 := Lib.hid hb5.size
          have HP5 := Lib.hid (HP.out.quiet hb5)
          have HC5 : Hid (∀ j, j < 9 → w5.cell? ⟨g, o + j, none⟩ = some (.string ⟨(ws.getD j []).toArray⟩)) := fun j hj => (hb5.cell (p := ⟨g, o + j, none⟩) hgw).trans (HCW.out j hj)
          clear hb5 HNX cw HP HCW
          cases is
          · have HBAD := Lib.hid (HX.out (allOk_not (k := 6) (by omega) (by omega) HOA.out))
            go_wp2_with (refine wpList_store_row rfl 62 _ _ rfl w.heap.size zeroMsg.arr rfl rfl 62 _ HP5.out.msg (by kernel_rfl) rfl (by kernel_rfl) ?_)
            exact bodyPost_ret (v := .tuple #[.agg zeroMsg.arr, .int .i64 4]) (results_ct rfl _ _ w.heap.size zeroMsg.arr _ _ _ rfl rfl (setRow_heap _ _ _ _ _ _ HP5.out.msg) Tryd.underlying62 rfl (by kernel_rfl)) rfl (HNO.out _ HBAD.out (below_setRow3 HP5.out.below (Nat.le_refl _)))
          · have cs : w5.cell? ⟨w.heap.size, 6, none⟩ = some (.int .i64 0) := HP5.out.msg.cell 6
            have zs := HP5.out.msg.frozen 6
            go_wp2_with fail
            go_roundw
            case rel => exact ⟨7, by omega, by go_num, by have h := HP5.out.field (o := 6) (x := .int .i64 (Pl.numAt ws 6)) rfl (by omega) (by omega); rw [HVA.out] at h; exact h, fun j hj => ((grownBy_setCell w5 w.heap.size 6 _).cell_far ⟨g, o + j, none⟩ (Nat.lt_of_lt_of_le hgw HSZ5.out) (by simp; omega)).trans (HC5.out j hj), HOK.out.succ (.inr HOA.out)⟩
            case measure => simp [intOf]
        · rw [show (((7 : Nat) : Int)) = 7 from rfl]
          have hidx : ∀ W : World, (Instr.index 142 (.agg #[.pointer (some ⟨w.heap.size, 2, none⟩), .pointer (some ⟨w.heap.size, 3, none⟩), .pointer (some ⟨sb, 0, none⟩), .pointer none, .pointer (some ⟨w.heap.size, 4, none⟩), .pointer (some ⟨w.heap.size, 5, none⟩), .pointer (some ⟨w.heap.size, 6, none⟩), .pointer (some ⟨w.heap.size, 7, none⟩), .pointer (some ⟨sb + 1, 0, none⟩)]) (.int .i64 7)).run Tryd.prog W = .ok (.pointer (some ⟨w.heap.size, 7, none⟩)) W := fun _ => by kernel_rfl
          have cw : wr.cell? ⟨g, o + 7, none⟩ = some (.string ⟨(ws.getD 7 []).toArray⟩) := HCW.out 7 (by omega)
          have HLX : Hid ((ws.getD 7 []).length ≤ 1000000) := Nat.le_trans (HLE.out 7) hl
          have HVA : Hid (Pl.numAt ws 7 = (Pl.number (ws.getD 7 [])).1) := rfl
          have HOA : Hid (Pl.okAt ws 7 = (Pl.number (ws.getD 7 [])).2) := rfl
          generalize ws.getD 7 [] = x at *
          have hxl := HLX.out
          have HNX := Lib.hid (words_Number ⟨x.toArray⟩ wr (by rw [Lib.size_eq]; simp; omega))
          unfold NumPost at HNX
          rw [show (⟨x.toArray⟩ : ByteArray).data.toList = x from rfl] at HNX
          generalize Pl.number x = nn at *
          obtain ⟨n, is⟩ := nn
          go_wp2_with fail
          refine HNX.out.mono ?_
          rintro e w5 ⟨rfl, hb5⟩
          have HSZ5 := Lib.hid hb5.size
          have HP5 := Lib.hid (HP.out.quiet hb5)
          have HC5 : Hid (∀ j, j < 9 → w5.cell? ⟨g, o + j, none⟩ = some (.string ⟨(ws.getD j []).toArray⟩)) := fun j hj => (hb5.cell (p := ⟨g, o + j, none⟩) hgw).trans (HCW.out j hj)
          clear hb5 HNX cw HP HCW
          cases is
          · have HBAD := Lib.hid (HX.out (allOk_not (k := 7) (by omega) (by omega) HOA.out))
            go_wp2_with (refine wpList_store_row rfl 62 _ _ rfl w.heap.size zeroMsg.arr rfl rfl 62 _ HP5.out.msg (by kernel_rfl) rfl (by kernel_rfl) ?_)
            exact bodyPost_ret (v := .tuple #[.agg zeroMsg.arr, .int .i64 4]) (results_ct rfl _ _ w.heap.size zeroMsg.arr _ _ _ rfl rfl (setRow_heap _ _ _ _ _ _ HP5.out.msg) Tryd.underlying62 rfl (by kernel_rfl)) rfl (HNO.out _ HBAD.out (below_setRow3 HP5.out.below (Nat.le_refl _)))
          · have cs : w5.cell? ⟨w.heap.size, 7, none⟩ = some (.int .i64 0) := HP5.out.msg.cell 7
            have zs := HP5.out.msg.frozen 7
            go_wp2_with fail
            go_roundw
            case rel => exact ⟨8, by omega, by go_num, by have h := HP5.out.field (o := 7) (x := .int .i64 (Pl.numAt ws 7)) rfl (by omega) (by omega); rw [HVA.out] at h; exact h, fun j hj => ((grownBy_setCell w5 w.heap.size 7 _).cell_far ⟨g, o + j, none⟩ (Nat.lt_of_lt_of_le hgw HSZ5.out) (by simp; omega)).trans (HC5.out j hj), HOK.out.succ (.inr HOA.out)⟩
            case measure => simp [intOf]
        · rw [show (((8 : Nat) : Int)) = 8 from rfl]
          have hidx : ∀ W : World, (Instr.index 142 (.agg #[.pointer (some ⟨w.heap.size, 2, none⟩), .pointer (some ⟨w.heap.size, 3, none⟩), .pointer (some ⟨sb, 0, none⟩), .pointer none, .pointer (some ⟨w.heap.size, 4, none⟩), .pointer (some ⟨w.heap.size, 5, none⟩), .pointer (some ⟨w.heap.size, 6, none⟩), .pointer (some ⟨w.heap.size, 7, none⟩), .pointer (some ⟨sb + 1, 0, none⟩)]) (.int .i64 8)).run Tryd.prog W = .ok (.pointer (some ⟨sb + 1, 0, none⟩)) W := fun _ => by kernel_rfl
          have cw : wr.cell? ⟨g, o + 8, none⟩ = some (.string ⟨(ws.getD 8 []).toArray⟩) := HCW.out 8 (by omega)
          have HLX : Hid ((ws.getD 8 []).length ≤ 1000000) := Nat.le_trans (HLE.out 8) hl
          have HVA : Hid (Pl.numAt ws 8 = (Pl.number (ws.getD 8 [])).1) := rfl
          have HOA : Hid (Pl.okAt ws 8 = (Pl.number (ws.getD 8 [])).2) := rfl
          generalize ws.getD 8 [] = x at *
          have hxl := HLX.out
          have HNX := Lib.hid (words_Number ⟨x.toArray⟩ wr (by rw [Lib.size_eq]; simp; omega))
          unfold NumPost at HNX
          rw [show (⟨x.toArray⟩ : ByteArray).data.toList = x from rfl] at HNX
          generalize Pl.number x = nn at *
          obtain ⟨n, is⟩ := nn
          go_wp2_with fail
          refine HNX.out.mono ?_
          rintro e w5 ⟨rfl, hb5⟩
          have HSZ5 := Lib.hid hb5.size
          have HP5 := Lib.hid (HP.out.quiet hb5)
          have HC5 : Hid (∀ j, j < 9 → w5.cell? ⟨g, o + j, none⟩ = some (.string ⟨(ws.getD j []).toArray⟩)) := fun j hj => (hb5.cell (p := ⟨g, o + j, none⟩) hgw).trans (HCW.out j hj)
          clear hb5 HNX cw HP HCW
          cases is
          · have HBAD := Lib.hid (HX.out (allOk_not (k := 8) (by omega) (by omega) HOA.out))
            go_wp2_with (refine wpList_store_row rfl 62 _ _ rfl w.heap.size zeroMsg.arr rfl rfl 62 _ HP5.out.msg (by kernel_rfl) rfl (by kernel_rfl) ?_)
            exact bodyPost_ret (v := .tuple #[.agg zeroMsg.arr, .int .i64 4]) (results_ct rfl _ _ w.heap.size zeroMsg.arr _ _ _ rfl rfl (setRow_heap _ _ _ _ _ _ HP5.out.msg) Tryd.underlying62 rfl (by kernel_rfl)) rfl (HNO.out _ HBAD.out (below_setRow3 HP5.out.below (Nat.le_refl _)))
          · have cs : w5.cell? ⟨sb + 1, 0, none⟩ = some (.int .i64 0) := HP5.out.code.cell 0
            have zs := HP5.out.code.frozen 0
            go_wp2_with fail
            go_roundw
            case rel => exact ⟨9, by omega, by go_num, by have h := HP5.out.setCode; rw [HVA.out] at h; exact h, fun j hj => ((grownBy_setCell w5 (sb + 1) 0 _).cell_far ⟨g, o + j, none⟩ (Nat.lt_of_lt_of_le hgw HSZ5.out) (by simp; omega)).trans (HC5.out j hj), HOK.out.succ (.inr HOA.out)⟩
            case measure => simp [intOf]
      · obtain rfl : k = 9 := by omega
        rw [show (((9 : Nat) : Int)) = 9 from rfl]
        have c5 : wr.cell? ⟨sb, 0, none⟩ = some (.int .i64 (Pl.numAt ws 2)) := HP.out.sym.cell 0
        have c6 : wr.cell? ⟨sb + 1, 0, none⟩ = some (.int .i64 (Pl.numAt ws 8)) := HP.out.code.cell 0
        have d1 : wr.cell? ⟨w.heap.size, 1, none⟩ = some (.int .i64 0) := HP.out.msg.cell 1
        have d8 : wr.cell? ⟨w.heap.size, 8, none⟩ = some (.int .i64 0) := HP.out.msg.cell 8
        have z1 := HP.out.msg.frozen 1
        have z8 := HP.out.msg.frozen 8
        have HKF : Hid (Blk ((wr.setCell ⟨w.heap.size, 1, none⟩ (.int .i64 (Pl.numAt ws 2))).setCell ⟨w.heap.size, 8, none⟩ (.int .i64 (Pl.numAt ws 8))) w.heap.size (Pl.msgOf ws).arr 62) := (HP.out.msg.set 1 _).set 8 _
        have HBF : Hid (Below w.heap.size w ((wr.setCell ⟨w.heap.size, 1, none⟩ (.int .i64 (Pl.numAt ws 2))).setCell ⟨w.heap.size, 8, none⟩ (.int .i64 (Pl.numAt ws 8)))) := (HP.out.below.setCell (p := ⟨w.heap.size, 1, none⟩) (Nat.le_refl _) _).setCell (p := ⟨w.heap.size, 8, none⟩) (Nat.le_refl _) _
        have HALL := Lib.hid HOK.out.all
        clear hk HCW HOK
        go_wp2_with (refine wpList_load_row rfl 62 _ rfl w.heap.size rfl 62 (Pl.msgOf ws).arr (0, 0) _ HKF.out Tryd.underlying62 rfl (by kernel_rfl) ?_)
        generalize (wr.setCell ⟨w.heap.size, 1, none⟩ (.int .i64 (Pl.numAt ws 2))).setCell ⟨w.heap.size, 8, none⟩ (.int .i64 (Pl.numAt ws 8)) = w6 at *
        refine (message_Right (Pl.msgOf ws) w6).mono ?_
        rintro e w7 ⟨rfl, hb7⟩
        have HK7 := Lib.hid (HKF.out.below HKF.out.lt hb7)
        have HB7 : Hid (Below w.heap.size w w7) := HBF.out.trans (hb7.mono HBF.out.size)
        clear hb7 c5 c6 d1 d8 z1 z8
        cases hr : Pl.msgRight (Pl.msgOf ws) with
        | false =>
          have HBAD := Lib.hid (HV.out hr)
          clear hr
          go_wp2_with (refine wpList_store_row rfl 62 _ _ rfl w.heap.size zeroMsg.arr rfl rfl 62 _ HK7.out (by kernel_rfl) rfl (by kernel_rfl) ?_)
          exact bodyPost_ret (v := .tuple #[.agg zeroMsg.arr, .int .i64 4]) (results_ct rfl _ _ w.heap.size zeroMsg.arr _ _ _ rfl rfl (setRow_heap _ _ _ _ _ _ HK7.out) Tryd.underlying62 rfl (by kernel_rfl)) rfl (HNO.out _ HBAD.out (below_setRow3 HB7.out (Nat.le_refl _)))
        | true =>
          have HGOOD := Lib.hid (HY.out HH9.out HALL.out hr)
          clear hr
          go_wp2_with (first | (refine wpList_load_row rfl 62 _ rfl w.heap.size rfl 62 (Pl.msgOf ws).arr (0, 0) _ HK7.out Tryd.underlying62 rfl (by kernel_rfl) ?_) | (refine wpList_store_row rfl 62 _ _ rfl w.heap.size (Pl.msgOf ws).arr rfl rfl 62 _ HK7.out (by kernel_rfl) rfl (by kernel_rfl) ?_))
          exact bodyPost_ret (v := .tuple #[.agg (Pl.msgOf ws).arr, .int .i64 0]) (results_ct rfl _ _ w.heap.size (Pl.msgOf ws).arr _ _ _ rfl rfl (setRow_heap _ _ _ _ _ _ HK7.out) Tryd.underlying62 rfl (by kernel_rfl)) rfl (HYES.out _ HGOOD.out (below_setRow3 HB7.out (Nat.le_refl _)))
  · have HN := Lib.hid (HW.out h9)
    have h9b : ((ws.length : Int) != 9) = true := by rw [bne_iff_ne]; omega
    clear h9 HSL
    go_wp2_with (first | (refine wpList_load_row rfl 62 _ rfl w.heap.size rfl 62 #[.int .i64 0, .int .i64 0, .int .i64 0, .int .i64 0, .int .i64 0, .int .i64 0, .int .i64 0, .int .i64 0, .int .i64 0] (0, 0) _ HK1.out Tryd.underlying62 rfl (by kernel_rfl) ?_) | (refine wpList_store_row rfl 62 _ _ rfl w.heap.size zeroMsg.arr rfl rfl 62 _ HK1.out (by kernel_rfl) rfl (by kernel_rfl) ?_))
    exact bodyPost_ret (v := .tuple #[.agg zeroMsg.arr, .int .i64 4]) (results_ct rfl _ _ w.heap.size zeroMsg.arr _ _ _ rfl rfl (setRow_heap _ _ _ _ _ _ HK1.out) Tryd.underlying62 rfl (by kernel_rfl)) rfl (HNO.out _ HN.out (below_setRow3 HB1.out (Nat.le_refl _)))

end Go.Proofs.YtbcepdacfmbekaaDoor
