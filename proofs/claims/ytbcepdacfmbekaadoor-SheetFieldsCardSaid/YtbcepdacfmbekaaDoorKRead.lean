/-
  The walk of part.read (package sheet): a word and numbers out of a line, into fields of one block.
-/
import Derived.Test.YtbcepdacfmbekaaDoorKSplit
import Derived.Test.YtbcepdacfmbekaaDoorKNum
import Derived.Test.YtbcepdacfmbekaaDoorKSet
import Derived.Test.YtbcepdacfmbekaaDoorKTry
import Derived.Test.YtbcepdacfmbekaaDoorKBlk
import Derived.Test.YtbcepdacfmbekaaDoorKLongs
import Derived.Maps.AppendAt
import Derived.Deep.AppendLies
import Derived.StillTailTactics
import Derived.Lib.HexFns2
import Derived.Deep.QuietTactic
import Derived.BigQuiet
namespace Go.Proofs.YtbcepdacfmbekaaDoor
open Go.RowKit

/-- A row of fields: which are short, at which place of block b. -/
def numCells (b : Nat) (ts : List (Bool × Nat)) : List Value := ts.flatMap fun t => if t.1 then [.pointer none, .pointer (some ⟨b, t.2, none⟩)] else [.pointer (some ⟨b, t.2, none⟩), .pointer none]
def setAll (cs : Array Value) : List (Bool × Nat) → List Int → Array Value
  | t :: ts, v :: vs => setAll (cs.setIfInBounds t.2 (.int .i64 v)) ts vs
  | _, _ => cs

theorem setAll_snoc (t : Bool × Nat) (v : Int) : ∀ (ts : List (Bool × Nat)) (vs : List Int) (cs : Array Value), ts.length = vs.length → setAll cs (ts ++ [t]) (vs ++ [v]) = (setAll cs ts vs).setIfInBounds t.2 (.int .i64 v)
  | [], [], _, _ => rfl
  | t' :: ts, v' :: vs, cs, h => by
    simp only [List.cons_append, setAll]
    exact setAll_snoc t v ts vs _ (by simpa using h)

theorem numCells_get (b : Nat) : ∀ (ts : List (Bool × Nat)) (k : Nat) (_ : k < ts.length),
    (numCells b ts)[k * 2]? = some (if (ts.getD k (false, 0)).1 then .pointer none else .pointer (some ⟨b, (ts.getD k (false, 0)).2, none⟩)) ∧ (numCells b ts)[k * 2 + 1]? = some (if (ts.getD k (false, 0)).1 then .pointer (some ⟨b, (ts.getD k (false, 0)).2, none⟩) else .pointer none)
  | t :: ts, 0, _ => by
    cases h : t.1 <;> simp [numCells, h]
  | t :: ts, k + 1, h => by
    have ih := numCells_get b ts k (by simpa using h)
    have e : numCells b (t :: ts) = (if t.1 then [.pointer none, .pointer (some ⟨b, t.2, none⟩)] else [.pointer (some ⟨b, t.2, none⟩), .pointer none]) ++ numCells b ts := by simp [numCells]
    have hl : (if t.1 then [Value.pointer none, .pointer (some ⟨b, t.2, none⟩)] else [.pointer (some ⟨b, t.2, none⟩), .pointer none]).length = 2 := by cases t.1 <;> rfl
    rw [e]
    constructor
    · rw [List.getElem?_append_right (by omega), hl]
      simpa [show (k + 1) * 2 - 2 = k * 2 by omega] using ih.1
    · rw [List.getElem?_append_right (by omega), hl]
      simpa [show (k + 1) * 2 + 1 - 2 = k * 2 + 1 by omega] using ih.2

def IntsAt (ts : List (Bool × Nat)) (cs : Array Value) : Prop := ∀ t ∈ ts, ∃ n, cs[t.2]? = some (.int .i64 n)
theorem IntsAt.set {ts : List (Bool × Nat)} {cs : Array Value} (h : IntsAt ts cs) (o : Nat) (v : Int) : IntsAt ts (cs.setIfInBounds o (.int .i64 v)) := by
  intro t ht
  obtain ⟨n, hn⟩ := h t ht
  by_cases e : o = t.2
  · refine ⟨v, ?_⟩
    rw [e, Array.getElem?_setIfInBounds, if_pos rfl, if_pos (Array.getElem?_eq_some_iff.1 hn).1]
  · exact ⟨n, by rw [Array.getElem?_setIfInBounds, if_neg e]; exact hn⟩

def ReadPost (word : List UInt8) (line : ByteArray) (b : Nat) (ts : List (Bool × Nat)) (cs : Array Value) (T : TypeId) (w : World) (e : Ending) (w' : World) : Prop :=
  w.grownBy w' (some b) ∧ match Pl.readNums word ts.length (Pl.split line.data.toList) with
    | some vs => e = .returned (.tuple #[]) ∧ Blk w' b (setAll cs ts vs) T
    | none => e = malformed ∧ ∃ cs', Blk w' b cs' T

theorem readPost_none {word : List UInt8} {line : ByteArray} {b : Nat} {ts : List (Bool × Nat)} {cs : Array Value} {T : TypeId} {w w' : World} (h : Pl.readNums word ts.length (Pl.split line.data.toList) = none) (hg : w.grownBy w' (some b)) {cs' : Array Value} (hb : Blk w' b cs' T) : ReadPost word line b ts cs T w malformed w' := by
  unfold ReadPost
  rw [h]
  exact ⟨hg, rfl, cs', hb⟩

theorem readPost_some {word : List UInt8} {line : ByteArray} {b : Nat} {ts : List (Bool × Nat)} {cs : Array Value} {T : TypeId} {w w' : World} {vs : List Int} (h : Pl.readNums word ts.length (Pl.split line.data.toList) = some vs) (hg : w.grownBy w' (some b)) (hb : Blk w' b (setAll cs ts vs) T) : ReadPost word line b ts cs T w (.returned (.tuple #[])) w' := by
  unfold ReadPost
  rw [h]
  exact ⟨hg, rfl, hb⟩

set_option maxHeartbeats 2000000 in
set_option maxRecDepth 100000 in
theorem part_read (word : List UInt8) (line : ByteArray) (b g c : Nat) (ts : List (Bool × Nat)) (cs : Array Value) (T : TypeId) (w : World) (hE : Env w) (hb : Blk w b cs T) (hgb : g ≠ b) (hgl : g < w.heap.size)
    (hg : ∀ j u, (numCells b ts)[j]? = some u → w.cell? ⟨g, j, none⟩ = some u) (hoff : IntsAt ts cs) (hs : line.size < 4294967281) (hts : ts.length ≤ 1000) (hne : line.toList.isEmpty = false) :
    Calls Tryd.prog 69 #[.agg #[.string ⟨word.toArray⟩, .slice (some ⟨g, 0, none⟩) ts.length c], .string line] w (ReadPost word line b ts cs T w) := by
  have HG := Lib.hid hg
  have HO := Lib.hid hoff
  have hbl := hb.lt
  have HB := Lib.hid hb
  clear hg hoff hb
  have hsp : Pl.split line.data.toList = Pl.splitC 32 line.data.toList := by
    unfold Pl.split
    rw [if_neg]
    simpa [Lib.toList_data] using hne
  have hE1 := hE.below (Nat.le_refl _) ((Below.refl w.heap.size w).alloc (Nat.le_refl _) (.cells #[.string ⟨word.toArray⟩, .slice (some ⟨g, 0, none⟩) ts.length c] 101))
  have HS := Lib.hid (words_Split_some line _ hE1 hs hne)
  clear hE1 hE
  rw [← hsp] at HS
  have HN := Lib.hid (fun w' => @readPost_none word line b ts cs T w w')
  have HY := Lib.hid (fun w' => @readPost_some word line b ts cs T w w')
  clear hsp
  go_enter Tryd.func69, Tryd.ntmps69
  go_wp2_with fail
  refine HS.out.mono ?_
  rintro e w1 ⟨rfl, rfl⟩
  obtain ⟨W, hW⟩ : ∃ W, W = (w.alloc (.cells #[.string ⟨word.toArray⟩, .slice (some ⟨g, 0, none⟩) ts.length c] 101)).alloc (.cells ((Pl.split line.data.toList).map fun l => Value.string ⟨l.toArray⟩).toArray 9) := ⟨_, rfl⟩
  have hgr : w.grownBy W (some b) := by rw [hW]; exact (World.grownBy_alloc _ _ _).trans (World.grownBy_alloc _ _ _)
  have hp0 : W.cell? ⟨w.heap.size, 0, none⟩ = some (.string ⟨word.toArray⟩) := by rw [hW]; simp [World.cell?_alloc_past]
  have hp1 : W.cell? ⟨w.heap.size, 1, none⟩ = some (.slice (some ⟨g, 0, none⟩) ts.length c) := by rw [hW]; simp [World.cell?_alloc_past]
  have hstr : Hid (Strs W (w.heap.size + 1) (Pl.split line.data.toList)) := fun j hj => by
    rw [hW, World.cell?_alloc_at _ _ _ _ (by simp)]
    simp [List.getD, hj]
  have hblk : Hid (Blk W b cs T) := by rw [hW]; exact HB.out.grown (r := none) (by simp) ((World.grownBy_alloc _ _ none).trans (World.grownBy_alloc _ _ none))
  have hsz : w.heap.size + 1 < W.heap.size := by rw [hW]; simp
  rw [← hW]
  clear hW HS HB
  have hle := Pl.split_getD_le line.data.toList
  generalize Pl.split line.data.toList = ws at *
  by_cases hlen : ws.length = ts.length + 1
  · have h0 := hstr.out 0 (by omega)
    by_cases hw : ws.getD 0 [] = word
    · rw [hw] at h0
      have hx : (0 : Int) < (ts.length : Int) + 1 := by omega
      have hwr : IntKind.i64.wrap ((ts.length : Int) + 1) = (ts.length : Int) + 1 := by rw [IntKind.wrap_i64]; omega
      rw [hlen]
      go_wp2_with fail
      go_quiet ((go_at_call 66; exact Calls.quiet_of_same (sheet_must_true _)))
      simp only [Exit.then]
      have HRN := Lib.hid (show Pl.readNums word ts.length ws = Pl.nonnegs (ws.drop 1) from by unfold Pl.readNums; rw [if_pos ⟨hlen, hw⟩])
      have hgW : Hid (W.grownBy (W.drewN nq) (some b)) := grownBy_drewN (grownBy_refl _ _) nq
      have HLEN := Lib.hid hlen
      have HLE := Lib.hid hle
      clear hlen hw h0 hp0 hle
      go_wp2
      clear hp1
      go_loopw [30] (fun i wr => ∃ (k : Nat) (vs : List Int), k ≤ ts.length ∧ i = .int .i64 k ∧ Hid (W.grownBy wr (some b)) ∧ Hid (Pl.nonnegs ((ws.drop 1).take k) = some vs) ∧ Hid (vs.length = k) ∧ Hid (Blk wr b (setAll cs (ts.take k) vs) T) ∧ Hid (IntsAt ts (setAll cs (ts.take k) vs))) (fun i _ => ts.length - (intOf i).toNat)
      case atStart => exact ⟨0, [], Nat.zero_le _, rfl, hgW, rfl, rfl, hblk, HO.out⟩
      case round =>
        obtain ⟨k, vs, hk, rfl, HW, HV, HVL, HBK, HI⟩ := hrel
        by_cases hlt : k < ts.length
        · have hn1 : wr.cell? ⟨g, k * 2, none⟩ = _ := (HW.out.cell_far ⟨g, k * 2, none⟩ (by show g < _; omega) (by simp [hgb])).trans ((hgr.cell_far ⟨g, k * 2, none⟩ hgl (by simp [hgb])).trans (HG.out _ _ (numCells_get b ts k hlt).1))
          have hn2 : wr.cell? ⟨g, k * 2 + 1, none⟩ = _ := (HW.out.cell_far ⟨g, k * 2 + 1, none⟩ (by show g < _; omega) (by simp [hgb])).trans ((hgr.cell_far ⟨g, k * 2 + 1, none⟩ hgl (by simp [hgb])).trans (HG.out _ _ (numCells_get b ts k hlt).2))
          have hstrk : wr.cell? ⟨w.heap.size + 1, k + 1, none⟩ = _ := (HW.out.cell_far ⟨w.heap.size + 1, k + 1, none⟩ hsz (by simp; omega)).trans (hstr.out (k + 1) (by have := HLEN.out; omega))
          have hxl : ((ws.getD (k + 1) []).length : Int) ≤ 140737488355328 := by have := HLE.out (k + 1); rw [Lib.size_eq] at hs; omega
          have hlk := HLEN.out
          have hdr := Lib.hid (show (ws.drop 1).getD k [] = ws.getD (k + 1) [] by simp [List.getD])
          have hdl := Lib.hid (show k < (ws.drop 1).length by simp; omega)
          have hts1 := Lib.hid (take_snoc ts k (false, 0) hlt)
          have hmem := Lib.hid (show ts.getD k (false, 0) ∈ ts by simp [List.getD, hlt])
          have hWs : w.heap.size + 1 < wr.heap.size := Nat.lt_of_lt_of_le hsz HW.out.size
          generalize ts.getD k (false, 0) = t at *
          generalize ws.getD (k + 1) [] = x at *
          obtain ⟨sh, off⟩ := t
          cases sh
          · simp only [Bool.false_eq_true, if_false] at hn1 hn2
            have HNUM := Lib.hid (words_Number ⟨x.toArray⟩ (wr.alloc (.cells #[.pointer (some ⟨b, off, none⟩), .pointer none] 115)) (by rw [Lib.size_eq]; simp; omega))
            clear hlk
            go_wp2_with fail
            refine HNUM.out.mono ?_
            rintro e w3 ⟨rfl, hb3⟩
            have hrg := Pl.number_range x
            have hW3 : Hid (W.grownBy w3 (some b)) := (HW.out.trans (World.grownBy_alloc _ _ _)).trans (grownBy_of_below' hb3 _)
            have hB3 : Hid (Blk w3 b (setAll cs (ts.take k) vs) T) := (HBK.out.grown (r := none) (by simp) (World.grownBy_alloc _ _ _)).grown (r := none) (by simp) (grownBy_of_below' hb3 _)
            have hp0 : w3.cell? ⟨wr.heap.size, 0, none⟩ = some (.pointer (some ⟨b, off, none⟩)) := (hb3.cell (p := ⟨wr.heap.size, 0, none⟩) (by simp)).trans (World.cell?_alloc_new _ _ _ _)
            have hp1 : w3.cell? ⟨wr.heap.size, 1, none⟩ = some (.pointer none) := (hb3.cell (p := ⟨wr.heap.size, 1, none⟩) (by simp)).trans (World.cell?_alloc_new _ _ _ _)
            clear hb3 HW HBK hn1 hn2 hstrk HNUM
            cases hnn : Pl.nonneg x with
            | none =>
              have HNO := Lib.hid (HN.out w3 (by rw [HRN.out]; exact Pl.nonnegs_take_none hdl.out (by rw [hdr.out]; exact hnn)) (hgr.trans hW3.out) hB3.out)
              unfold Pl.nonneg at hnn
              generalize Pl.number x = r at *
              obtain ⟨n, is⟩ := r
              cases is
              · go_wp2_with (go_at_call 66; refine (sheet_must_false _).mono ?_; rintro e w' ⟨rfl, rfl⟩; unfold malformed)
                exact ⟨rfl, HNO.out⟩
              · have hneg : decide (0 ≤ n) = false := by simp at hnn ⊢; omega
                clear hnn
                go_wp2_with (go_at_call 66; refine (sheet_must_false _).mono ?_; rintro e w' ⟨rfl, rfl⟩; unfold malformed)
                exact ⟨rfl, HNO.out⟩
            | some v =>
              have HV2 := Lib.hid (Pl.nonnegs_take_succ hdl.out HV.out (by rw [hdr.out]; exact hnn))
              have hv0 := Pl.nonneg_range hnn
              unfold Pl.nonneg at hnn
              generalize Pl.number x = r at *
              obtain ⟨n, is⟩ := r
              split at hnn
              · rename_i hc
                obtain ⟨rfl, hc2⟩ := hc
                obtain rfl := Option.some.inj hnn
                have hnd : decide (0 ≤ n) = true := by simpa using hc2
                obtain ⟨v0, hv0c⟩ := HI.out _ hmem.out
                have HSET := Lib.hid (number_set_long b off v0 n w3 ((hB3.out.cell off).trans hv0c) (hB3.out.frozen off))
                go_wp2_with (go_at_call 66; refine (sheet_must_true _).mono ?_; rintro e w' ⟨rfl, rfl⟩)
                refine HSET.out.mono ?_
                rintro e w4 ⟨rfl, hb4⟩
                have hsz4 := hb4.size
                go_wp2
                go_roundw
                case rel =>
                  have e1 : setAll cs (ts.take (k + 1)) (vs ++ [n]) = (setAll cs (ts.take k) vs).setIfInBounds off (.int .i64 n) := by
                    rw [hts1.out, setAll_snoc _ _ _ _ _ (by rw [HVL.out]; simp; omega)]
                  exact ⟨k + 1, vs ++ [n], by omega, by go_num, hW3.out.trans (grownBy_set_below hb4), HV2.out, by show (vs ++ [n]).length = k + 1; simp [HVL.out], by show Blk _ _ _ _; rw [e1]; exact hB3.out.set_below hb4, by show IntsAt _ _; rw [e1]; exact HI.out.set _ _⟩
                case measure => simp [intOf]; omega
              · cases hnn
          · simp only [if_true] at hn1 hn2
            have HNUM := Lib.hid (words_Number ⟨x.toArray⟩ (wr.alloc (.cells #[.pointer none, .pointer (some ⟨b, off, none⟩)] 115)) (by rw [Lib.size_eq]; simp; omega))
            clear hlk
            go_wp2_with fail
            refine HNUM.out.mono ?_
            rintro e w3 ⟨rfl, hb3⟩
            have hrg := Pl.number_range x
            have hW3 : Hid (W.grownBy w3 (some b)) := (HW.out.trans (World.grownBy_alloc _ _ _)).trans (grownBy_of_below' hb3 _)
            have hB3 : Hid (Blk w3 b (setAll cs (ts.take k) vs) T) := (HBK.out.grown (r := none) (by simp) (World.grownBy_alloc _ _ _)).grown (r := none) (by simp) (grownBy_of_below' hb3 _)
            have hp0 : w3.cell? ⟨wr.heap.size, 0, none⟩ = some (.pointer none) := (hb3.cell (p := ⟨wr.heap.size, 0, none⟩) (by simp)).trans (World.cell?_alloc_new _ _ _ _)
            have hp1 : w3.cell? ⟨wr.heap.size, 1, none⟩ = some (.pointer (some ⟨b, off, none⟩)) := (hb3.cell (p := ⟨wr.heap.size, 1, none⟩) (by simp)).trans (World.cell?_alloc_new _ _ _ _)
            clear hb3 HW HBK hn1 hn2 hstrk HNUM
            cases hnn : Pl.nonneg x with
            | none =>
              have HNO := Lib.hid (HN.out w3 (by rw [HRN.out]; exact Pl.nonnegs_take_none hdl.out (by rw [hdr.out]; exact hnn)) (hgr.trans hW3.out) hB3.out)
              unfold Pl.nonneg at hnn
              generalize Pl.number x = r at *
              obtain ⟨n, is⟩ := r
              cases is
              · go_wp2_with (go_at_call 66; refine (sheet_must_false _).mono ?_; rintro e w' ⟨rfl, rfl⟩; unfold malformed)
                exact ⟨rfl, HNO.out⟩
              · have hneg : decide (0 ≤ n) = false := by simp at hnn ⊢; omega
                clear hnn
                go_wp2_with (go_at_call 66; refine (sheet_must_false _).mono ?_; rintro e w' ⟨rfl, rfl⟩; unfold malformed)
                exact ⟨rfl, HNO.out⟩
            | some v =>
              have HV2 := Lib.hid (Pl.nonnegs_take_succ hdl.out HV.out (by rw [hdr.out]; exact hnn))
              have hv0 := Pl.nonneg_range hnn
              unfold Pl.nonneg at hnn
              generalize Pl.number x = r at *
              obtain ⟨n, is⟩ := r
              split at hnn
              · rename_i hc
                obtain ⟨rfl, hc2⟩ := hc
                obtain rfl := Option.some.inj hnn
                have hnd : decide (0 ≤ n) = true := by simpa using hc2
                obtain ⟨v0, hv0c⟩ := HI.out _ hmem.out
                have HSET := Lib.hid (number_set_short b off v0 n (by omega) (by omega) w3 ((hB3.out.cell off).trans hv0c) (hB3.out.frozen off))
                go_wp2_with (go_at_call 66; refine (sheet_must_true _).mono ?_; rintro e w' ⟨rfl, rfl⟩)
                refine HSET.out.mono ?_
                rintro e w4 ⟨rfl, hb4⟩
                have hsz4 := hb4.size
                go_wp2
                go_roundw
                case rel =>
                  have e1 : setAll cs (ts.take (k + 1)) (vs ++ [n]) = (setAll cs (ts.take k) vs).setIfInBounds off (.int .i64 n) := by
                    rw [hts1.out, setAll_snoc _ _ _ _ _ (by rw [HVL.out]; simp; omega)]
                  exact ⟨k + 1, vs ++ [n], by omega, by go_num, hW3.out.trans (grownBy_set_below hb4), HV2.out, by show (vs ++ [n]).length = k + 1; simp [HVL.out], by show Blk _ _ _ _; rw [e1]; exact hB3.out.set_below hb4, by show IntsAt _ _; rw [e1]; exact HI.out.set _ _⟩
                case measure => simp [intOf]; omega
              · cases hnn
        · obtain rfl : k = ts.length := by omega
          have hdl : (ws.drop 1).take ts.length = ws.drop 1 := List.take_of_length_le (by simp; have := HLEN.out; omega)
          have hpost : Hid (ReadPost word line b ts cs T w (.returned (.tuple #[])) wr) := by
            have hv := HV.out
            have hbk := HBK.out
            rw [hdl] at hv
            rw [List.take_length] at hbk
            exact HY.out wr (by rw [HRN.out]; exact hv) (hgr.trans HW.out) hbk
          clear hdl
          go_wp2
          go_end0
          exact hpost.out
    · have HR := Lib.hid (show Pl.readNums word ts.length ws = none from by unfold Pl.readNums; rw [if_neg (by intro h; exact hw h.2)])
      have hne2 : ((ws.getD 0 []) == word) = false := by simpa using hw
      have hx : (0 : Int) < (ts.length : Int) + 1 := by omega
      have hwr : IntKind.i64.wrap ((ts.length : Int) + 1) = (ts.length : Int) + 1 := by rw [IntKind.wrap_i64]; omega
      rw [hlen]
      generalize ws.getD 0 [] = w0 at *
      clear hw
      go_wp2_with fail
      go_still_tail 15, (by kernel_rfl)
      change wpList _ _ _ _ _ W.drew
      go_wp2_with (go_at_call 66; refine (sheet_must_false _).mono ?_; rintro e w' ⟨rfl, rfl⟩; unfold malformed)
      exact ⟨rfl, HN.out _ HR.out (grownBy_drew hgr) hblk.out⟩
  · have HR := Lib.hid (show Pl.readNums word ts.length ws = none from by unfold Pl.readNums; rw [if_neg (by intro h; exact hlen h.1)])
    have hwr : IntKind.i64.wrap ((ts.length : Int) + 1) = (ts.length : Int) + 1 := by rw [IntKind.wrap_i64]; omega
    have hne2 : ((ws.length : Int) == (ts.length : Int) + 1) = false := by simp; omega
    go_wp2_with fail
    go_still_tail 15, (by kernel_rfl)
    change wpList _ _ _ _ _ W.drew
    go_wp2_with (go_at_call 66; refine (sheet_must_false _).mono ?_; rintro e w' ⟨rfl, rfl⟩; unfold malformed)
    exact ⟨rfl, HN.out _ HR.out (grownBy_drew hgr) hblk.out⟩

end Go.Proofs.YtbcepdacfmbekaaDoor
