/-
  The walk of the reader's command (package words).
-/
import Derived.Test.YtbcepdacfmbekaaDoorKOf
import Derived.Test.YtbcepdacfmbekaaDoorKWr2
namespace Go.Proofs.YtbcepdacfmbekaaDoor
open Go.RowKit
variable {B : Nat}

def Pl.sidesW : List (List UInt8) := [[98, 117, 121], [115, 101, 108, 108]]
def Pl.typesW : List (List UInt8) := [[108, 105, 109, 105, 116], [109, 97, 114, 107, 101, 116], [110, 111, 119], [97, 108, 108], [112, 111, 115, 116]]

/-- A command behind its first two numbers. -/
def Pl.rtail (kind sym id : Int) (l : List (List UInt8)) : Option (Pl.Cmd × List (List UInt8)) :=
  if kind = 1 then
    (Pl.rin 1073741824 l).bind fun p1 => (Pl.rone Pl.sidesW p1.2).bind fun p2 => (Pl.rone Pl.typesW p2.2).bind fun p3 => (Pl.rnum p3.2).bind fun p4 => (Pl.rnum p4.2).bind fun p5 =>
      some (⟨kind, sym, id, p1.1, p2.1, p3.1 + 1, p4.1, p5.1, (Pl.rflags p5.2).1⟩, (Pl.rflags p5.2).2)
  else if kind = 3 then (Pl.rnum l).bind fun p4 => (Pl.rnum p4.2).bind fun p5 => some (⟨kind, sym, id, 0, 0, 0, p4.1, p5.1, 0⟩, p5.2)
  else some (⟨kind, sym, id, 0, 0, 0, 0, 0, 0⟩, l)
/-- A command's words, behind the first. -/
def Pl.rcommand (kind : Int) (l : List (List UInt8)) : Option (Pl.Cmd × List (List UInt8)) :=
  (Pl.rin 255 l).bind fun p1 => (Pl.rin 4611686018427387904 p1.2).bind fun p2 => (Pl.rtail kind p1.1 p2.1 p2.2).bind fun p3 => if Pl.cmdRight p3.1 = true then some p3 else none

def RcPost (B b : Nat) (o : Option (Pl.Cmd × List (List UInt8))) (w : World) (e : Ending) (w' : World) : Prop :=
  w.grownBy w' (some b) ∧ match o with
    | some (c, r) => ∃ v, e = .returned (.agg (stepArr 1 0 0 v)) ∧ Rdr B w' b r ∧ w'.ownsRow w.heap.size 5 1 v (Pl.form c).length (byteCells (Pl.form c))
    | none => e = malformed

theorem grownBy_setNew {w w' : World} {r : Option Nat} {g o : Nat} {x : Value} (h : w.grownBy w' r) (hg : w.heap.size ≤ g) : w.grownBy (w'.setCell ⟨g, o, none⟩ x) r :=
  ⟨h.os, h.tape, h.output, by rw [World.size_setCell]; exact h.size, fun k hk hne => by
    rw [(grownBy_setCell w' g o x).block k (Nat.lt_of_lt_of_le hk h.size) (by simp; omega)]
    exact h.block k hk hne⟩
theorem Rdr.setOther {w : World} {b g o : Nat} {x : Value} {l : List (List UInt8)} (h : Rdr B w b l) (hg : g ≠ b) (hB : B ≤ g) : Rdr B (w.setCell ⟨g, o, none⟩ x) b l := by
  obtain ⟨v, h1, h2, h3⟩ := h
  refine ⟨v, h1.set_other ⟨g, o, none⟩ hg x, ?_, h3⟩
  exact h2.grown (r := some g) (fun k hk => by simp; omega) (grownBy_setCell w g o x)

theorem Pl.rnum_range {l r : List (List UInt8)} {n : Int} (h : Pl.rnum l = some (n, r)) : -9223372036854775808 ≤ n ∧ n ≤ 9223372036854775807 := by
  cases l with
  | nil => cases h
  | cons x t =>
    simp only [Pl.rnum] at h
    split at h
    · cases h; exact Pl.number_range x
    · cases h

theorem Pl.rone_range {L l r : List (List UInt8)} {n : Int} (h : Pl.rone L l = some (n, r)) : 0 ≤ n ∧ n < L.length := by
  cases l with
  | nil => cases h
  | cons x t =>
    simp only [Pl.rone] at h
    split at h
    · cases h; exact ⟨by assumption, Pl.indexOf_lt _ _⟩
    · cases h
theorem strs_sides {w : World} {g : Nat} {T : TypeId} (h : Blk w g #[.string ⟨#[98, 117, 121]⟩, .string ⟨#[115, 101, 108, 108]⟩] T) : Strs w g Pl.sidesW := by
  intro j hj
  rw [h.cell j]
  match j, hj with
  | 0, _ => rfl
  | 1, _ => rfl
  | j + 2, h => simp [Pl.sidesW] at h; omega
theorem strs_types {w : World} {g : Nat} {T : TypeId} (h : Blk w g #[.string ⟨#[108, 105, 109, 105, 116]⟩, .string ⟨#[109, 97, 114, 107, 101, 116]⟩, .string ⟨#[110, 111, 119]⟩, .string ⟨#[97, 108, 108]⟩, .string ⟨#[112, 111, 115, 116]⟩] T) : Strs w g Pl.typesW := by
  intro j hj
  rw [h.cell j]
  match j, hj with
  | 0, _ => rfl
  | 1, _ => rfl
  | 2, _ => rfl
  | 3, _ => rfl
  | 4, _ => rfl
  | j + 5, h => simp [Pl.typesW] at h; omega

def NoPost (b : Nat) (w : World) (e : Ending) (w' : World) : Prop := e = malformed ∧ w.grownBy w' (some b)
def YesPost (B b : Nat) (v : Value) (r : List (List UInt8)) (w : World) (e : Ending) (w' : World) : Prop := e = .returned v ∧ w.grownBy w' (some b) ∧ Rdr B w' b r
theorem calls_no {f : FuncId} {args : Array Value} {b : Nat} {w : World} {o : Option (Int × List (List UInt8))} (h : Calls Tryd.prog f args w (RPost B b w (intVal o))) (ho : o = none) : Calls Tryd.prog f args w (NoPost b w) :=
  h.mono fun _ _ hp => hp.none (by rw [ho]; rfl)
theorem calls_yes {f : FuncId} {args : Array Value} {b : Nat} {w : World} {o : Option (Int × List (List UInt8))} {n : Int} {r : List (List UInt8)} (h : Calls Tryd.prog f args w (RPost B b w (intVal o))) (ho : o = some (n, r)) : Calls Tryd.prog f args w (YesPost B b (.int .i64 n) r w) :=
  h.mono fun _ _ hp => hp.some (by rw [ho]; rfl)

theorem RcPost.mk_none {b : Nat} {w w' : World} {o : Option (Pl.Cmd × List (List UInt8))} (ho : o = none) (hg : w.grownBy w' (some b)) : RcPost B b o w malformed w' := by
  subst ho; exact ⟨hg, rfl⟩
theorem RcPost.mk_some {b : Nat} {w w' : World} {o : Option (Pl.Cmd × List (List UInt8))} {c : Pl.Cmd} {r : List (List UInt8)} {v : Value} {n : Nat} (ho : o = some (c, r)) (hn : n = (Pl.form c).length) (hg : w.grownBy w' (some b)) (hr : Rdr B w' b r) (hown : w'.ownsRow w.heap.size 5 1 v n (byteCells (Pl.form c))) :
    RcPost B b o w (.returned (.agg (stepArr 1 0 0 v))) w' := by
  subst ho; subst hn; exact ⟨hg, v, rfl, hr, hown⟩

set_option maxHeartbeats 4000000 in
set_option maxRecDepth 100000 in
theorem reader_command (b : Nat) (kind : Int) (l : List (List UInt8)) (w : World) (h : Rdr B w b l) (hB : B ≤ w.heap.size) (hk : kind = 1 ∨ kind = 2 ∨ kind = 3) : Calls Tryd.prog 133 #[.pointer (some ⟨b, 0, none⟩), .int .i64 kind] w (RcPost B b (Pl.rcommand kind l) w) := by
  have HN := Lib.hid (fun w' => @RcPost.mk_none B b w w' (Pl.rcommand kind l))
  have HY := Lib.hid (fun w' => @RcPost.mk_some B b w w' (Pl.rcommand kind l))
  have HE := Lib.hid (show Pl.rcommand kind l = _ from rfl)
  have hbl := h.lt
  have HK := Lib.hid hk
  clear hk
  have HR0 : Hid (Rdr B (w.alloc (.cells #[.int .i64 0, .int .i64 0, .int .i64 0, .slice none 0 0] 42)) b l) := h.grown rfl (World.grownBy_alloc _ _ _)
  have HG0 : Hid (w.grownBy (w.alloc (.cells #[.int .i64 0, .int .i64 0, .int .i64 0, .slice none 0 0] 42)) (some b)) := World.grownBy_alloc _ _ _
  have HS0 : Hid (Blk (w.alloc (.cells #[.int .i64 0, .int .i64 0, .int .i64 0, .slice none 0 0] 42)) w.heap.size #[.int .i64 0, .int .i64 0, .int .i64 0, .slice none 0 0] 42) := Blk.alloc _ _
  clear h
  go_enter Tryd.func133, Tryd.ntmps133
  go_wp2_with fail
  generalize w.alloc (.cells #[.int .i64 0, .int .i64 0, .int .i64 0, .slice none 0 0] 42) = w0 at *
  rcases h1 : Pl.rin 255 l with _ | ⟨sym, r1⟩
  · have HO := Lib.hid (show Pl.rcommand kind l = none by unfold Pl.rcommand; rw [h1]; rfl)
    have HC := Lib.hid (calls_no (reader_in b l 255 w0 HR0.out) h1)
    clear h1
    refine HC.out.mono ?_
    rintro e w1 ⟨rfl, hg⟩
    have HG := Lib.hid (HG0.out.trans hg)
    clear hg HC
    unfold malformed
    go_wp2
    exact ⟨rfl, HN.out _ HO.out HG.out⟩
  have HC := Lib.hid (calls_yes (reader_in b l 255 w0 HR0.out) h1)
  have HE1 := Lib.hid (show Pl.rcommand kind l = (Pl.rin 4611686018427387904 r1).bind fun p2 => (Pl.rtail kind sym p2.1 p2.2).bind fun p3 => if Pl.cmdRight p3.1 = true then some p3 else none by unfold Pl.rcommand; rw [h1]; rfl)
  clear h1 HE
  refine HC.out.mono ?_
  rintro e w1 ⟨rfl, hg, hr⟩
  have HG1 : Hid (w.grownBy w1 (some b)) := HG0.out.trans hg
  have HS1 : Hid (Blk w1 w.heap.size #[.int .i64 0, .int .i64 0, .int .i64 0, .slice none 0 0] 42) := HS0.out.grown (by simp; omega) hg
  have HR1 := Lib.hid hr
  clear hg hr HC HG0 HS0 HR0
  go_wp2_with fail
  rcases h2 : Pl.rin 4611686018427387904 r1 with _ | ⟨id, r2⟩
  · have HO := Lib.hid (show Pl.rcommand kind l = none by rw [HE1.out, h2]; rfl)
    have HC := Lib.hid (calls_no (reader_in b r1 4611686018427387904 w1 HR1.out) h2)
    clear h2
    refine HC.out.mono ?_
    rintro e w2 ⟨rfl, hg⟩
    have HG := Lib.hid (HG1.out.trans hg)
    clear hg HC
    unfold malformed
    go_wp2
    exact ⟨rfl, HN.out _ HO.out HG.out⟩
  have HC := Lib.hid (calls_yes (reader_in b r1 4611686018427387904 w1 HR1.out) h2)
  have HE2 := Lib.hid (show Pl.rcommand kind l = (Pl.rtail kind sym id r2).bind fun p3 => if Pl.cmdRight p3.1 = true then some p3 else none by rw [HE1.out, h2]; rfl)
  clear h2 HE1
  refine HC.out.mono ?_
  rintro e w2 ⟨rfl, hg, hr⟩
  have HG2 : Hid (w.grownBy w2 (some b)) := HG1.out.trans hg
  have HS2 : Hid (Blk w2 w.heap.size #[.int .i64 0, .int .i64 0, .int .i64 0, .slice none 0 0] 42) := HS1.out.grown (by simp; omega) hg
  have HR2 := Lib.hid hr
  have hsz1 := HS2.out.lt
  clear hg hr HC HG1 HS1 HR1
  by_cases hk1 : kind = 1
  · skip
    have hb1 : (kind == 1) = true := beq_iff_eq.2 hk1
    have hb3 : (kind == 3) = false := by rw [beq_eq_false_iff_ne]; omega
    have HT := Lib.hid (show Pl.rtail kind sym id r2 = (Pl.rin 1073741824 r2).bind fun p1 => (Pl.rone Pl.sidesW p1.2).bind fun p2 => (Pl.rone Pl.typesW p2.2).bind fun p3 => (Pl.rnum p3.2).bind fun p4 => (Pl.rnum p4.2).bind fun p5 =>
          some (⟨kind, sym, id, p1.1, p2.1, p3.1 + 1, p4.1, p5.1, (Pl.rflags p5.2).1⟩, (Pl.rflags p5.2).2) by unfold Pl.rtail; rw [if_pos hk1])
    clear hk1
    go_wp2_with fail
    have HGW3 : Hid (w.grownBy (w2.alloc (.cells #[.int .i64 kind, .int .i64 sym, .int .i64 id, .int .i64 0, .int .i64 0, .int .i64 0, .int .i64 0, .int .i64 0, .int .i64 0] 164)) (some b)) := HG2.out.trans (World.grownBy_alloc _ _ _)
    have HRW3 : Hid (Rdr B (w2.alloc (.cells #[.int .i64 kind, .int .i64 sym, .int .i64 id, .int .i64 0, .int .i64 0, .int .i64 0, .int .i64 0, .int .i64 0, .int .i64 0] 164)) b r2) := HR2.out.grown rfl (World.grownBy_alloc _ _ _)
    have HSW3 : Hid (Blk (w2.alloc (.cells #[.int .i64 kind, .int .i64 sym, .int .i64 id, .int .i64 0, .int .i64 0, .int .i64 0, .int .i64 0, .int .i64 0, .int .i64 0] 164)) w.heap.size #[.int .i64 0, .int .i64 0, .int .i64 0, .slice none 0 0] 42) := HS2.out.grown (r := none) (by simp) (World.grownBy_alloc _ _ _)
    have hszW : w.heap.size < (w2.alloc (.cells #[.int .i64 kind, .int .i64 sym, .int .i64 id, .int .i64 0, .int .i64 0, .int .i64 0, .int .i64 0, .int .i64 0, .int .i64 0] 164)).heap.size := by simp; omega
    have HKW3 : Hid (Blk (w2.alloc (.cells #[.int .i64 kind, .int .i64 sym, .int .i64 id, .int .i64 0, .int .i64 0, .int .i64 0, .int .i64 0, .int .i64 0, .int .i64 0] 164)) w2.heap.size #[.int .i64 kind, .int .i64 sym, .int .i64 id, .int .i64 0, .int .i64 0, .int .i64 0, .int .i64 0, .int .i64 0, .int .i64 0] 164) := Blk.alloc _ _
    generalize w2.alloc (.cells #[.int .i64 kind, .int .i64 sym, .int .i64 id, .int .i64 0, .int .i64 0, .int .i64 0, .int .i64 0, .int .i64 0, .int .i64 0] 164) = W3 at *
    obtain ⟨cb, hcb⟩ : ∃ cb, cb = w2.heap.size := ⟨_, rfl⟩
    rw [← hcb] at HKW3
    rw [← hcb]
    have hcb1 : w.heap.size < cb := by omega
    clear hcb HG2 HR2 HS2
    refine (words_sides W3).mono ?_
    rintro e w3 ⟨rfl, hb⟩
    have HGw3 : Hid (w.grownBy w3 (some b)) := HGW3.out.trans (grownBy_of_below' hb _)
    have HRw3 : Hid (Rdr B w3 b r2) := HRW3.out.below hb
    have HSw3 : Hid (Blk w3 w.heap.size #[.int .i64 0, .int .i64 0, .int .i64 0, .slice none 0 0] 42) := HSW3.out.grown (r := none) (by simp) (grownBy_of_below' hb none)
    have HKw3 : Hid (Blk w3 cb #[.int .i64 kind, .int .i64 sym, .int .i64 id, .int .i64 0, .int .i64 0, .int .i64 0, .int .i64 0, .int .i64 0, .int .i64 0] 164) := HKW3.out.grown (r := none) (by simp) (grownBy_of_below' hb none)
    have hszw3 := HKw3.out.lt
    clear hb HGW3 HRW3 HSW3 HKW3
    go_wp2_with fail
    refine (words_types w3).mono ?_
    rintro e w4 ⟨rfl, hb⟩
    have HGw4 : Hid (w.grownBy w4 (some b)) := HGw3.out.trans (grownBy_of_below' hb _)
    have HRw4 : Hid (Rdr B w4 b r2) := HRw3.out.below hb
    have HSw4 : Hid (Blk w4 w.heap.size #[.int .i64 0, .int .i64 0, .int .i64 0, .slice none 0 0] 42) := HSw3.out.grown (r := none) (by simp) (grownBy_of_below' hb none)
    have HKw4 : Hid (Blk w4 cb #[.int .i64 kind, .int .i64 sym, .int .i64 id, .int .i64 0, .int .i64 0, .int .i64 0, .int .i64 0, .int .i64 0, .int .i64 0] 164) := HKw3.out.grown (r := none) (by simp) (grownBy_of_below' hb none)
    have hszw4 := HKw4.out.lt
    clear hb HGw3 HRw3 HSw3 HKw3
    have HGw5 : Hid (w.grownBy ((w4.alloc (.cells #[.string ⟨#[98, 117, 121]⟩, .string ⟨#[115, 101, 108, 108]⟩] 212)).alloc (.cells #[.string ⟨#[108, 105, 109, 105, 116]⟩, .string ⟨#[109, 97, 114, 107, 101, 116]⟩, .string ⟨#[110, 111, 119]⟩, .string ⟨#[97, 108, 108]⟩, .string ⟨#[112, 111, 115, 116]⟩] 214)) (some b)) := (HGw4.out.trans (World.grownBy_alloc _ _ _)).trans (World.grownBy_alloc _ _ _)
    have HRw5 : Hid (Rdr B ((w4.alloc (.cells #[.string ⟨#[98, 117, 121]⟩, .string ⟨#[115, 101, 108, 108]⟩] 212)).alloc (.cells #[.string ⟨#[108, 105, 109, 105, 116]⟩, .string ⟨#[109, 97, 114, 107, 101, 116]⟩, .string ⟨#[110, 111, 119]⟩, .string ⟨#[97, 108, 108]⟩, .string ⟨#[112, 111, 115, 116]⟩] 214)) b r2) := (HRw4.out.grown rfl (World.grownBy_alloc _ _ _)).grown rfl (World.grownBy_alloc _ _ _)
    have HSw5 : Hid (Blk ((w4.alloc (.cells #[.string ⟨#[98, 117, 121]⟩, .string ⟨#[115, 101, 108, 108]⟩] 212)).alloc (.cells #[.string ⟨#[108, 105, 109, 105, 116]⟩, .string ⟨#[109, 97, 114, 107, 101, 116]⟩, .string ⟨#[110, 111, 119]⟩, .string ⟨#[97, 108, 108]⟩, .string ⟨#[112, 111, 115, 116]⟩] 214)) w.heap.size #[.int .i64 0, .int .i64 0, .int .i64 0, .slice none 0 0] 42) := (HSw4.out.grown (r := none) (by simp) (World.grownBy_alloc _ _ _)).grown (r := none) (by simp) (World.grownBy_alloc _ _ _)
    have HKw5 : Hid (Blk ((w4.alloc (.cells #[.string ⟨#[98, 117, 121]⟩, .string ⟨#[115, 101, 108, 108]⟩] 212)).alloc (.cells #[.string ⟨#[108, 105, 109, 105, 116]⟩, .string ⟨#[109, 97, 114, 107, 101, 116]⟩, .string ⟨#[110, 111, 119]⟩, .string ⟨#[97, 108, 108]⟩, .string ⟨#[112, 111, 115, 116]⟩] 214)) cb #[.int .i64 kind, .int .i64 sym, .int .i64 id, .int .i64 0, .int .i64 0, .int .i64 0, .int .i64 0, .int .i64 0, .int .i64 0] 164) := (HKw4.out.grown (r := none) (by simp) (World.grownBy_alloc _ _ _)).grown (r := none) (by simp) (World.grownBy_alloc _ _ _)
    have HAw5 : Hid (Blk ((w4.alloc (.cells #[.string ⟨#[98, 117, 121]⟩, .string ⟨#[115, 101, 108, 108]⟩] 212)).alloc (.cells #[.string ⟨#[108, 105, 109, 105, 116]⟩, .string ⟨#[109, 97, 114, 107, 101, 116]⟩, .string ⟨#[110, 111, 119]⟩, .string ⟨#[97, 108, 108]⟩, .string ⟨#[112, 111, 115, 116]⟩] 214)) w4.heap.size #[.string ⟨#[98, 117, 121]⟩, .string ⟨#[115, 101, 108, 108]⟩] 212) := (Blk.alloc _ _).grown (r := none) (by simp) (World.grownBy_alloc _ _ _)
    have HTw5 : Hid (Blk ((w4.alloc (.cells #[.string ⟨#[98, 117, 121]⟩, .string ⟨#[115, 101, 108, 108]⟩] 212)).alloc (.cells #[.string ⟨#[108, 105, 109, 105, 116]⟩, .string ⟨#[109, 97, 114, 107, 101, 116]⟩, .string ⟨#[110, 111, 119]⟩, .string ⟨#[97, 108, 108]⟩, .string ⟨#[112, 111, 115, 116]⟩] 214)) (w4.heap.size + 1) #[.string ⟨#[108, 105, 109, 105, 116]⟩, .string ⟨#[109, 97, 114, 107, 101, 116]⟩, .string ⟨#[110, 111, 119]⟩, .string ⟨#[97, 108, 108]⟩, .string ⟨#[112, 111, 115, 116]⟩] 214) := by
      have := Blk.alloc (w := w4.alloc (.cells #[.string ⟨#[98, 117, 121]⟩, .string ⟨#[115, 101, 108, 108]⟩] 212)) #[.string ⟨#[108, 105, 109, 105, 116]⟩, .string ⟨#[109, 97, 114, 107, 101, 116]⟩, .string ⟨#[110, 111, 119]⟩, .string ⟨#[97, 108, 108]⟩, .string ⟨#[112, 111, 115, 116]⟩] 214
      rw [World.size_alloc] at this; exact this
    have hszw5 : w4.heap.size + 1 < ((w4.alloc (.cells #[.string ⟨#[98, 117, 121]⟩, .string ⟨#[115, 101, 108, 108]⟩] 212)).alloc (.cells #[.string ⟨#[108, 105, 109, 105, 116]⟩, .string ⟨#[109, 97, 114, 107, 101, 116]⟩, .string ⟨#[110, 111, 119]⟩, .string ⟨#[97, 108, 108]⟩, .string ⟨#[112, 111, 115, 116]⟩] 214)).heap.size := by simp
    go_wp2_with fail
    generalize ((w4.alloc (.cells #[.string ⟨#[98, 117, 121]⟩, .string ⟨#[115, 101, 108, 108]⟩] 212)).alloc (.cells #[.string ⟨#[108, 105, 109, 105, 116]⟩, .string ⟨#[109, 97, 114, 107, 101, 116]⟩, .string ⟨#[110, 111, 119]⟩, .string ⟨#[97, 108, 108]⟩, .string ⟨#[112, 111, 115, 116]⟩] 214)) = w5 at *
    obtain ⟨gs, hgs⟩ : ∃ gs, gs = w4.heap.size := ⟨_, rfl⟩
    have hgs1 : cb < gs := by omega
    rw [← hgs] at HAw5
    rw [← hgs] at HTw5
    rw [← hgs]
    clear hgs HGw4 HRw4 HSw4 HKw4
    rcases h3 : Pl.rin 1073741824 r2 with _ | ⟨owner, r3⟩
    · have HO := Lib.hid (show Pl.rcommand kind l = none by rw [HE2.out, HT.out, h3]; rfl)
      have HC := Lib.hid (calls_no (reader_in b r2 1073741824 w5 HRw5.out) h3)
      clear h3
      refine HC.out.mono ?_
      rintro e w9 ⟨rfl, hg⟩
      have HG := Lib.hid (HGw5.out.trans hg)
      clear hg HC
      unfold malformed
      go_wp2
      exact ⟨rfl, HN.out _ HO.out HG.out⟩
    have HC := Lib.hid (calls_yes (reader_in b r2 1073741824 w5 HRw5.out) h3)
    have HT3 := Lib.hid (show Pl.rtail kind sym id r2 = (Pl.rone Pl.sidesW r3).bind fun p2 => (Pl.rone Pl.typesW p2.2).bind fun p3 => (Pl.rnum p3.2).bind fun p4 => (Pl.rnum p4.2).bind fun p5 => some (⟨kind, sym, id, owner, p2.1, p3.1 + 1, p4.1, p5.1, (Pl.rflags p5.2).1⟩, (Pl.rflags p5.2).2) by rw [HT.out, h3]; rfl)
    clear h3 HT
    refine HC.out.mono ?_
    rintro e w6 ⟨rfl, hg, hr⟩
    clear HC
    have HGw6 : Hid (w.grownBy w6 (some b)) := HGw5.out.trans hg
    have HRw6 := Lib.hid hr
    have HSw6 : Hid (Blk w6 w.heap.size #[.int .i64 0, .int .i64 0, .int .i64 0, .slice none 0 0] 42) := HSw5.out.grown (by simp; omega) hg
    have HKw6 : Hid (Blk w6 cb #[.int .i64 kind, .int .i64 sym, .int .i64 id, .int .i64 0, .int .i64 0, .int .i64 0, .int .i64 0, .int .i64 0, .int .i64 0] 164) := HKw5.out.grown (by simp; omega) hg
    have HAw6 : Hid (Blk w6 gs #[.string ⟨#[98, 117, 121]⟩, .string ⟨#[115, 101, 108, 108]⟩] 212) := HAw5.out.grown (by simp; omega) hg
    have HTw6 : Hid (Blk w6 (gs + 1) #[.string ⟨#[108, 105, 109, 105, 116]⟩, .string ⟨#[109, 97, 114, 107, 101, 116]⟩, .string ⟨#[110, 111, 119]⟩, .string ⟨#[97, 108, 108]⟩, .string ⟨#[112, 111, 115, 116]⟩] 214) := HTw5.out.grown (by simp; omega) hg
    have hszw6 := HKw6.out.lt
    have hstw6 := HTw6.out.lt
    clear hg hr HGw5 HRw5 HSw5 HKw5 HAw5 HTw5
    have p3 := HKw6.out.cell 3
    have y3 := HKw6.out.frozen 3
    have HGw7 : Hid (w.grownBy (w6.setCell ⟨cb, 3, none⟩ (.int .i64 owner)) (some b)) := grownBy_setNew (HGw6.out) (by omega)
    have HRw7 : Hid (Rdr B (w6.setCell ⟨cb, 3, none⟩ (.int .i64 owner)) b r3) := (HRw6.out).setOther (by omega) (by omega)
    have HSw7 : Hid (Blk (w6.setCell ⟨cb, 3, none⟩ (.int .i64 owner)) w.heap.size #[.int .i64 0, .int .i64 0, .int .i64 0, .slice none 0 0] 42) := (HSw6.out).set_other _ (by simp; omega) _
    have HKw7 : Hid (Blk (w6.setCell ⟨cb, 3, none⟩ (.int .i64 owner)) cb #[.int .i64 kind, .int .i64 sym, .int .i64 id, .int .i64 owner, .int .i64 0, .int .i64 0, .int .i64 0, .int .i64 0, .int .i64 0] 164) := (HKw6.out).set 3 (.int .i64 owner)
    have HAw7 : Hid (Blk (w6.setCell ⟨cb, 3, none⟩ (.int .i64 owner)) gs #[.string ⟨#[98, 117, 121]⟩, .string ⟨#[115, 101, 108, 108]⟩] 212) := (HAw6.out).set_other _ (by simp; omega) _
    have HTw7 : Hid (Blk (w6.setCell ⟨cb, 3, none⟩ (.int .i64 owner)) (gs + 1) #[.string ⟨#[108, 105, 109, 105, 116]⟩, .string ⟨#[109, 97, 114, 107, 101, 116]⟩, .string ⟨#[110, 111, 119]⟩, .string ⟨#[97, 108, 108]⟩, .string ⟨#[112, 111, 115, 116]⟩] 214) := (HTw6.out).set_other _ (by simp; omega) _
    have hszw7 : w.heap.size < (w6.setCell ⟨cb, 3, none⟩ (.int .i64 owner)).heap.size := by simp only [World.size_setCell]; omega
    clear HGw6 HRw6 HSw6 HKw6 HAw6 HTw6
    go_wp2_with fail
    generalize (w6.setCell ⟨cb, 3, none⟩ (.int .i64 owner)) = w7 at *
    clear p3 y3
    rcases h4 : Pl.rone Pl.sidesW r3 with _ | ⟨side, r4⟩
    · have HO := Lib.hid (show Pl.rcommand kind l = none by rw [HE2.out, HT3.out, h4]; rfl)
      have HC := Lib.hid (calls_no (reader_one b r3 Pl.sidesW gs 2 w7 HRw7.out (strs_sides HAw7.out) (by omega) HAw7.out.lt (by simp [Pl.sidesW])) h4)
      clear h4
      refine HC.out.mono ?_
      rintro e w9 ⟨rfl, hg⟩
      have HG := Lib.hid (HGw7.out.trans hg)
      clear hg HC
      unfold malformed
      go_wp2
      exact ⟨rfl, HN.out _ HO.out HG.out⟩
    have HC := Lib.hid (calls_yes (reader_one b r3 Pl.sidesW gs 2 w7 HRw7.out (strs_sides HAw7.out) (by omega) HAw7.out.lt (by simp [Pl.sidesW])) h4)
    have HT4 := Lib.hid (show Pl.rtail kind sym id r2 = (Pl.rone Pl.typesW r4).bind fun p3 => (Pl.rnum p3.2).bind fun p4 => (Pl.rnum p4.2).bind fun p5 => some (⟨kind, sym, id, owner, side, p3.1 + 1, p4.1, p5.1, (Pl.rflags p5.2).1⟩, (Pl.rflags p5.2).2) by rw [HT3.out, h4]; rfl)
    clear h4 HT3
    refine HC.out.mono ?_
    rintro e w8 ⟨rfl, hg, hr⟩
    clear HC
    have HGw8 : Hid (w.grownBy w8 (some b)) := HGw7.out.trans hg
    have HRw8 := Lib.hid hr
    have HSw8 : Hid (Blk w8 w.heap.size #[.int .i64 0, .int .i64 0, .int .i64 0, .slice none 0 0] 42) := HSw7.out.grown (by simp; omega) hg
    have HKw8 : Hid (Blk w8 cb #[.int .i64 kind, .int .i64 sym, .int .i64 id, .int .i64 owner, .int .i64 0, .int .i64 0, .int .i64 0, .int .i64 0, .int .i64 0] 164) := HKw7.out.grown (by simp; omega) hg
    have HAw8 : Hid (Blk w8 gs #[.string ⟨#[98, 117, 121]⟩, .string ⟨#[115, 101, 108, 108]⟩] 212) := HAw7.out.grown (by simp; omega) hg
    have HTw8 : Hid (Blk w8 (gs + 1) #[.string ⟨#[108, 105, 109, 105, 116]⟩, .string ⟨#[109, 97, 114, 107, 101, 116]⟩, .string ⟨#[110, 111, 119]⟩, .string ⟨#[97, 108, 108]⟩, .string ⟨#[112, 111, 115, 116]⟩] 214) := HTw7.out.grown (by simp; omega) hg
    have hszw8 := HKw8.out.lt
    have hstw8 := HTw8.out.lt
    clear hg hr HGw7 HRw7 HSw7 HKw7 HAw7 HTw7
    have p4 := HKw8.out.cell 4
    have y4 := HKw8.out.frozen 4
    have HGw10 : Hid (w.grownBy (w8.setCell ⟨cb, 4, none⟩ (.int .i64 side)) (some b)) := grownBy_setNew (HGw8.out) (by omega)
    have HRw10 : Hid (Rdr B (w8.setCell ⟨cb, 4, none⟩ (.int .i64 side)) b r4) := (HRw8.out).setOther (by omega) (by omega)
    have HSw10 : Hid (Blk (w8.setCell ⟨cb, 4, none⟩ (.int .i64 side)) w.heap.size #[.int .i64 0, .int .i64 0, .int .i64 0, .slice none 0 0] 42) := (HSw8.out).set_other _ (by simp; omega) _
    have HKw10 : Hid (Blk (w8.setCell ⟨cb, 4, none⟩ (.int .i64 side)) cb #[.int .i64 kind, .int .i64 sym, .int .i64 id, .int .i64 owner, .int .i64 side, .int .i64 0, .int .i64 0, .int .i64 0, .int .i64 0] 164) := (HKw8.out).set 4 (.int .i64 side)
    have HAw10 : Hid (Blk (w8.setCell ⟨cb, 4, none⟩ (.int .i64 side)) gs #[.string ⟨#[98, 117, 121]⟩, .string ⟨#[115, 101, 108, 108]⟩] 212) := (HAw8.out).set_other _ (by simp; omega) _
    have HTw10 : Hid (Blk (w8.setCell ⟨cb, 4, none⟩ (.int .i64 side)) (gs + 1) #[.string ⟨#[108, 105, 109, 105, 116]⟩, .string ⟨#[109, 97, 114, 107, 101, 116]⟩, .string ⟨#[110, 111, 119]⟩, .string ⟨#[97, 108, 108]⟩, .string ⟨#[112, 111, 115, 116]⟩] 214) := (HTw8.out).set_other _ (by simp; omega) _
    have hszw10 : w.heap.size < (w8.setCell ⟨cb, 4, none⟩ (.int .i64 side)).heap.size := by simp only [World.size_setCell]; omega
    clear HGw8 HRw8 HSw8 HKw8 HAw8 HTw8
    go_wp2_with fail
    generalize (w8.setCell ⟨cb, 4, none⟩ (.int .i64 side)) = w10 at *
    clear p4 y4
    rcases h5 : Pl.rone Pl.typesW r4 with _ | ⟨ty, r5⟩
    · have HO := Lib.hid (show Pl.rcommand kind l = none by rw [HE2.out, HT4.out, h5]; rfl)
      have HC := Lib.hid (calls_no (reader_one b r4 Pl.typesW (gs + 1) 5 w10 HRw10.out (strs_types HTw10.out) (by omega) HTw10.out.lt (by simp [Pl.typesW])) h5)
      clear h5
      refine HC.out.mono ?_
      rintro e w9 ⟨rfl, hg⟩
      have HG := Lib.hid (HGw10.out.trans hg)
      clear hg HC
      unfold malformed
      go_wp2
      exact ⟨rfl, HN.out _ HO.out HG.out⟩
    have HC := Lib.hid (calls_yes (reader_one b r4 Pl.typesW (gs + 1) 5 w10 HRw10.out (strs_types HTw10.out) (by omega) HTw10.out.lt (by simp [Pl.typesW])) h5)
    have HT5 := Lib.hid (show Pl.rtail kind sym id r2 = (Pl.rnum r5).bind fun p4 => (Pl.rnum p4.2).bind fun p5 => some (⟨kind, sym, id, owner, side, ty + 1, p4.1, p5.1, (Pl.rflags p5.2).1⟩, (Pl.rflags p5.2).2) by rw [HT4.out, h5]; rfl)
    have hty := Pl.rone_range h5
    have hty2 : ty ≤ 1000 := by have := hty.2; simp [Pl.typesW] at this; omega
    have hty1 := hty.1
    clear hty
    clear h5 HT4
    refine HC.out.mono ?_
    rintro e w11 ⟨rfl, hg, hr⟩
    clear HC
    have HGw11 : Hid (w.grownBy w11 (some b)) := HGw10.out.trans hg
    have HRw11 := Lib.hid hr
    have HSw11 : Hid (Blk w11 w.heap.size #[.int .i64 0, .int .i64 0, .int .i64 0, .slice none 0 0] 42) := HSw10.out.grown (by simp; omega) hg
    have HKw11 : Hid (Blk w11 cb #[.int .i64 kind, .int .i64 sym, .int .i64 id, .int .i64 owner, .int .i64 side, .int .i64 0, .int .i64 0, .int .i64 0, .int .i64 0] 164) := HKw10.out.grown (by simp; omega) hg
    have HAw11 : Hid (Blk w11 gs #[.string ⟨#[98, 117, 121]⟩, .string ⟨#[115, 101, 108, 108]⟩] 212) := HAw10.out.grown (by simp; omega) hg
    have HTw11 : Hid (Blk w11 (gs + 1) #[.string ⟨#[108, 105, 109, 105, 116]⟩, .string ⟨#[109, 97, 114, 107, 101, 116]⟩, .string ⟨#[110, 111, 119]⟩, .string ⟨#[97, 108, 108]⟩, .string ⟨#[112, 111, 115, 116]⟩] 214) := HTw10.out.grown (by simp; omega) hg
    have hszw11 := HKw11.out.lt
    have hstw11 := HTw11.out.lt
    clear hg hr HGw10 HRw10 HSw10 HKw10 HAw10 HTw10
    have p5 := HKw11.out.cell 5
    have y5 := HKw11.out.frozen 5
    have HGw12 : Hid (w.grownBy (w11.setCell ⟨cb, 5, none⟩ (.int .i64 (ty + 1))) (some b)) := grownBy_setNew (HGw11.out) (by omega)
    have HRw12 : Hid (Rdr B (w11.setCell ⟨cb, 5, none⟩ (.int .i64 (ty + 1))) b r5) := (HRw11.out).setOther (by omega) (by omega)
    have HSw12 : Hid (Blk (w11.setCell ⟨cb, 5, none⟩ (.int .i64 (ty + 1))) w.heap.size #[.int .i64 0, .int .i64 0, .int .i64 0, .slice none 0 0] 42) := (HSw11.out).set_other _ (by simp; omega) _
    have HKw12 : Hid (Blk (w11.setCell ⟨cb, 5, none⟩ (.int .i64 (ty + 1))) cb #[.int .i64 kind, .int .i64 sym, .int .i64 id, .int .i64 owner, .int .i64 side, .int .i64 (ty + 1), .int .i64 0, .int .i64 0, .int .i64 0] 164) := (HKw11.out).set 5 (.int .i64 (ty + 1))
    have HAw12 : Hid (Blk (w11.setCell ⟨cb, 5, none⟩ (.int .i64 (ty + 1))) gs #[.string ⟨#[98, 117, 121]⟩, .string ⟨#[115, 101, 108, 108]⟩] 212) := (HAw11.out).set_other _ (by simp; omega) _
    have HTw12 : Hid (Blk (w11.setCell ⟨cb, 5, none⟩ (.int .i64 (ty + 1))) (gs + 1) #[.string ⟨#[108, 105, 109, 105, 116]⟩, .string ⟨#[109, 97, 114, 107, 101, 116]⟩, .string ⟨#[110, 111, 119]⟩, .string ⟨#[97, 108, 108]⟩, .string ⟨#[112, 111, 115, 116]⟩] 214) := (HTw11.out).set_other _ (by simp; omega) _
    have hszw12 : w.heap.size < (w11.setCell ⟨cb, 5, none⟩ (.int .i64 (ty + 1))).heap.size := by simp only [World.size_setCell]; omega
    clear HGw11 HRw11 HSw11 HKw11 HAw11 HTw11
    go_wp2_with fail
    generalize (w11.setCell ⟨cb, 5, none⟩ (.int .i64 (ty + 1))) = w12 at *
    clear p5 y5
    rcases h6 : Pl.rnum r5 with _ | ⟨price, r6⟩
    · have HO := Lib.hid (show Pl.rcommand kind l = none by rw [HE2.out, HT5.out, h6]; rfl)
      have HC := Lib.hid (calls_no (reader_num b r5 w12 HRw12.out) h6)
      clear h6
      refine HC.out.mono ?_
      rintro e w9 ⟨rfl, hg⟩
      have HG := Lib.hid (HGw12.out.trans hg)
      clear hg HC
      unfold malformed
      go_wp2
      exact ⟨rfl, HN.out _ HO.out HG.out⟩
    have HC := Lib.hid (calls_yes (reader_num b r5 w12 HRw12.out) h6)
    have HT6 := Lib.hid (show Pl.rtail kind sym id r2 = (Pl.rnum r6).bind fun p5 => some (⟨kind, sym, id, owner, side, ty + 1, price, p5.1, (Pl.rflags p5.2).1⟩, (Pl.rflags p5.2).2) by rw [HT5.out, h6]; rfl)
    have hrg6 := Pl.rnum_range h6
    clear h6 HT5
    refine HC.out.mono ?_
    rintro e w13 ⟨rfl, hg, hr⟩
    clear HC
    have HGw13 : Hid (w.grownBy w13 (some b)) := HGw12.out.trans hg
    have HRw13 := Lib.hid hr
    have HSw13 : Hid (Blk w13 w.heap.size #[.int .i64 0, .int .i64 0, .int .i64 0, .slice none 0 0] 42) := HSw12.out.grown (by simp; omega) hg
    have HKw13 : Hid (Blk w13 cb #[.int .i64 kind, .int .i64 sym, .int .i64 id, .int .i64 owner, .int .i64 side, .int .i64 (ty + 1), .int .i64 0, .int .i64 0, .int .i64 0] 164) := HKw12.out.grown (by simp; omega) hg
    have HAw13 : Hid (Blk w13 gs #[.string ⟨#[98, 117, 121]⟩, .string ⟨#[115, 101, 108, 108]⟩] 212) := HAw12.out.grown (by simp; omega) hg
    have HTw13 : Hid (Blk w13 (gs + 1) #[.string ⟨#[108, 105, 109, 105, 116]⟩, .string ⟨#[109, 97, 114, 107, 101, 116]⟩, .string ⟨#[110, 111, 119]⟩, .string ⟨#[97, 108, 108]⟩, .string ⟨#[112, 111, 115, 116]⟩] 214) := HTw12.out.grown (by simp; omega) hg
    have hszw13 := HKw13.out.lt
    have hstw13 := HTw13.out.lt
    clear hg hr HGw12 HRw12 HSw12 HKw12 HAw12 HTw12
    go_wp2_with fail
    rcases h7 : Pl.rnum r6 with _ | ⟨qty, r7⟩
    · have HO := Lib.hid (show Pl.rcommand kind l = none by rw [HE2.out, HT6.out, h7]; rfl)
      have HC := Lib.hid (calls_no (reader_num b r6 w13 HRw13.out) h7)
      clear h7
      refine HC.out.mono ?_
      rintro e w9 ⟨rfl, hg⟩
      have HG := Lib.hid (HGw13.out.trans hg)
      clear hg HC
      unfold malformed
      go_wp2
      exact ⟨rfl, HN.out _ HO.out HG.out⟩
    have HC := Lib.hid (calls_yes (reader_num b r6 w13 HRw13.out) h7)
    have HT7 := Lib.hid (show Pl.rtail kind sym id r2 = some (⟨kind, sym, id, owner, side, ty + 1, price, qty, (Pl.rflags r7).1⟩, (Pl.rflags r7).2) by rw [HT6.out, h7]; rfl)
    have hrg7 := Pl.rnum_range h7
    clear h7 HT6
    refine HC.out.mono ?_
    rintro e w14 ⟨rfl, hg, hr⟩
    clear HC
    have HGw14 : Hid (w.grownBy w14 (some b)) := HGw13.out.trans hg
    have HRw14 := Lib.hid hr
    have HSw14 : Hid (Blk w14 w.heap.size #[.int .i64 0, .int .i64 0, .int .i64 0, .slice none 0 0] 42) := HSw13.out.grown (by simp; omega) hg
    have HKw14 : Hid (Blk w14 cb #[.int .i64 kind, .int .i64 sym, .int .i64 id, .int .i64 owner, .int .i64 side, .int .i64 (ty + 1), .int .i64 0, .int .i64 0, .int .i64 0] 164) := HKw13.out.grown (by simp; omega) hg
    have HAw14 : Hid (Blk w14 gs #[.string ⟨#[98, 117, 121]⟩, .string ⟨#[115, 101, 108, 108]⟩] 212) := HAw13.out.grown (by simp; omega) hg
    have HTw14 : Hid (Blk w14 (gs + 1) #[.string ⟨#[108, 105, 109, 105, 116]⟩, .string ⟨#[109, 97, 114, 107, 101, 116]⟩, .string ⟨#[110, 111, 119]⟩, .string ⟨#[97, 108, 108]⟩, .string ⟨#[112, 111, 115, 116]⟩] 214) := HTw13.out.grown (by simp; omega) hg
    have hszw14 := HKw14.out.lt
    have hstw14 := HTw14.out.lt
    clear hg hr HGw13 HRw13 HSw13 HKw13 HAw13 HTw13
    have p6 := HKw14.out.cell 6
    have y6 := HKw14.out.frozen 6
    have p7 := HKw14.out.cell 7
    have y7 := HKw14.out.frozen 7
    have HGw15 : Hid (w.grownBy ((w14.setCell ⟨cb, 6, none⟩ (.int .i64 price)).setCell ⟨cb, 7, none⟩ (.int .i64 qty)) (some b)) := grownBy_setNew (grownBy_setNew (HGw14.out) (by omega)) (by omega)
    have HRw15 : Hid (Rdr B ((w14.setCell ⟨cb, 6, none⟩ (.int .i64 price)).setCell ⟨cb, 7, none⟩ (.int .i64 qty)) b r7) := ((HRw14.out).setOther (by omega) (by omega)).setOther (by omega) (by omega)
    have HSw15 : Hid (Blk ((w14.setCell ⟨cb, 6, none⟩ (.int .i64 price)).setCell ⟨cb, 7, none⟩ (.int .i64 qty)) w.heap.size #[.int .i64 0, .int .i64 0, .int .i64 0, .slice none 0 0] 42) := ((HSw14.out).set_other _ (by simp; omega) _).set_other _ (by simp; omega) _
    have HKw15 : Hid (Blk ((w14.setCell ⟨cb, 6, none⟩ (.int .i64 price)).setCell ⟨cb, 7, none⟩ (.int .i64 qty)) cb #[.int .i64 kind, .int .i64 sym, .int .i64 id, .int .i64 owner, .int .i64 side, .int .i64 (ty + 1), .int .i64 price, .int .i64 qty, .int .i64 0] 164) := ((HKw14.out).set 6 (.int .i64 price)).set 7 (.int .i64 qty)
    have HAw15 : Hid (Blk ((w14.setCell ⟨cb, 6, none⟩ (.int .i64 price)).setCell ⟨cb, 7, none⟩ (.int .i64 qty)) gs #[.string ⟨#[98, 117, 121]⟩, .string ⟨#[115, 101, 108, 108]⟩] 212) := ((HAw14.out).set_other _ (by simp; omega) _).set_other _ (by simp; omega) _
    have HTw15 : Hid (Blk ((w14.setCell ⟨cb, 6, none⟩ (.int .i64 price)).setCell ⟨cb, 7, none⟩ (.int .i64 qty)) (gs + 1) #[.string ⟨#[108, 105, 109, 105, 116]⟩, .string ⟨#[109, 97, 114, 107, 101, 116]⟩, .string ⟨#[110, 111, 119]⟩, .string ⟨#[97, 108, 108]⟩, .string ⟨#[112, 111, 115, 116]⟩] 214) := ((HTw14.out).set_other _ (by simp; omega) _).set_other _ (by simp; omega) _
    have hszw15 : w.heap.size < ((w14.setCell ⟨cb, 6, none⟩ (.int .i64 price)).setCell ⟨cb, 7, none⟩ (.int .i64 qty)).heap.size := by simp only [World.size_setCell]; omega
    clear HGw14 HRw14 HSw14 HKw14 HAw14 HTw14
    go_wp2_with fail
    generalize ((w14.setCell ⟨cb, 6, none⟩ (.int .i64 price)).setCell ⟨cb, 7, none⟩ (.int .i64 qty)) = w15 at *
    clear p6 y6 p7 y7
    refine (reader_flags b r7 w15 HRw15.out).mono ?_
    rintro e w16 ⟨rfl, hg, hr⟩
    generalize Pl.rflags r7 = ff at *
    obtain ⟨fg, r8⟩ := ff
    simp only at hr HT7
    simp only
    have HGw16 : Hid (w.grownBy w16 (some b)) := HGw15.out.trans hg
    have HRw16 := Lib.hid hr
    have HSw16 : Hid (Blk w16 w.heap.size #[.int .i64 0, .int .i64 0, .int .i64 0, .slice none 0 0] 42) := HSw15.out.grown (by simp; omega) hg
    have HKw16 : Hid (Blk w16 cb #[.int .i64 kind, .int .i64 sym, .int .i64 id, .int .i64 owner, .int .i64 side, .int .i64 (ty + 1), .int .i64 price, .int .i64 qty, .int .i64 0] 164) := HKw15.out.grown (by simp; omega) hg
    have HAw16 : Hid (Blk w16 gs #[.string ⟨#[98, 117, 121]⟩, .string ⟨#[115, 101, 108, 108]⟩] 212) := HAw15.out.grown (by simp; omega) hg
    have HTw16 : Hid (Blk w16 (gs + 1) #[.string ⟨#[108, 105, 109, 105, 116]⟩, .string ⟨#[109, 97, 114, 107, 101, 116]⟩, .string ⟨#[110, 111, 119]⟩, .string ⟨#[97, 108, 108]⟩, .string ⟨#[112, 111, 115, 116]⟩] 214) := HTw15.out.grown (by simp; omega) hg
    have hszw16 := HKw16.out.lt
    have hstw16 := HTw16.out.lt
    clear hg hr HGw15 HRw15 HSw15 HKw15 HAw15 HTw15
    have p8 := HKw16.out.cell 8
    have y8 := HKw16.out.frozen 8
    have HGw17 : Hid (w.grownBy (w16.setCell ⟨cb, 8, none⟩ (.int .i64 fg)) (some b)) := grownBy_setNew (HGw16.out) (by omega)
    have HRw17 : Hid (Rdr B (w16.setCell ⟨cb, 8, none⟩ (.int .i64 fg)) b r8) := (HRw16.out).setOther (by omega) (by omega)
    have HSw17 : Hid (Blk (w16.setCell ⟨cb, 8, none⟩ (.int .i64 fg)) w.heap.size #[.int .i64 0, .int .i64 0, .int .i64 0, .slice none 0 0] 42) := (HSw16.out).set_other _ (by simp; omega) _
    have HKw17 : Hid (Blk (w16.setCell ⟨cb, 8, none⟩ (.int .i64 fg)) cb #[.int .i64 kind, .int .i64 sym, .int .i64 id, .int .i64 owner, .int .i64 side, .int .i64 (ty + 1), .int .i64 price, .int .i64 qty, .int .i64 fg] 164) := (HKw16.out).set 8 (.int .i64 fg)
    have HAw17 : Hid (Blk (w16.setCell ⟨cb, 8, none⟩ (.int .i64 fg)) gs #[.string ⟨#[98, 117, 121]⟩, .string ⟨#[115, 101, 108, 108]⟩] 212) := (HAw16.out).set_other _ (by simp; omega) _
    have HTw17 : Hid (Blk (w16.setCell ⟨cb, 8, none⟩ (.int .i64 fg)) (gs + 1) #[.string ⟨#[108, 105, 109, 105, 116]⟩, .string ⟨#[109, 97, 114, 107, 101, 116]⟩, .string ⟨#[110, 111, 119]⟩, .string ⟨#[97, 108, 108]⟩, .string ⟨#[112, 111, 115, 116]⟩] 214) := (HTw16.out).set_other _ (by simp; omega) _
    have hszw17 : w.heap.size < (w16.setCell ⟨cb, 8, none⟩ (.int .i64 fg)).heap.size := by simp only [World.size_setCell]; omega
    clear HGw16 HRw16 HSw16 HKw16 HAw16 HTw16
    go_wp2_with (first | (generalize (w16.setCell ⟨cb, 8, none⟩ (.int .i64 fg)) = w17 at *; refine wpList_load_row rfl 164 _ rfl cb rfl 164 _ (0, 0) _ HKw17.out Tryd.underlying164 rfl (by kernel_rfl) ?_) | fail)
    have HC := Lib.hid (script_Of ⟨kind, sym, id, owner, side, ty + 1, price, qty, fg⟩ w17 hrg6 hrg7)
    refine HC.out.mono ?_
    rintro e w5 ⟨hb5, hcase⟩
    clear HC
    have HG5 : Hid (w.grownBy w5 (some b)) := HGw17.out.trans (grownBy_of_below' hb5 _)
    have HR5 : Hid (Rdr B w5 b r8) := HRw17.out.below hb5
    have HS5 : Hid (Blk w5 w.heap.size #[.int .i64 0, .int .i64 0, .int .i64 0, .slice none 0 0] 42) := HSw17.out.below (by omega) hb5
    have hsz5 : w17.heap.size ≤ w5.heap.size := hb5.size
    clear hb5 HGw17 HRw17 HSw17
    cases hr : Pl.cmdRight ⟨kind, sym, id, owner, side, ty + 1, price, qty, fg⟩ with
    | false =>
      rw [hr] at hcase
      obtain rfl : e = .returned (.tuple #[.agg (stepArr 0 0 0 (.slice none 0 0)), .int .i64 1]) := hcase
      have HO := Lib.hid (show Pl.rcommand kind l = none by rw [HE2.out, HT7.out]; simp only [Option.bind_some, hr]; rfl)
      clear hr
      unfold stepArr
      go_wp2_with (go_at_call 135; refine (words_must_false _).mono ?_; rintro e w' ⟨rfl, rfl⟩; unfold malformed)
      exact ⟨rfl, HN.out _ HO.out (HG5.out.trans (World.grownBy_alloc _ _ _))⟩
    | true =>
      rw [hr] at hcase
      obtain ⟨v, rfl, hown⟩ := hcase
      obtain ⟨p, m, rfl⟩ := ownsRow_slice hown
      have HO := Lib.hid (show Pl.rcommand kind l = some (⟨kind, sym, id, owner, side, ty + 1, price, qty, fg⟩, r8) by rw [HE2.out, HT7.out]; simp only [Option.bind_some, hr, if_true])
      have HOW := Lib.hid hown
      clear hr hown
      generalize hfl : (Pl.form ⟨kind, sym, id, owner, side, ty + 1, price, qty, fg⟩).length = fl at *
      have HFL := Lib.hid hfl
      clear hfl
      unfold stepArr
      have HS6 : Hid (Blk (w5.alloc (.cells #[.int .i64 1, .int .i64 0, .int .i64 0, .slice p fl m] 42)) w.heap.size #[.int .i64 0, .int .i64 0, .int .i64 0, .slice none 0 0] 42) := HS5.out.grown (r := none) (by simp) (World.grownBy_alloc _ _ _)
      have c0 := HS6.out.cell 0
      have c1 := HS6.out.cell 1
      have c2 := HS6.out.cell 2
      have c3 := HS6.out.cell 3
      have z0 := HS6.out.frozen 0
      have z1 := HS6.out.frozen 1
      have z2 := HS6.out.frozen 2
      have z3 := HS6.out.frozen 3
      go_wp2_with (go_at_call 135; refine (words_must_true _).mono ?_; rintro e w' ⟨rfl, rfl⟩)
      have HK6 := Lib.hid ((((HS6.out.set 0 (.int .i64 1)).set 1 (.int .i64 0)).set 2 (.int .i64 0)).set 3 (.slice p fl m))
      have hne : (Value.slice p fl m).ownBlock ≠ some w.heap.size := fun e => by have := (HOW.out.lt _ e).1; omega
      have k := fun (W : World) (o : Nat) (x : Value) (h : W.ownsRow w17.heap.size 5 1 (.slice p fl m) fl (byteCells (Pl.form ⟨kind, sym, id, owner, side, ty + 1, price, qty, fg⟩))) => h.kept (grownBy_setCell W w.heap.size o x) (.inr hne)
      have k2 := fun (W : World) (o : Nat) (x : Value) (h : Rdr B W b r8) => h.setOther (g := w.heap.size) (o := o) (x := x) (by omega) hB
      have k3 := fun (W : World) (o : Nat) (x : Value) (h : w.grownBy W (some b)) => grownBy_setNew (g := w.heap.size) (o := o) (x := x) h (Nat.le_refl _)
      have hrow := ownsRow_base (b' := w.heap.size) (by omega) (k _ 3 (.slice p fl m) (k _ 2 (.int .i64 0) (k _ 1 (.int .i64 0) (k _ 0 (.int .i64 1) (HOW.out.alloc (.cells #[.int .i64 1, .int .i64 0, .int .i64 0, .slice p fl m] 42))))))
      have hfin := HY.out _ HO.out HFL.out.symm (k3 _ 3 (.slice p fl m) (k3 _ 2 (.int .i64 0) (k3 _ 1 (.int .i64 0) (k3 _ 0 (.int .i64 1) (HG5.out.trans (World.grownBy_alloc _ (.cells #[.int .i64 1, .int .i64 0, .int .i64 0, .slice p fl m] 42) _)))))) (k2 _ 3 _ (k2 _ 2 _ (k2 _ 1 _ (k2 _ 0 _ (HR5.out.grown rfl (World.grownBy_alloc _ _ _)))))) hrow
      exact bodyPost_ret (v := .agg (stepArr 1 0 0 (.slice p fl m))) (results_cell_row rfl _ _ w.heap.size _ _ (0, 0) _ rfl HK6.out Tryd.underlying42 rfl (by kernel_rfl)) rfl hfin
  · by_cases hk3 : kind = 3
    · have hb3 : (kind == 3) = true := beq_iff_eq.2 hk3
      have hb1 : (kind == 1) = false := by rw [beq_eq_false_iff_ne]; exact hk1
      have HT := Lib.hid (show Pl.rtail kind sym id r2 = (Pl.rnum r2).bind fun p4 => (Pl.rnum p4.2).bind fun p5 => some (⟨kind, sym, id, 0, 0, 0, p4.1, p5.1, 0⟩, p5.2) by unfold Pl.rtail; rw [if_neg hk1, if_pos hk3])
      clear hk1 hk3
      go_wp2_with fail
      have HGW3 : Hid (w.grownBy (w2.alloc (.cells #[.int .i64 kind, .int .i64 sym, .int .i64 id, .int .i64 0, .int .i64 0, .int .i64 0, .int .i64 0, .int .i64 0, .int .i64 0] 164)) (some b)) := HG2.out.trans (World.grownBy_alloc _ _ _)
      have HRW3 : Hid (Rdr B (w2.alloc (.cells #[.int .i64 kind, .int .i64 sym, .int .i64 id, .int .i64 0, .int .i64 0, .int .i64 0, .int .i64 0, .int .i64 0, .int .i64 0] 164)) b r2) := HR2.out.grown rfl (World.grownBy_alloc _ _ _)
      have HSW3 : Hid (Blk (w2.alloc (.cells #[.int .i64 kind, .int .i64 sym, .int .i64 id, .int .i64 0, .int .i64 0, .int .i64 0, .int .i64 0, .int .i64 0, .int .i64 0] 164)) w.heap.size #[.int .i64 0, .int .i64 0, .int .i64 0, .slice none 0 0] 42) := HS2.out.grown (r := none) (by simp) (World.grownBy_alloc _ _ _)
      have hszW : w.heap.size < (w2.alloc (.cells #[.int .i64 kind, .int .i64 sym, .int .i64 id, .int .i64 0, .int .i64 0, .int .i64 0, .int .i64 0, .int .i64 0, .int .i64 0] 164)).heap.size := by simp; omega
      have HKW3 : Hid (Blk (w2.alloc (.cells #[.int .i64 kind, .int .i64 sym, .int .i64 id, .int .i64 0, .int .i64 0, .int .i64 0, .int .i64 0, .int .i64 0, .int .i64 0] 164)) w2.heap.size #[.int .i64 kind, .int .i64 sym, .int .i64 id, .int .i64 0, .int .i64 0, .int .i64 0, .int .i64 0, .int .i64 0, .int .i64 0] 164) := Blk.alloc _ _
      generalize w2.alloc (.cells #[.int .i64 kind, .int .i64 sym, .int .i64 id, .int .i64 0, .int .i64 0, .int .i64 0, .int .i64 0, .int .i64 0, .int .i64 0] 164) = W3 at *
      obtain ⟨cb, hcb⟩ : ∃ cb, cb = w2.heap.size := ⟨_, rfl⟩
      rw [← hcb] at HKW3
      rw [← hcb]
      have hcb1 : w.heap.size < cb := by omega
      clear hcb
      rcases h3 : Pl.rnum r2 with _ | ⟨price, r3⟩
      · have HO := Lib.hid (show Pl.rcommand kind l = none by rw [HE2.out, HT.out, h3]; rfl)
        have HC := Lib.hid (calls_no (reader_num b r2 W3 HRW3.out) h3)
        clear h3
        refine HC.out.mono ?_
        rintro e w9 ⟨rfl, hg⟩
        have HG := Lib.hid (HGW3.out.trans hg)
        clear hg HC
        unfold malformed
        go_wp2
        exact ⟨rfl, HN.out _ HO.out HG.out⟩
      have HC := Lib.hid (calls_yes (reader_num b r2 W3 HRW3.out) h3)
      have hrg3 := Pl.rnum_range h3
      have HT2 := Lib.hid (show Pl.rtail kind sym id r2 = (Pl.rnum r3).bind fun p5 => some (⟨kind, sym, id, 0, 0, 0, price, p5.1, 0⟩, p5.2) by rw [HT.out, h3]; rfl)
      clear h3 HT
      refine HC.out.mono ?_
      rintro e w3 ⟨rfl, hg, hr⟩
      have HGw3 : Hid (w.grownBy w3 (some b)) := HGW3.out.trans hg
      have HSw3 : Hid (Blk w3 w.heap.size #[.int .i64 0, .int .i64 0, .int .i64 0, .slice none 0 0] 42) := HSW3.out.grown (by simp; omega) hg
      have HKw3 : Hid (Blk w3 cb #[.int .i64 kind, .int .i64 sym, .int .i64 id, .int .i64 0, .int .i64 0, .int .i64 0, .int .i64 0, .int .i64 0, .int .i64 0] 164) := HKW3.out.grown (by simp; omega) hg
      have HRw3 := Lib.hid hr
      have hszw3 := HKw3.out.lt
      clear hg hr HC HGW3 HSW3 HRW3 HKW3
      go_wp2_with fail
      rcases h4 : Pl.rnum r3 with _ | ⟨qty, r4⟩
      · have HO := Lib.hid (show Pl.rcommand kind l = none by rw [HE2.out, HT2.out, h4]; rfl)
        have HC := Lib.hid (calls_no (reader_num b r3 w3 HRw3.out) h4)
        clear h4
        refine HC.out.mono ?_
        rintro e w9 ⟨rfl, hg⟩
        have HG := Lib.hid (HGw3.out.trans hg)
        clear hg HC
        unfold malformed
        go_wp2
        exact ⟨rfl, HN.out _ HO.out HG.out⟩
      have HC := Lib.hid (calls_yes (reader_num b r3 w3 HRw3.out) h4)
      have hrg4 := Pl.rnum_range h4
      have HT3 := Lib.hid (show Pl.rtail kind sym id r2 = some (⟨kind, sym, id, 0, 0, 0, price, qty, 0⟩, r4) by rw [HT2.out, h4]; rfl)
      clear h4 HT2
      refine HC.out.mono ?_
      rintro e w4 ⟨rfl, hg, hr⟩
      have HGw4 : Hid (w.grownBy w4 (some b)) := HGw3.out.trans hg
      have HSw4 : Hid (Blk w4 w.heap.size #[.int .i64 0, .int .i64 0, .int .i64 0, .slice none 0 0] 42) := HSw3.out.grown (by simp; omega) hg
      have HKw4 : Hid (Blk w4 cb #[.int .i64 kind, .int .i64 sym, .int .i64 id, .int .i64 0, .int .i64 0, .int .i64 0, .int .i64 0, .int .i64 0, .int .i64 0] 164) := HKw3.out.grown (by simp; omega) hg
      have HRw4 := Lib.hid hr
      have hszw4 := HKw4.out.lt
      clear hg hr HC HGw3 HSw3 HRw3 HKw3
      have p6 := HKw4.out.cell 6
      have p7 := HKw4.out.cell 7
      have y6 := HKw4.out.frozen 6
      have y7 := HKw4.out.frozen 7
      have HK5 : Hid (Blk ((w4.setCell ⟨cb, 6, none⟩ (.int .i64 price)).setCell ⟨cb, 7, none⟩ (.int .i64 qty)) cb #[.int .i64 kind, .int .i64 sym, .int .i64 id, .int .i64 0, .int .i64 0, .int .i64 0, .int .i64 price, .int .i64 qty, .int .i64 0] 164) := (HKw4.out.set 6 (.int .i64 price)).set 7 (.int .i64 qty)
      have HGW5 : Hid (w.grownBy ((w4.setCell ⟨cb, 6, none⟩ (.int .i64 price)).setCell ⟨cb, 7, none⟩ (.int .i64 qty)) (some b)) := grownBy_setNew (grownBy_setNew HGw4.out (by omega)) (by omega)
      have HRW5 : Hid (Rdr B ((w4.setCell ⟨cb, 6, none⟩ (.int .i64 price)).setCell ⟨cb, 7, none⟩ (.int .i64 qty)) b r4) := (HRw4.out.setOther (by omega) (by omega)).setOther (by omega) (by omega)
      have HSW5 : Hid (Blk ((w4.setCell ⟨cb, 6, none⟩ (.int .i64 price)).setCell ⟨cb, 7, none⟩ (.int .i64 qty)) w.heap.size #[.int .i64 0, .int .i64 0, .int .i64 0, .slice none 0 0] 42) := (HSw4.out.set_other _ (by simp; omega) _).set_other _ (by simp; omega) _
      have hszW5 : w.heap.size < ((w4.setCell ⟨cb, 6, none⟩ (.int .i64 price)).setCell ⟨cb, 7, none⟩ (.int .i64 qty)).heap.size := by rw [World.size_setCell, World.size_setCell]; omega
      clear HGw4 HRw4 HSw4 HKw4
      go_wp2_with (first | (generalize (w4.setCell ⟨cb, 6, none⟩ (.int .i64 price)).setCell ⟨cb, 7, none⟩ (.int .i64 qty) = W5 at *; refine wpList_load_row rfl 164 _ rfl cb rfl 164 _ (0, 0) _ HK5.out Tryd.underlying164 rfl (by kernel_rfl) ?_) | fail)
      have HC := Lib.hid (script_Of ⟨kind, sym, id, 0, 0, 0, price, qty, 0⟩ W5 hrg3 hrg4)
      refine HC.out.mono ?_
      rintro e w5 ⟨hb5, hcase⟩
      clear HC
      have HG5 : Hid (w.grownBy w5 (some b)) := HGW5.out.trans (grownBy_of_below' hb5 _)
      have HR5 : Hid (Rdr B w5 b r4) := HRW5.out.below hb5
      have HS5 : Hid (Blk w5 w.heap.size #[.int .i64 0, .int .i64 0, .int .i64 0, .slice none 0 0] 42) := HSW5.out.below (by omega) hb5
      have hsz5 : W5.heap.size ≤ w5.heap.size := hb5.size
      clear hb5 HGW5 HRW5 HSW5
      cases hr : Pl.cmdRight ⟨kind, sym, id, 0, 0, 0, price, qty, 0⟩ with
      | false =>
        rw [hr] at hcase
        obtain rfl : e = .returned (.tuple #[.agg (stepArr 0 0 0 (.slice none 0 0)), .int .i64 1]) := hcase
        have HO := Lib.hid (show Pl.rcommand kind l = none by rw [HE2.out, HT3.out]; simp only [Option.bind_some, hr]; rfl)
        clear hr
        unfold stepArr
        go_wp2_with (go_at_call 135; refine (words_must_false _).mono ?_; rintro e w' ⟨rfl, rfl⟩; unfold malformed)
        exact ⟨rfl, HN.out _ HO.out (HG5.out.trans (World.grownBy_alloc _ _ _))⟩
      | true =>
        rw [hr] at hcase
        obtain ⟨v, rfl, hown⟩ := hcase
        obtain ⟨p, m, rfl⟩ := ownsRow_slice hown
        have HO := Lib.hid (show Pl.rcommand kind l = some (⟨kind, sym, id, 0, 0, 0, price, qty, 0⟩, r4) by rw [HE2.out, HT3.out]; simp only [Option.bind_some, hr, if_true])
        have HOW := Lib.hid hown
        clear hr hown
        generalize hfl : (Pl.form ⟨kind, sym, id, 0, 0, 0, price, qty, 0⟩).length = fl at *
        have HFL := Lib.hid hfl
        clear hfl
        unfold stepArr
        have HS6 : Hid (Blk (w5.alloc (.cells #[.int .i64 1, .int .i64 0, .int .i64 0, .slice p fl m] 42)) w.heap.size #[.int .i64 0, .int .i64 0, .int .i64 0, .slice none 0 0] 42) := HS5.out.grown (r := none) (by simp) (World.grownBy_alloc _ _ _)
        have c0 := HS6.out.cell 0
        have c1 := HS6.out.cell 1
        have c2 := HS6.out.cell 2
        have c3 := HS6.out.cell 3
        have z0 := HS6.out.frozen 0
        have z1 := HS6.out.frozen 1
        have z2 := HS6.out.frozen 2
        have z3 := HS6.out.frozen 3
        go_wp2_with (go_at_call 135; refine (words_must_true _).mono ?_; rintro e w' ⟨rfl, rfl⟩)
        have HK6 := Lib.hid ((((HS6.out.set 0 (.int .i64 1)).set 1 (.int .i64 0)).set 2 (.int .i64 0)).set 3 (.slice p fl m))
        have hne : (Value.slice p fl m).ownBlock ≠ some w.heap.size := fun e => by have := (HOW.out.lt _ e).1; omega
        have k := fun (W : World) (o : Nat) (x : Value) (h : W.ownsRow W5.heap.size 5 1 (.slice p fl m) fl (byteCells (Pl.form ⟨kind, sym, id, 0, 0, 0, price, qty, 0⟩))) => h.kept (grownBy_setCell W w.heap.size o x) (.inr hne)
        have k2 := fun (W : World) (o : Nat) (x : Value) (h : Rdr B W b r4) => h.setOther (g := w.heap.size) (o := o) (x := x) (by omega) hB
        have k3 := fun (W : World) (o : Nat) (x : Value) (h : w.grownBy W (some b)) => grownBy_setNew (g := w.heap.size) (o := o) (x := x) h (Nat.le_refl _)
        have hrow := ownsRow_base (b' := w.heap.size) (by omega) (k _ 3 (.slice p fl m) (k _ 2 (.int .i64 0) (k _ 1 (.int .i64 0) (k _ 0 (.int .i64 1) (HOW.out.alloc (.cells #[.int .i64 1, .int .i64 0, .int .i64 0, .slice p fl m] 42))))))
        have hfin := HY.out _ HO.out HFL.out.symm (k3 _ 3 (.slice p fl m) (k3 _ 2 (.int .i64 0) (k3 _ 1 (.int .i64 0) (k3 _ 0 (.int .i64 1) (HG5.out.trans (World.grownBy_alloc _ (.cells #[.int .i64 1, .int .i64 0, .int .i64 0, .slice p fl m] 42) _)))))) (k2 _ 3 _ (k2 _ 2 _ (k2 _ 1 _ (k2 _ 0 _ (HR5.out.grown rfl (World.grownBy_alloc _ _ _)))))) hrow
        exact bodyPost_ret (v := .agg (stepArr 1 0 0 (.slice p fl m))) (results_cell_row rfl _ _ w.heap.size _ _ (0, 0) _ rfl HK6.out Tryd.underlying42 rfl (by kernel_rfl)) rfl hfin
    · have hk2 : (kind == 2) = true := by rw [beq_iff_eq]; have := HK.out; omega
      have hb1 : (kind == 1) = false := by rw [beq_eq_false_iff_ne]; exact hk1
      have hb3 : (kind == 3) = false := by rw [beq_eq_false_iff_ne]; exact hk3
      have HT := Lib.hid (show Pl.rtail kind sym id r2 = some (⟨kind, sym, id, 0, 0, 0, 0, 0, 0⟩, r2) by unfold Pl.rtail; rw [if_neg hk1, if_neg hk3])
      clear hk1 hk3
      go_wp2_with fail
      have HGW3 : Hid (w.grownBy (w2.alloc (.cells #[.int .i64 kind, .int .i64 sym, .int .i64 id, .int .i64 0, .int .i64 0, .int .i64 0, .int .i64 0, .int .i64 0, .int .i64 0] 164)) (some b)) := HG2.out.trans (World.grownBy_alloc _ _ _)
      have HRW3 : Hid (Rdr B (w2.alloc (.cells #[.int .i64 kind, .int .i64 sym, .int .i64 id, .int .i64 0, .int .i64 0, .int .i64 0, .int .i64 0, .int .i64 0, .int .i64 0] 164)) b r2) := HR2.out.grown rfl (World.grownBy_alloc _ _ _)
      have HSW3 : Hid (Blk (w2.alloc (.cells #[.int .i64 kind, .int .i64 sym, .int .i64 id, .int .i64 0, .int .i64 0, .int .i64 0, .int .i64 0, .int .i64 0, .int .i64 0] 164)) w.heap.size #[.int .i64 0, .int .i64 0, .int .i64 0, .slice none 0 0] 42) := HS2.out.grown (r := none) (by simp) (World.grownBy_alloc _ _ _)
      have hszW : w.heap.size < (w2.alloc (.cells #[.int .i64 kind, .int .i64 sym, .int .i64 id, .int .i64 0, .int .i64 0, .int .i64 0, .int .i64 0, .int .i64 0, .int .i64 0] 164)).heap.size := by simp; omega
      generalize w2.alloc (.cells #[.int .i64 kind, .int .i64 sym, .int .i64 id, .int .i64 0, .int .i64 0, .int .i64 0, .int .i64 0, .int .i64 0, .int .i64 0] 164) = W3 at *
      have HC := Lib.hid (script_Of ⟨kind, sym, id, 0, 0, 0, 0, 0, 0⟩ W3 (by simp) (by simp))
      refine HC.out.mono ?_
      rintro e w5 ⟨hb5, hcase⟩
      clear HC
      have HG5 : Hid (w.grownBy w5 (some b)) := HGW3.out.trans (grownBy_of_below' hb5 _)
      have HR5 : Hid (Rdr B w5 b r2) := HRW3.out.below hb5
      have HS5 : Hid (Blk w5 w.heap.size #[.int .i64 0, .int .i64 0, .int .i64 0, .slice none 0 0] 42) := HSW3.out.below (by omega) hb5
      have hsz5 : W3.heap.size ≤ w5.heap.size := hb5.size
      clear hb5 HGW3 HRW3 HSW3
      cases hr : Pl.cmdRight ⟨kind, sym, id, 0, 0, 0, 0, 0, 0⟩ with
      | false =>
        rw [hr] at hcase
        obtain rfl : e = .returned (.tuple #[.agg (stepArr 0 0 0 (.slice none 0 0)), .int .i64 1]) := hcase
        have HO := Lib.hid (show Pl.rcommand kind l = none by rw [HE2.out, HT.out]; simp only [Option.bind_some, hr]; rfl)
        clear hr
        unfold stepArr
        go_wp2_with (go_at_call 135; refine (words_must_false _).mono ?_; rintro e w' ⟨rfl, rfl⟩; unfold malformed)
        exact ⟨rfl, HN.out _ HO.out (HG5.out.trans (World.grownBy_alloc _ _ _))⟩
      | true =>
        rw [hr] at hcase
        obtain ⟨v, rfl, hown⟩ := hcase
        obtain ⟨p, m, rfl⟩ := ownsRow_slice hown
        have HO := Lib.hid (show Pl.rcommand kind l = some (⟨kind, sym, id, 0, 0, 0, 0, 0, 0⟩, r2) by rw [HE2.out, HT.out]; simp only [Option.bind_some, hr, if_true])
        have HOW := Lib.hid hown
        clear hr hown
        generalize hfl : (Pl.form ⟨kind, sym, id, 0, 0, 0, 0, 0, 0⟩).length = fl at *
        have HFL := Lib.hid hfl
        clear hfl
        unfold stepArr
        have HS6 : Hid (Blk (w5.alloc (.cells #[.int .i64 1, .int .i64 0, .int .i64 0, .slice p fl m] 42)) w.heap.size #[.int .i64 0, .int .i64 0, .int .i64 0, .slice none 0 0] 42) := HS5.out.grown (r := none) (by simp) (World.grownBy_alloc _ _ _)
        have c0 := HS6.out.cell 0
        have c1 := HS6.out.cell 1
        have c2 := HS6.out.cell 2
        have c3 := HS6.out.cell 3
        have z0 := HS6.out.frozen 0
        have z1 := HS6.out.frozen 1
        have z2 := HS6.out.frozen 2
        have z3 := HS6.out.frozen 3
        go_wp2_with (go_at_call 135; refine (words_must_true _).mono ?_; rintro e w' ⟨rfl, rfl⟩)
        have HK6 := Lib.hid ((((HS6.out.set 0 (.int .i64 1)).set 1 (.int .i64 0)).set 2 (.int .i64 0)).set 3 (.slice p fl m))
        have hne : (Value.slice p fl m).ownBlock ≠ some w.heap.size := fun e => by have := (HOW.out.lt _ e).1; omega
        have k := fun (W : World) (o : Nat) (x : Value) (h : W.ownsRow W3.heap.size 5 1 (.slice p fl m) fl (byteCells (Pl.form ⟨kind, sym, id, 0, 0, 0, 0, 0, 0⟩))) => h.kept (grownBy_setCell W w.heap.size o x) (.inr hne)
        have k2 := fun (W : World) (o : Nat) (x : Value) (h : Rdr B W b r2) => h.setOther (g := w.heap.size) (o := o) (x := x) (by omega) hB
        have k3 := fun (W : World) (o : Nat) (x : Value) (h : w.grownBy W (some b)) => grownBy_setNew (g := w.heap.size) (o := o) (x := x) h (Nat.le_refl _)
        have hrow := ownsRow_base (b' := w.heap.size) (by omega) (k _ 3 (.slice p fl m) (k _ 2 (.int .i64 0) (k _ 1 (.int .i64 0) (k _ 0 (.int .i64 1) (HOW.out.alloc (.cells #[.int .i64 1, .int .i64 0, .int .i64 0, .slice p fl m] 42))))))
        have hfin := HY.out _ HO.out HFL.out.symm (k3 _ 3 (.slice p fl m) (k3 _ 2 (.int .i64 0) (k3 _ 1 (.int .i64 0) (k3 _ 0 (.int .i64 1) (HG5.out.trans (World.grownBy_alloc _ (.cells #[.int .i64 1, .int .i64 0, .int .i64 0, .slice p fl m] 42) _)))))) (k2 _ 3 _ (k2 _ 2 _ (k2 _ 1 _ (k2 _ 0 _ (HR5.out.grown rfl (World.grownBy_alloc _ _ _)))))) hrow
        exact bodyPost_ret (v := .agg (stepArr 1 0 0 (.slice p fl m))) (results_cell_row rfl _ _ w.heap.size _ _ (0, 0) _ rfl HK6.out Tryd.underlying42 rfl (by kernel_rfl)) rfl hfin

end Go.Proofs.YtbcepdacfmbekaaDoor
