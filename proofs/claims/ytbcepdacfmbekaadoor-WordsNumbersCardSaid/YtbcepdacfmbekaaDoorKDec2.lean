/-
  The walk of command.Decode.
-/
import Derived.Test.YtbcepdacfmbekaaDoorKDecd
import Derived.Test.YtbcepdacfmbekaaDoorKOf
namespace Go.Proofs.YtbcepdacfmbekaaDoor
open Go.RowKit

/-- What is read after the kind and the symbol's number, by kind: id, owner, side, type, flags, price, qty and the bytes left. -/
def decTail (kind : Nat) (s : Option (List UInt8)) : (Nat × Nat × Nat × Nat × Nat × Int × Int) × Option (List UInt8) :=
  let i := rdNum s
  if kind = 1 then
    let o := rdNum i.2
    let a := rdU 1 o.2
    let t := rdU 1 a.2
    let f := rdU 1 t.2
    let p := rdU 8 f.2
    let q := rdU 8 p.2
    ((i.1, o.1, a.1, t.1, f.1, unzig p.1, unzig q.1), q.2)
  else if kind = 2 then ((i.1, 0, 0, 0, 0, 0, 0), i.2)
  else
    let p := rdU 8 i.2
    let q := rdU 8 p.2
    ((i.1, 0, 0, 0, 0, unzig p.1, unzig q.1), q.2)
theorem none_U {n k : Nat} {s : Option (List UInt8)} (h : rdU n none = (k, s)) : s = none := by
  simp only [rdU, Prod.mk.injEq] at h; exact h.2.symm
theorem none_N {k : Nat} {s : Option (List UInt8)} (h : rdNum none = (k, s)) : s = none := by
  simp only [rdNum, Prod.mk.injEq] at h; exact h.2.symm
theorem decTail_one {k : Nat} {s : Option (List UInt8)} (h : k = 1) : decTail k s = ((( rdNum s).1, (rdNum (rdNum s).2).1, (rdU 1 (rdNum (rdNum s).2).2).1, (rdU 1 (rdU 1 (rdNum (rdNum s).2).2).2).1, (rdU 1 (rdU 1 (rdU 1 (rdNum (rdNum s).2).2).2).2).1, unzig (rdU 8 (rdU 1 (rdU 1 (rdU 1 (rdNum (rdNum s).2).2).2).2).2).1, unzig (rdU 8 (rdU 8 (rdU 1 (rdU 1 (rdU 1 (rdNum (rdNum s).2).2).2).2).2).2).1), (rdU 8 (rdU 8 (rdU 1 (rdU 1 (rdU 1 (rdNum (rdNum s).2).2).2).2).2).2).2) := if_pos h
theorem decTail_two {k : Nat} {s : Option (List UInt8)} (h : k = 2) : decTail k s = (((rdNum s).1, 0, 0, 0, 0, 0, 0), (rdNum s).2) := by
  subst h; rfl
theorem decTail_three {k : Nat} {s : Option (List UInt8)} (h : ¬ k = 1) (h2 : ¬ k = 2) : decTail k s = (((rdNum s).1, 0, 0, 0, 0, unzig (rdU 8 (rdNum s).2).1, unzig (rdU 8 (rdU 8 (rdNum s).2).2).1), (rdU 8 (rdU 8 (rdNum s).2).2).2) := (if_neg h).trans (if_neg h2)
/-- The command of bytes; none: they are none's. -/
def Pl.dec (l : List UInt8) : Option Pl.Cmd :=
  let k := rdU 1 (some l)
  if k.2.isSome ∧ (k.1 < 1 ∨ 3 < k.1) then none else
    let y := rdU 1 k.2
    let t := decTail k.1 y.2
    match t.2 with
    | none => none
    | some r =>
      let c : Pl.Cmd := ⟨k.1, y.1, min t.1.1 4611686018427387905, min t.1.2.1 1073741825, t.1.2.2.1, t.1.2.2.2.1, t.1.2.2.2.2.2.1, t.1.2.2.2.2.2.2, t.1.2.2.2.2.1⟩
      if r = [] ∧ Pl.cmdRight c = true then some c else none

def zeroCmd : Pl.Cmd := ⟨0, 0, 0, 0, 0, 0, 0, 0, 0⟩
def CDecPost (l : List UInt8) (w : World) (e : Ending) (w' : World) : Prop := Below w.heap.size w w' ∧ match Pl.dec l with
  | some c => e = .returned (.tuple #[.agg c.arr, .int .i64 0])
  | none => ∃ f : Int, f ≠ 0 ∧ e = .returned (.tuple #[.agg zeroCmd.arr, .int .i64 f])
theorem CDecPost.no {l : List UInt8} {w w' : World} (h : Pl.dec l = none) (hb : Below w.heap.size w w') {f : Int} (hf : f ≠ 0) : CDecPost l w (.returned (.tuple #[.agg zeroCmd.arr, .int .i64 f])) w' := by
  unfold CDecPost; rw [h]; exact ⟨hb, f, hf, rfl⟩
theorem CDecPost.yes {l : List UInt8} {w w' : World} {c : Pl.Cmd} (h : Pl.dec l = some c) (hb : Below w.heap.size w w') : CDecPost l w (.returned (.tuple #[.agg c.arr, .int .i64 0])) w' := by
  unfold CDecPost; rw [h]; exact ⟨hb, rfl⟩

/-- Between two readings: the command's block, the reader's. -/
structure DecAt (w : World) (rb b : Nat) (cs : Array Value) (s : Option (List UInt8)) (W : World) : Prop where
  below : Below w.heap.size w W
  cmd : Blk W w.heap.size cs 164
  ptr : Blk W rb #[.pointer (some ⟨b, 0, none⟩)] 204
  rdr : Ord (w.heap.size + 1 ≤ ·) W b s
  hb : w.heap.size < b ∧ b < rb
theorem DecAt.call {w W W' : World} {rb b : Nat} {cs : Array Value} {s s' : Option (List UInt8)} (h : DecAt w rb b cs s W) (hg : W.grownBy W' (some b)) (ho : Ord (w.heap.size + 1 ≤ ·) W' b s') : DecAt w rb b cs s' W' := by
  have h5 := h.hb
  exact ⟨h.below.trans (below_grownBy hg (by omega) h.below.size), h.cmd.grown (by simp; omega) hg, h.ptr.grown (by simp; omega) hg, ho, h5⟩
theorem DecAt.set {w W : World} {rb b o : Nat} {x : Value} {cs : Array Value} {s : Option (List UInt8)} (h : DecAt w rb b cs s W) : DecAt w rb b (cs.setIfInBounds o x) s (W.setCell ⟨w.heap.size, o, none⟩ x) := by
  have h5 := h.hb
  exact ⟨h.below.setCell (p := ⟨w.heap.size, o, none⟩) (Nat.le_refl _) _, h.cmd.set o x, h.ptr.set_other _ (by simp; omega) _, h.rdr.grown (r := some w.heap.size) (by simp; omega) (fun k hk => by simp at hk; omega) (grownBy_setCell _ _ _ _), h5⟩
theorem DecAt.quiet {w W W' : World} {rb b : Nat} {cs : Array Value} {s : Option (List UInt8)} (h : DecAt w rb b cs s W) (hb : Below W.heap.size W W') : DecAt w rb b cs s W' := by
  have h5 := h.hb
  exact ⟨h.below.trans (hb.mono h.below.size), h.cmd.grown (r := none) (by simp) (grownBy_of_below' hb none), h.ptr.grown (r := none) (by simp) (grownBy_of_below' hb none), h.rdr.below hb, h5⟩
theorem DecAt.one {w W : World} {rb b : Nat} {cs : Array Value} {s : Option (List UInt8)} (h : DecAt w rb b cs s W) : Calls Tryd.prog 164 #[.pointer (some ⟨rb, 0, none⟩)] W fun e W' => e = .returned (.int .i64 (rdU 1 s).1) ∧ Hid (DecAt w rb b cs (rdU 1 s).2 W') :=
  (decode_one rb b s W (h.ptr.cell 0) h.rdr).mono fun _ _ ⟨h1, h2, h3⟩ => ⟨h1, h.call h2 h3⟩
theorem DecAt.num {w W : World} {rb b : Nat} {cs : Array Value} {s : Option (List UInt8)} (h : DecAt w rb b cs s W) : Calls Tryd.prog 166 #[.pointer (some ⟨b, 0, none⟩)] W fun e W' => e = .returned (.int .u64 (rdNum s).1) ∧ Hid (DecAt w rb b cs (rdNum s).2 W') :=
  (ord_Num b s W h.rdr).mono fun _ _ ⟨h1, h2, h3⟩ => ⟨h1, h.call h2 h3⟩
theorem DecAt.int {w W : World} {rb b : Nat} {cs : Array Value} {s : Option (List UInt8)} (h : DecAt w rb b cs s W) : Calls Tryd.prog 167 #[.pointer (some ⟨b, 0, none⟩)] W fun e W' => e = .returned (.int .i64 (unzig (rdU 8 s).1)) ∧ Hid (DecAt w rb b cs (rdU 8 s).2 W') :=
  (ord_Int b s W h.rdr).mono fun _ _ ⟨h1, h2, h3⟩ => ⟨h1, h.call h2 h3⟩
theorem below_setRow2 {w w' : World} {B b : Nat} {cs : Array Value} (h : Below B w w') (hb : B ≤ b) : Below B w (w'.setRow b cs) :=
  ⟨h.os, h.tape, h.output, by rw [setRow_size]; exact h.size, fun k hk => (setRow_other w' b k cs (by omega)).trans (h.block k hk)⟩
theorem rdU_zero {n k : Nat} {s : Option (List UInt8)} (h : rdU n s = (k, none)) : k = 0 := by
  cases s with
  | none => simp [rdU] at h; exact h.symm
  | some l =>
    simp only [rdU] at h
    split at h
    · simp at h
    · simp at h; exact h.symm
def decV (_rb b : Nat) (d : Nat) : Value → World → Prop :=
  match d with
  | 14 => fun v _ => v = .pointer (some ⟨b, 0, none⟩)
  | 15 => fun v _ => v = .func (.func 166) #[.pointer (some ⟨b, 0, none⟩)] #[]
  | 16 => fun v _ => v = .pointer (some ⟨b, 0, none⟩)
  | 17 => fun v _ => v = .func (.func 167) #[.pointer (some ⟨b, 0, none⟩)] #[]
  | 6 => fun v _ => v = .func (.func 166) #[.pointer (some ⟨b, 0, none⟩)] #[]
  | 7 => fun v _ => v = .func (.func 167) #[.pointer (some ⟨b, 0, none⟩)] #[]
  | _ => fun _ _ => True
theorem decV_mono (rb b d : Nat) (v : Value) (w w' : World) (_ : Below w.heap.size w w') (h : decV rb b d v w) : decV rb b d v w' := by
  unfold decV at h ⊢
  split at h
  all_goals exact h

set_option maxHeartbeats 2000000 in
set_option maxRecDepth 100000 in
theorem command_Decode (v : Value) (l : List UInt8) (ok : Nat → Prop) (w : World) (h : Sl w ok v (byteCells l)) (hl : l.length ≤ 1000000) : Calls Tryd.prog 111 #[v] w (CDecPost l w) := by
  have HN := Lib.hid (fun w' f (h : Pl.dec l = none) (hb : Below w.heap.size w w') (hf : f ≠ 0) => CDecPost.no h hb hf)
  have HY := Lib.hid (fun w' c (h : Pl.dec l = some c) (hb : Below w.heap.size w w') => CDecPost.yes h hb)
  have HC := Lib.hid (new_Reader v l ok (w.alloc (.cells zeroCmd.arr 164)) (h.grown (r := none) (fun _ _ => by simp) (World.grownBy_alloc _ _ _)) hl)
  have HK0 : Hid (Blk (w.alloc (.cells zeroCmd.arr 164)) w.heap.size zeroCmd.arr 164) := Blk.alloc _ _
  have HB0 : Hid (Below w.heap.size w (w.alloc (.cells zeroCmd.arr 164))) := (Below.refl _ _).alloc (Nat.le_refl _) _
  have hsz0 : (w.alloc (.cells zeroCmd.arr 164)).heap.size = w.heap.size + 1 := World.size_alloc _ _
  simp only [zeroCmd, Pl.Cmd.arr] at HC HK0 HB0 hsz0
  clear h hl
  go_enter Tryd.func111, Tryd.ntmps111
  go_wp2_with fail
  generalize w.alloc (.cells #[.int .i64 0, .int .i64 0, .int .i64 0, .int .i64 0, .int .i64 0, .int .i64 0, .int .i64 0, .int .i64 0, .int .i64 0] 164) = w0 at *
  refine HC.out.mono ?_
  rintro e w1 ⟨b, rfl, hbs, ho, hb1⟩
  have hbl := ho.lt
  have HO1 := Lib.hid ho
  have HB1 := Lib.hid hb1
  clear ho hb1 HC
  have HD2 : Hid (DecAt w w1.heap.size b #[.int .i64 0, .int .i64 0, .int .i64 0, .int .i64 0, .int .i64 0, .int .i64 0, .int .i64 0, .int .i64 0, .int .i64 0] (some l) (w1.alloc (.cells #[.pointer (some ⟨b, 0, none⟩)] 204))) := by
    refine ⟨(HB0.out.trans (HB1.out.mono (by omega))).alloc (by have := HB1.out.size; omega) _, (HK0.out.below (by omega) HB1.out).grown (r := none) (by simp) (World.grownBy_alloc _ _ _), Blk.alloc _ _, ?_, by omega⟩
    have := HO1.out.grown (r := none) (by simp) (by simp) (World.grownBy_alloc w1 (.cells #[.pointer (some ⟨b, 0, none⟩)] 204) none)
    rw [hsz0] at this
    exact this
  clear HO1 HB1 HK0 HB0
  go_wp2_with fail
  generalize w1.alloc (.cells #[.pointer (some ⟨b, 0, none⟩)] 204) = w2 at *
  obtain ⟨rb, hrb⟩ : ∃ rb, rb = w1.heap.size := ⟨_, rfl⟩
  rw [← hrb] at HD2
  rw [← hrb]
  clear hrb hbl hbs hsz0
  have HP := Lib.hid HD2.out.ptr
  refine wp_region_vals (by kernel_rfl) (n := 87) rfl (by kernel_rfl) (by kernel_rfl) [[], [14], [], [16], [15, 14, 15], [17, 6, 14, 15, 16, 17, 6]] (by kernel_rfl) [14, 15, 16, 17, 6, 7] (by kernel_rfl) [4] (by kernel_rfl) (decV rb b) (fun w' => Below w2.heap.size w2 w') (fun w w' => Below w.heap.size w w') (decV_mono rb b) (Below.refl _ _).drew ?_ ?_
  · simp only [AllSteps]
    refine ⟨?_, ?_, ?_, ?_, ?_, ?_, trivial⟩
    all_goals (intro a' w' hI hd0 hnw hds K hK; clear hd0)
    all_goals (have h4 : a'.tmps.getD 4 undef = .pointer (some ⟨rb, 0, none⟩) := hnw 4 (by simp); clear hnw)
    · have hcl : w'.cell? ⟨rb, 0, none⟩ = some (.pointer (some ⟨b, 0, none⟩)) := (HP.out.below HP.out.lt hI).cell 0
      go_simp
      exact hK _ _ (fun d hd => by cases hd; rfl) hI (Below.refl _ _)
    · have h14 := getD_form (show a'.tmps.getD 14 undef = .pointer (some ⟨b, 0, none⟩) from hds 14 (by simp))
      go_simp
      exact hK _ _ (fun d hd => by cases hd; rfl) hI (Below.refl _ _)
    · have hcl : w'.cell? ⟨rb, 0, none⟩ = some (.pointer (some ⟨b, 0, none⟩)) := (HP.out.below HP.out.lt hI).cell 0
      go_simp
      exact hK _ _ (fun d hd => by cases hd; rfl) hI (Below.refl _ _)
    · have h16 := getD_form (show a'.tmps.getD 16 undef = .pointer (some ⟨b, 0, none⟩) from hds 16 (by simp))
      go_simp
      exact hK _ _ (fun d hd => by cases hd; rfl) hI (Below.refl _ _)
    · have h15 := getD_form (show a'.tmps.getD 15 undef = .func (.func 166) #[.pointer (some ⟨b, 0, none⟩)] #[] from hds 15 (by simp))
      go_simp
      exact hK _ _ (fun d hd => by cases hd; rfl) hI (Below.refl _ _)
    · have h17 := getD_form (show a'.tmps.getD 17 undef = .func (.func 167) #[.pointer (some ⟨b, 0, none⟩)] #[] from hds 17 (by simp))
      go_simp
      exact hK _ _ (fun d hd => by cases hd; rfl) hI (Below.refl _ _)
  · intro f w3 hI hv
    have f6 : f 6 = .func (.func 166) #[.pointer (some ⟨b, 0, none⟩)] #[] := hv 6 (by simp)
    have f7 : f 7 = .func (.func 167) #[.pointer (some ⟨b, 0, none⟩)] #[] := hv 7 (by simp)
    have HDw3 : Hid (DecAt w rb b _ (some l) w3) := HD2.out.quiet hI
    clear hv hI HP HD2
    simp only [putMany]
    go_simp
    clear f6 f7
    generalize f 14 = g14
    generalize f 15 = g15
    generalize f 16 = g16
    generalize f 17 = g17
    go_wp2_with fail
    refine HDw3.out.one.mono ?_
    rintro e w5 ⟨rfl, HDw5⟩
    clear HDw3
    rcases Ew5 : rdU 1 (some l) with ⟨kn, s1⟩
    rw [Ew5] at HDw5
    have HEw5 := Lib.hid Ew5
    clear Ew5
    simp only at HDw5
    simp only
    have p0 := HDw5.out.cmd.cell 0
    have y0 := HDw5.out.cmd.frozen 0
    have HDw6 : Hid (DecAt w rb b #[.int .i64 kn, .int .i64 0, .int .i64 0, .int .i64 0, .int .i64 0, .int .i64 0, .int .i64 0, .int .i64 0, .int .i64 0] s1 (w5.setCell ⟨w.heap.size, 0, none⟩ (.int .i64 kn))) := DecAt.set (o := 0) (x := .int .i64 kn) (HDw5.out)
    have qp := HDw6.out.ptr.cell 0
    go_wp2_with fail
    generalize (w5.setCell ⟨w.heap.size, 0, none⟩ (.int .i64 kn)) = w6 at *
    clear HDw5 p0 y0
    clear qp
    rcases s1 with _ | l1
    · skip
      refine (ord_Fault_bad b w6 HDw6.out.rdr).mono ?_
      rintro e w9 ⟨f1, rfl, hf1, rfl⟩
      have hf1b : (f1 == 0) = false := by rw [beq_eq_false_iff_ne]; exact hf1
      clear hf1
      have hk0 := rdU_zero HEw5.out
      have h1b : ((kn : Int) == 1) = false := by rw [beq_eq_false_iff_ne]; omega
      have h2b : ((kn : Int) == 2) = false := by rw [beq_eq_false_iff_ne]; omega
      have HK0 := Lib.hid hk0
      clear hk0
      have q0 := HDw6.out.cmd.cell 0
      have qp := HDw6.out.ptr.cell 0
      go_wp2_with fail
      clear q0 qp
      refine HDw6.out.one.mono ?_
      rintro e w7 ⟨rfl, HDw7⟩
      clear HDw6
      rcases Ew7 : rdU 1 none with ⟨y, s2⟩
      rw [Ew7] at HDw7
      have HEw7 := Lib.hid Ew7
      clear Ew7
      simp only at HDw7
      simp only
      have p1 := HDw7.out.cmd.cell 1
      have y1 := HDw7.out.cmd.frozen 1
      have HDw8 : Hid (DecAt w rb b #[.int .i64 kn, .int .i64 y, .int .i64 0, .int .i64 0, .int .i64 0, .int .i64 0, .int .i64 0, .int .i64 0, .int .i64 0] s2 (w7.setCell ⟨w.heap.size, 1, none⟩ (.int .i64 y))) := DecAt.set (o := 1) (x := .int .i64 y) (HDw7.out)
      have qp := HDw8.out.ptr.cell 0
      have q0 := HDw8.out.cmd.cell 0
      go_wp2_with fail
      generalize (w7.setCell ⟨w.heap.size, 1, none⟩ (.int .i64 y)) = w8 at *
      clear HDw7 p1 y1
      clear qp q0
      refine HDw8.out.num.mono ?_
      rintro e w9 ⟨rfl, HDw9⟩
      clear HDw8
      rcases Ew9 : rdNum s2 with ⟨idn, s3⟩
      rw [Ew9] at HDw9
      have HEw9 := Lib.hid Ew9
      clear Ew9
      simp only at HDw9
      simp only
      have q0 := HDw9.out.cmd.cell 0
      have qp := HDw9.out.ptr.cell 0
      go_wp2_with fail
      clear q0 qp
      refine HDw9.out.int.mono ?_
      rintro e w10 ⟨rfl, HDw10⟩
      clear HDw9
      rcases Ew10 : rdU 8 s3 with ⟨pr, s8⟩
      rw [Ew10] at HDw10
      have HEw10 := Lib.hid Ew10
      clear Ew10
      simp only at HDw10
      simp only
      have q0 := HDw10.out.cmd.cell 0
      have qp := HDw10.out.ptr.cell 0
      go_wp2_with fail
      clear q0 qp
      refine HDw10.out.int.mono ?_
      rintro e w11 ⟨rfl, HDw11⟩
      clear HDw10
      rcases Ew11 : rdU 8 s8 with ⟨qt, s9⟩
      rw [Ew11] at HDw11
      have HEw11 := Lib.hid Ew11
      clear Ew11
      simp only at HDw11
      simp only
      have p6 := HDw11.out.cmd.cell 6
      have y6 := HDw11.out.cmd.frozen 6
      have p7 := HDw11.out.cmd.cell 7
      have y7 := HDw11.out.cmd.frozen 7
      have HDw12 : Hid (DecAt w rb b #[.int .i64 kn, .int .i64 y, .int .i64 0, .int .i64 0, .int .i64 0, .int .i64 0, .int .i64 (unzig pr), .int .i64 (unzig qt), .int .i64 0] s9 ((w11.setCell ⟨w.heap.size, 6, none⟩ (.int .i64 (unzig pr))).setCell ⟨w.heap.size, 7, none⟩ (.int .i64 (unzig qt)))) := DecAt.set (o := 7) (x := .int .i64 (unzig qt)) (DecAt.set (o := 6) (x := .int .i64 (unzig pr)) (HDw11.out))
      have qp := HDw12.out.ptr.cell 0
      have q0 := HDw12.out.cmd.cell 0
      go_wp2_with fail
      generalize ((w11.setCell ⟨w.heap.size, 6, none⟩ (.int .i64 (unzig pr))).setCell ⟨w.heap.size, 7, none⟩ (.int .i64 (unzig qt))) = w12 at *
      clear HDw11 p6 y6 p7 y7
      clear qp q0
      rcases s9 with _ | r9
      · refine (ord_Fault_bad b w12 HDw12.out.rdr).mono ?_
        rintro e w9 ⟨f2, rfl, hf2, rfl⟩
        have hf2b : (f2 == 0) = false := by rw [beq_eq_false_iff_ne]; exact hf2
        have HF2 := Lib.hid hf2
        clear hf2
        have HDEC : Hid (Pl.dec l = none) := by show _ = _; unfold Pl.dec decTail; simp only [HEw5.out, HEw7.out, HEw9.out, HEw10.out, HEw11.out]; simp [HK0.out]
        go_wp2_with (refine wpList_store_row rfl 164 _ _ rfl w.heap.size zeroCmd.arr rfl rfl 164 _ HDw12.out.cmd (by kernel_rfl) rfl (by kernel_rfl) ?_)
        exact bodyPost_ret (v := .tuple #[.agg zeroCmd.arr, .int .i64 f2]) (results_cell_tmp rfl _ _ w.heap.size zeroCmd.arr _ _ _ rfl rfl (setRow_heap _ _ _ _ _ _ HDw12.out.cmd) Tryd.underlying164 rfl (by kernel_rfl)) rfl (HN.out _ _ HDEC.out (below_setRow2 HDw12.out.below (Nat.le_refl _)) HF2.out)
      · refine (ord_Fault_ok b r9 w12 HDw12.out.rdr).mono ?_
        rintro e w9 ⟨rfl, rfl⟩
        obtain rfl : s2 = none := none_U HEw7.out
        obtain rfl : s3 = none := none_N HEw9.out
        obtain rfl : s8 = none := none_U HEw10.out
        have hx := none_U HEw11.out
        cases hx
    · skip
      refine (ord_Fault_ok b l1 w6 HDw6.out.rdr).mono ?_
      rintro e w9 ⟨rfl, rfl⟩
      by_cases hkn : kn < 1 ∨ 3 < kn
      · have hkk : ((kn : Int) < 1) ∨ ((3 : Int) < kn) := by omega
        have HKN := Lib.hid hkn
        clear hkn
        rcases hkk with hkk | hkk
        · skip
          have q0 := HDw6.out.cmd.cell 0
          have HDEC : Hid (Pl.dec l = none) := by show _ = _; unfold Pl.dec; simp only [HEw5.out]; exact if_pos ⟨rfl, HKN.out⟩
          go_wp2_with (refine wpList_store_row rfl 164 _ _ rfl w.heap.size zeroCmd.arr rfl rfl 164 _ HDw6.out.cmd (by kernel_rfl) rfl (by kernel_rfl) ?_)
          exact bodyPost_ret (v := .tuple #[.agg zeroCmd.arr, .int .i64 4]) (results_cell_tmp rfl _ _ w.heap.size zeroCmd.arr _ _ _ rfl rfl (setRow_heap _ _ _ _ _ _ HDw6.out.cmd) Tryd.underlying164 rfl (by kernel_rfl)) rfl (HN.out _ _ HDEC.out (below_setRow2 HDw6.out.below (Nat.le_refl _)) (by decide))
        · skip
          have q0 := HDw6.out.cmd.cell 0
          have hx1 : (1 : Int) ≤ kn := by omega
          have HDEC : Hid (Pl.dec l = none) := by show _ = _; unfold Pl.dec; simp only [HEw5.out]; exact if_pos ⟨rfl, HKN.out⟩
          go_wp2_with (refine wpList_store_row rfl 164 _ _ rfl w.heap.size zeroCmd.arr rfl rfl 164 _ HDw6.out.cmd (by kernel_rfl) rfl (by kernel_rfl) ?_)
          exact bodyPost_ret (v := .tuple #[.agg zeroCmd.arr, .int .i64 4]) (results_cell_tmp rfl _ _ w.heap.size zeroCmd.arr _ _ _ rfl rfl (setRow_heap _ _ _ _ _ _ HDw6.out.cmd) Tryd.underlying164 rfl (by kernel_rfl)) rfl (HN.out _ _ HDEC.out (below_setRow2 HDw6.out.below (Nat.le_refl _)) (by decide))
      · skip
        have hx1 : (1 : Int) ≤ kn := by omega
        have hx3 : (kn : Int) ≤ 3 := by omega
        have HKN := Lib.hid hkn
        clear hkn
        by_cases hk1 : kn = 1
        · skip
          have h1b : ((kn : Int) == 1) = true := by rw [beq_iff_eq]; omega
          have h2b : ((kn : Int) == 2) = false := by rw [beq_eq_false_iff_ne]; omega
          have HK1 := Lib.hid hk1
          clear hk1
          have q0 := HDw6.out.cmd.cell 0
          have qp := HDw6.out.ptr.cell 0
          go_wp2_with fail
          clear q0 qp
          refine HDw6.out.one.mono ?_
          rintro e w7 ⟨rfl, HDw7⟩
          clear HDw6
          rcases Ew7 : rdU 1 (some l1) with ⟨y, s2⟩
          rw [Ew7] at HDw7
          have HEw7 := Lib.hid Ew7
          clear Ew7
          simp only at HDw7
          simp only
          have p1 := HDw7.out.cmd.cell 1
          have y1 := HDw7.out.cmd.frozen 1
          have HDw8 : Hid (DecAt w rb b #[.int .i64 kn, .int .i64 y, .int .i64 0, .int .i64 0, .int .i64 0, .int .i64 0, .int .i64 0, .int .i64 0, .int .i64 0] s2 (w7.setCell ⟨w.heap.size, 1, none⟩ (.int .i64 y))) := DecAt.set (o := 1) (x := .int .i64 y) (HDw7.out)
          have qp := HDw8.out.ptr.cell 0
          have q0 := HDw8.out.cmd.cell 0
          go_wp2_with fail
          generalize (w7.setCell ⟨w.heap.size, 1, none⟩ (.int .i64 y)) = w8 at *
          clear HDw7 p1 y1
          clear qp q0
          refine HDw8.out.num.mono ?_
          rintro e w9 ⟨rfl, HDw9⟩
          clear HDw8
          rcases Ew9 : rdNum s2 with ⟨idn, s3⟩
          rw [Ew9] at HDw9
          have HEw9 := Lib.hid Ew9
          clear Ew9
          simp only at HDw9
          simp only
          have q0 := HDw9.out.cmd.cell 0
          have qp := HDw9.out.ptr.cell 0
          go_wp2_with fail
          clear q0 qp
          refine HDw9.out.num.mono ?_
          rintro e w10 ⟨rfl, HDw10⟩
          clear HDw9
          rcases Ew10 : rdNum s3 with ⟨own, s4⟩
          rw [Ew10] at HDw10
          have HEw10 := Lib.hid Ew10
          clear Ew10
          simp only at HDw10
          simp only
          have q0 := HDw10.out.cmd.cell 0
          have qp := HDw10.out.ptr.cell 0
          go_wp2_with fail
          clear q0 qp
          refine HDw10.out.one.mono ?_
          rintro e w11 ⟨rfl, HDw11⟩
          clear HDw10
          rcases Ew11 : rdU 1 s4 with ⟨sd, s5⟩
          rw [Ew11] at HDw11
          have HEw11 := Lib.hid Ew11
          clear Ew11
          simp only at HDw11
          simp only
          have q0 := HDw11.out.cmd.cell 0
          have qp := HDw11.out.ptr.cell 0
          go_wp2_with fail
          clear q0 qp
          refine HDw11.out.one.mono ?_
          rintro e w12 ⟨rfl, HDw12⟩
          clear HDw11
          rcases Ew12 : rdU 1 s5 with ⟨ty, s6⟩
          rw [Ew12] at HDw12
          have HEw12 := Lib.hid Ew12
          clear Ew12
          simp only at HDw12
          simp only
          have q0 := HDw12.out.cmd.cell 0
          have qp := HDw12.out.ptr.cell 0
          go_wp2_with fail
          clear q0 qp
          refine HDw12.out.one.mono ?_
          rintro e w13 ⟨rfl, HDw13⟩
          clear HDw12
          rcases Ew13 : rdU 1 s6 with ⟨fg, s7⟩
          rw [Ew13] at HDw13
          have HEw13 := Lib.hid Ew13
          clear Ew13
          simp only at HDw13
          simp only
          have p4 := HDw13.out.cmd.cell 4
          have y4 := HDw13.out.cmd.frozen 4
          have p5 := HDw13.out.cmd.cell 5
          have y5 := HDw13.out.cmd.frozen 5
          have p8 := HDw13.out.cmd.cell 8
          have y8 := HDw13.out.cmd.frozen 8
          have HDw14 : Hid (DecAt w rb b #[.int .i64 kn, .int .i64 y, .int .i64 0, .int .i64 0, .int .i64 sd, .int .i64 ty, .int .i64 0, .int .i64 0, .int .i64 fg] s7 (((w13.setCell ⟨w.heap.size, 4, none⟩ (.int .i64 sd)).setCell ⟨w.heap.size, 5, none⟩ (.int .i64 ty)).setCell ⟨w.heap.size, 8, none⟩ (.int .i64 fg))) := DecAt.set (o := 8) (x := .int .i64 fg) (DecAt.set (o := 5) (x := .int .i64 ty) (DecAt.set (o := 4) (x := .int .i64 sd) (HDw13.out)))
          have qp := HDw14.out.ptr.cell 0
          have q0 := HDw14.out.cmd.cell 0
          go_wp2_with fail
          generalize (((w13.setCell ⟨w.heap.size, 4, none⟩ (.int .i64 sd)).setCell ⟨w.heap.size, 5, none⟩ (.int .i64 ty)).setCell ⟨w.heap.size, 8, none⟩ (.int .i64 fg)) = w14 at *
          clear HDw13 p4 y4 p5 y5 p8 y8
          clear qp q0
          refine HDw14.out.int.mono ?_
          rintro e w15 ⟨rfl, HDw15⟩
          clear HDw14
          rcases Ew15 : rdU 8 s7 with ⟨pr, s8⟩
          rw [Ew15] at HDw15
          have HEw15 := Lib.hid Ew15
          clear Ew15
          simp only at HDw15
          simp only
          have q0 := HDw15.out.cmd.cell 0
          have qp := HDw15.out.ptr.cell 0
          go_wp2_with fail
          clear q0 qp
          refine HDw15.out.int.mono ?_
          rintro e w16 ⟨rfl, HDw16⟩
          clear HDw15
          rcases Ew16 : rdU 8 s8 with ⟨qt, s9⟩
          rw [Ew16] at HDw16
          have HEw16 := Lib.hid Ew16
          clear Ew16
          simp only at HDw16
          simp only
          have p6 := HDw16.out.cmd.cell 6
          have y6 := HDw16.out.cmd.frozen 6
          have p7 := HDw16.out.cmd.cell 7
          have y7 := HDw16.out.cmd.frozen 7
          have HDw17 : Hid (DecAt w rb b #[.int .i64 kn, .int .i64 y, .int .i64 0, .int .i64 0, .int .i64 sd, .int .i64 ty, .int .i64 (unzig pr), .int .i64 (unzig qt), .int .i64 fg] s9 ((w16.setCell ⟨w.heap.size, 6, none⟩ (.int .i64 (unzig pr))).setCell ⟨w.heap.size, 7, none⟩ (.int .i64 (unzig qt)))) := DecAt.set (o := 7) (x := .int .i64 (unzig qt)) (DecAt.set (o := 6) (x := .int .i64 (unzig pr)) (HDw16.out))
          have qp := HDw17.out.ptr.cell 0
          have q0 := HDw17.out.cmd.cell 0
          go_wp2_with fail
          generalize ((w16.setCell ⟨w.heap.size, 6, none⟩ (.int .i64 (unzig pr))).setCell ⟨w.heap.size, 7, none⟩ (.int .i64 (unzig qt))) = w17 at *
          clear HDw16 p6 y6 p7 y7
          clear qp q0
          rcases s9 with _ | r9
          · refine (ord_Fault_bad b w17 HDw17.out.rdr).mono ?_
            rintro e w9 ⟨f2, rfl, hf2, rfl⟩
            have hf2b : (f2 == 0) = false := by rw [beq_eq_false_iff_ne]; exact hf2
            have HF2 := Lib.hid hf2
            clear hf2
            have HDEC : Hid (Pl.dec l = none) := by show _ = _; unfold Pl.dec decTail; simp only [HEw5.out, HEw7.out, HEw9.out, HEw10.out, HEw11.out, HEw12.out, HEw13.out, HEw15.out, HEw16.out]; simp [HK1.out]
            go_wp2_with (refine wpList_store_row rfl 164 _ _ rfl w.heap.size zeroCmd.arr rfl rfl 164 _ HDw17.out.cmd (by kernel_rfl) rfl (by kernel_rfl) ?_)
            exact bodyPost_ret (v := .tuple #[.agg zeroCmd.arr, .int .i64 f2]) (results_cell_tmp rfl _ _ w.heap.size zeroCmd.arr _ _ _ rfl rfl (setRow_heap _ _ _ _ _ _ HDw17.out.cmd) Tryd.underlying164 rfl (by kernel_rfl)) rfl (HN.out _ _ HDEC.out (below_setRow2 HDw17.out.below (Nat.le_refl _)) HF2.out)
          · refine (ord_Fault_ok b r9 w17 HDw17.out.rdr).mono ?_
            rintro e w9 ⟨rfl, rfl⟩
            have p2 := HDw17.out.cmd.cell 2
            have y2 := HDw17.out.cmd.frozen 2
            have p3 := HDw17.out.cmd.cell 3
            have y3 := HDw17.out.cmd.frozen 3
            have HDw18 : Hid (DecAt w rb b #[.int .i64 kn, .int .i64 y, .int .i64 (min (idn : Int) 4611686018427387905), .int .i64 (min (own : Int) 1073741825), .int .i64 sd, .int .i64 ty, .int .i64 (unzig pr), .int .i64 (unzig qt), .int .i64 fg] (some r9) ((w17.setCell ⟨w.heap.size, 2, none⟩ (.int .i64 (min (idn : Int) 4611686018427387905))).setCell ⟨w.heap.size, 3, none⟩ (.int .i64 (min (own : Int) 1073741825)))) := DecAt.set (o := 3) (x := .int .i64 (min (own : Int) 1073741825)) (DecAt.set (o := 2) (x := .int .i64 (min (idn : Int) 4611686018427387905)) (HDw17.out))
            have qp := HDw18.out.ptr.cell 0
            have q0 := HDw18.out.cmd.cell 0
            go_wp2_with fail
            generalize ((w17.setCell ⟨w.heap.size, 2, none⟩ (.int .i64 (min (idn : Int) 4611686018427387905))).setCell ⟨w.heap.size, 3, none⟩ (.int .i64 (min (own : Int) 1073741825))) = w18 at *
            clear HDw17 p2 y2 p3 y3
            clear qp q0
            have HDEC0 : Hid (Pl.dec l = if r9 = [] ∧ Pl.cmdRight ⟨kn, y, min (idn : Int) 4611686018427387905, min (own : Int) 1073741825, sd, ty, unzig pr, unzig qt, fg⟩ = true then some ⟨kn, y, min (idn : Int) 4611686018427387905, min (own : Int) 1073741825, sd, ty, unzig pr, unzig qt, fg⟩ else none) := by
              show _ = _
              unfold Pl.dec
              simp only [HEw5.out]
              rw [if_neg (fun h => HKN.out h.2)]
              simp only [HEw7.out]
              rw [decTail_one HK1.out]
              simp only [HEw9.out, HEw10.out, HEw11.out, HEw12.out, HEw13.out, HEw15.out, HEw16.out]
              try rfl
            refine (ord_Left b r9 w18 HDw18.out.rdr).mono ?_
            rintro e w99 ⟨rfl, rfl⟩
            by_cases hr9 : r9 = []
            · subst hr9
              go_wp2_with (first | (refine wpList_load_row_w (by simp [Region.wanted, yielded, go_sem]) 164 _ rfl w.heap.size rfl 164 _ (0, 0) _ HDw18.out.cmd Tryd.underlying164 rfl (by kernel_rfl) ?_) | fail)
              refine (command_Right ⟨kn, y, min (idn : Int) 4611686018427387905, min (own : Int) 1073741825, sd, ty, unzig pr, unzig qt, fg⟩ w18).mono ?_
              rintro e w98 ⟨rfl, hb98⟩
              have HDw98 : Hid (DecAt w rb b _ _ w98) := HDw18.out.quiet hb98
              clear hb98
              cases hcr : Pl.cmdRight ⟨kn, y, min (idn : Int) 4611686018427387905, min (own : Int) 1073741825, sd, ty, unzig pr, unzig qt, fg⟩ with
              | false =>
                have HCR := Lib.hid hcr
                clear hcr
                have HDEC : Hid (Pl.dec l = none) := HDEC0.out.trans (if_neg (fun h => by have := HCR.out; rw [h.2] at this; cases this))
                go_wp2_with (refine wpList_store_row rfl 164 _ _ rfl w.heap.size zeroCmd.arr rfl rfl 164 _ HDw98.out.cmd (by kernel_rfl) rfl (by kernel_rfl) ?_)
                exact bodyPost_ret (v := .tuple #[.agg zeroCmd.arr, .int .i64 4]) (results_cell_tmp rfl _ _ w.heap.size zeroCmd.arr _ _ _ rfl rfl (setRow_heap _ _ _ _ _ _ HDw98.out.cmd) Tryd.underlying164 rfl (by kernel_rfl)) rfl (HN.out _ _ HDEC.out (below_setRow2 HDw98.out.below (Nat.le_refl _)) (by decide))
              | true =>
                have HCR := Lib.hid hcr
                clear hcr
                go_wp2_with (first | (refine wpList_load_row rfl 164 _ rfl w.heap.size rfl 164 _ (0, 0) _ HDw98.out.cmd Tryd.underlying164 rfl (by kernel_rfl) ?_) | (refine wpList_store_row rfl 164 _ _ rfl w.heap.size (Pl.Cmd.arr ⟨kn, y, min (idn : Int) 4611686018427387905, min (own : Int) 1073741825, sd, ty, unzig pr, unzig qt, fg⟩) rfl rfl 164 _ HDw98.out.cmd (by kernel_rfl) rfl (by kernel_rfl) ?_))
                exact bodyPost_ret (v := .tuple #[.agg (Pl.Cmd.arr ⟨kn, y, min (idn : Int) 4611686018427387905, min (own : Int) 1073741825, sd, ty, unzig pr, unzig qt, fg⟩), .int .i64 0]) (results_cell_tmp rfl _ _ w.heap.size (Pl.Cmd.arr ⟨kn, y, min (idn : Int) 4611686018427387905, min (own : Int) 1073741825, sd, ty, unzig pr, unzig qt, fg⟩) _ _ _ rfl rfl (setRow_heap _ _ _ _ _ _ HDw98.out.cmd) Tryd.underlying164 rfl (by kernel_rfl)) rfl (HY.out _ _ (HDEC0.out.trans (if_pos ⟨by trivial, HCR.out⟩)) (below_setRow2 HDw98.out.below (Nat.le_refl _)))
            · have hl9 : (0 : Int) < r9.length := by have := List.length_pos_iff.2 hr9; omega
              have HR9 := Lib.hid hr9
              clear hr9
              have HDEC : Hid (Pl.dec l = none) := HDEC0.out.trans (if_neg (fun h => HR9.out h.1))
              go_wp2_with (refine wpList_store_row rfl 164 _ _ rfl w.heap.size zeroCmd.arr rfl rfl 164 _ HDw18.out.cmd (by kernel_rfl) rfl (by kernel_rfl) ?_)
              exact bodyPost_ret (v := .tuple #[.agg zeroCmd.arr, .int .i64 4]) (results_cell_tmp rfl _ _ w.heap.size zeroCmd.arr _ _ _ rfl rfl (setRow_heap _ _ _ _ _ _ HDw18.out.cmd) Tryd.underlying164 rfl (by kernel_rfl)) rfl (HN.out _ _ HDEC.out (below_setRow2 HDw18.out.below (Nat.le_refl _)) (by decide))
        · by_cases hk2 : kn = 2
          · skip
            have h1b : ((kn : Int) == 1) = false := by rw [beq_eq_false_iff_ne]; omega
            have h2b : ((kn : Int) == 2) = true := by rw [beq_iff_eq]; omega
            have HK1 := Lib.hid hk1
            have HK2 := Lib.hid hk2
            clear hk1 hk2
            have q0 := HDw6.out.cmd.cell 0
            have qp := HDw6.out.ptr.cell 0
            go_wp2_with fail
            clear q0 qp
            refine HDw6.out.one.mono ?_
            rintro e w7 ⟨rfl, HDw7⟩
            clear HDw6
            rcases Ew7 : rdU 1 (some l1) with ⟨y, s2⟩
            rw [Ew7] at HDw7
            have HEw7 := Lib.hid Ew7
            clear Ew7
            simp only at HDw7
            simp only
            have p1 := HDw7.out.cmd.cell 1
            have y1 := HDw7.out.cmd.frozen 1
            have HDw8 : Hid (DecAt w rb b #[.int .i64 kn, .int .i64 y, .int .i64 0, .int .i64 0, .int .i64 0, .int .i64 0, .int .i64 0, .int .i64 0, .int .i64 0] s2 (w7.setCell ⟨w.heap.size, 1, none⟩ (.int .i64 y))) := DecAt.set (o := 1) (x := .int .i64 y) (HDw7.out)
            have qp := HDw8.out.ptr.cell 0
            have q0 := HDw8.out.cmd.cell 0
            go_wp2_with fail
            generalize (w7.setCell ⟨w.heap.size, 1, none⟩ (.int .i64 y)) = w8 at *
            clear HDw7 p1 y1
            clear qp q0
            refine HDw8.out.num.mono ?_
            rintro e w9 ⟨rfl, HDw9⟩
            clear HDw8
            rcases Ew9 : rdNum s2 with ⟨idn, s3⟩
            rw [Ew9] at HDw9
            have HEw9 := Lib.hid Ew9
            clear Ew9
            simp only at HDw9
            simp only
            have q0 := HDw9.out.cmd.cell 0
            have qp := HDw9.out.ptr.cell 0
            go_wp2_with fail
            clear q0 qp
            rcases s3 with _ | r9
            · refine (ord_Fault_bad b w9 HDw9.out.rdr).mono ?_
              rintro e w9 ⟨f2, rfl, hf2, rfl⟩
              have hf2b : (f2 == 0) = false := by rw [beq_eq_false_iff_ne]; exact hf2
              have HF2 := Lib.hid hf2
              clear hf2
              have HDEC : Hid (Pl.dec l = none) := by show _ = _; unfold Pl.dec decTail; simp only [HEw5.out, HEw7.out, HEw9.out]; simp [HK2.out]
              go_wp2_with (refine wpList_store_row rfl 164 _ _ rfl w.heap.size zeroCmd.arr rfl rfl 164 _ HDw9.out.cmd (by kernel_rfl) rfl (by kernel_rfl) ?_)
              exact bodyPost_ret (v := .tuple #[.agg zeroCmd.arr, .int .i64 f2]) (results_cell_tmp rfl _ _ w.heap.size zeroCmd.arr _ _ _ rfl rfl (setRow_heap _ _ _ _ _ _ HDw9.out.cmd) Tryd.underlying164 rfl (by kernel_rfl)) rfl (HN.out _ _ HDEC.out (below_setRow2 HDw9.out.below (Nat.le_refl _)) HF2.out)
            · refine (ord_Fault_ok b r9 w9 HDw9.out.rdr).mono ?_
              rintro e w9 ⟨rfl, rfl⟩
              have p2 := HDw9.out.cmd.cell 2
              have y2 := HDw9.out.cmd.frozen 2
              have p3 := HDw9.out.cmd.cell 3
              have y3 := HDw9.out.cmd.frozen 3
              have HDw10 : Hid (DecAt w rb b #[.int .i64 kn, .int .i64 y, .int .i64 (min (idn : Int) 4611686018427387905), .int .i64 (min 0 1073741825), .int .i64 0, .int .i64 0, .int .i64 0, .int .i64 0, .int .i64 0] (some r9) ((w9.setCell ⟨w.heap.size, 2, none⟩ (.int .i64 (min (idn : Int) 4611686018427387905))).setCell ⟨w.heap.size, 3, none⟩ (.int .i64 (min 0 1073741825)))) := DecAt.set (o := 3) (x := .int .i64 (min 0 1073741825)) (DecAt.set (o := 2) (x := .int .i64 (min (idn : Int) 4611686018427387905)) (HDw9.out))
              have qp := HDw10.out.ptr.cell 0
              have q0 := HDw10.out.cmd.cell 0
              go_wp2_with fail
              generalize ((w9.setCell ⟨w.heap.size, 2, none⟩ (.int .i64 (min (idn : Int) 4611686018427387905))).setCell ⟨w.heap.size, 3, none⟩ (.int .i64 (min 0 1073741825))) = w10 at *
              clear HDw9 p2 y2 p3 y3
              clear qp q0
              have HDEC0 : Hid (Pl.dec l = if r9 = [] ∧ Pl.cmdRight ⟨kn, y, min (idn : Int) 4611686018427387905, min 0 1073741825, 0, 0, 0, 0, 0⟩ = true then some ⟨kn, y, min (idn : Int) 4611686018427387905, min 0 1073741825, 0, 0, 0, 0, 0⟩ else none) := by
                show _ = _
                unfold Pl.dec
                simp only [HEw5.out]
                rw [if_neg (fun h => HKN.out h.2)]
                simp only [HEw7.out]
                rw [decTail_two HK2.out]
                simp only [HEw9.out]
                try rfl
              refine (ord_Left b r9 w10 HDw10.out.rdr).mono ?_
              rintro e w99 ⟨rfl, rfl⟩
              by_cases hr9 : r9 = []
              · subst hr9
                go_wp2_with (first | (refine wpList_load_row_w (by simp [Region.wanted, yielded, go_sem]) 164 _ rfl w.heap.size rfl 164 _ (0, 0) _ HDw10.out.cmd Tryd.underlying164 rfl (by kernel_rfl) ?_) | fail)
                refine (command_Right ⟨kn, y, min (idn : Int) 4611686018427387905, min 0 1073741825, 0, 0, 0, 0, 0⟩ w10).mono ?_
                rintro e w98 ⟨rfl, hb98⟩
                have HDw98 : Hid (DecAt w rb b _ _ w98) := HDw10.out.quiet hb98
                clear hb98
                cases hcr : Pl.cmdRight ⟨kn, y, min (idn : Int) 4611686018427387905, min 0 1073741825, 0, 0, 0, 0, 0⟩ with
                | false =>
                  have HCR := Lib.hid hcr
                  clear hcr
                  have HDEC : Hid (Pl.dec l = none) := HDEC0.out.trans (if_neg (fun h => by have := HCR.out; rw [h.2] at this; cases this))
                  go_wp2_with (refine wpList_store_row rfl 164 _ _ rfl w.heap.size zeroCmd.arr rfl rfl 164 _ HDw98.out.cmd (by kernel_rfl) rfl (by kernel_rfl) ?_)
                  exact bodyPost_ret (v := .tuple #[.agg zeroCmd.arr, .int .i64 4]) (results_cell_tmp rfl _ _ w.heap.size zeroCmd.arr _ _ _ rfl rfl (setRow_heap _ _ _ _ _ _ HDw98.out.cmd) Tryd.underlying164 rfl (by kernel_rfl)) rfl (HN.out _ _ HDEC.out (below_setRow2 HDw98.out.below (Nat.le_refl _)) (by decide))
                | true =>
                  have HCR := Lib.hid hcr
                  clear hcr
                  go_wp2_with (first | (refine wpList_load_row rfl 164 _ rfl w.heap.size rfl 164 _ (0, 0) _ HDw98.out.cmd Tryd.underlying164 rfl (by kernel_rfl) ?_) | (refine wpList_store_row rfl 164 _ _ rfl w.heap.size (Pl.Cmd.arr ⟨kn, y, min (idn : Int) 4611686018427387905, min 0 1073741825, 0, 0, 0, 0, 0⟩) rfl rfl 164 _ HDw98.out.cmd (by kernel_rfl) rfl (by kernel_rfl) ?_))
                  exact bodyPost_ret (v := .tuple #[.agg (Pl.Cmd.arr ⟨kn, y, min (idn : Int) 4611686018427387905, min 0 1073741825, 0, 0, 0, 0, 0⟩), .int .i64 0]) (results_cell_tmp rfl _ _ w.heap.size (Pl.Cmd.arr ⟨kn, y, min (idn : Int) 4611686018427387905, min 0 1073741825, 0, 0, 0, 0, 0⟩) _ _ _ rfl rfl (setRow_heap _ _ _ _ _ _ HDw98.out.cmd) Tryd.underlying164 rfl (by kernel_rfl)) rfl (HY.out _ _ (HDEC0.out.trans (if_pos ⟨by trivial, HCR.out⟩)) (below_setRow2 HDw98.out.below (Nat.le_refl _)))
              · have hl9 : (0 : Int) < r9.length := by have := List.length_pos_iff.2 hr9; omega
                have HR9 := Lib.hid hr9
                clear hr9
                have HDEC : Hid (Pl.dec l = none) := HDEC0.out.trans (if_neg (fun h => HR9.out h.1))
                go_wp2_with (refine wpList_store_row rfl 164 _ _ rfl w.heap.size zeroCmd.arr rfl rfl 164 _ HDw10.out.cmd (by kernel_rfl) rfl (by kernel_rfl) ?_)
                exact bodyPost_ret (v := .tuple #[.agg zeroCmd.arr, .int .i64 4]) (results_cell_tmp rfl _ _ w.heap.size zeroCmd.arr _ _ _ rfl rfl (setRow_heap _ _ _ _ _ _ HDw10.out.cmd) Tryd.underlying164 rfl (by kernel_rfl)) rfl (HN.out _ _ HDEC.out (below_setRow2 HDw10.out.below (Nat.le_refl _)) (by decide))
          · skip
            have h1b : ((kn : Int) == 1) = false := by rw [beq_eq_false_iff_ne]; omega
            have h2b : ((kn : Int) == 2) = false := by rw [beq_eq_false_iff_ne]; omega
            have HK1 := Lib.hid hk1
            have HK2 := Lib.hid hk2
            clear hk1 hk2
            have q0 := HDw6.out.cmd.cell 0
            have qp := HDw6.out.ptr.cell 0
            go_wp2_with fail
            clear q0 qp
            refine HDw6.out.one.mono ?_
            rintro e w7 ⟨rfl, HDw7⟩
            clear HDw6
            rcases Ew7 : rdU 1 (some l1) with ⟨y, s2⟩
            rw [Ew7] at HDw7
            have HEw7 := Lib.hid Ew7
            clear Ew7
            simp only at HDw7
            simp only
            have p1 := HDw7.out.cmd.cell 1
            have y1 := HDw7.out.cmd.frozen 1
            have HDw8 : Hid (DecAt w rb b #[.int .i64 kn, .int .i64 y, .int .i64 0, .int .i64 0, .int .i64 0, .int .i64 0, .int .i64 0, .int .i64 0, .int .i64 0] s2 (w7.setCell ⟨w.heap.size, 1, none⟩ (.int .i64 y))) := DecAt.set (o := 1) (x := .int .i64 y) (HDw7.out)
            have qp := HDw8.out.ptr.cell 0
            have q0 := HDw8.out.cmd.cell 0
            go_wp2_with fail
            generalize (w7.setCell ⟨w.heap.size, 1, none⟩ (.int .i64 y)) = w8 at *
            clear HDw7 p1 y1
            clear qp q0
            refine HDw8.out.num.mono ?_
            rintro e w9 ⟨rfl, HDw9⟩
            clear HDw8
            rcases Ew9 : rdNum s2 with ⟨idn, s3⟩
            rw [Ew9] at HDw9
            have HEw9 := Lib.hid Ew9
            clear Ew9
            simp only at HDw9
            simp only
            have q0 := HDw9.out.cmd.cell 0
            have qp := HDw9.out.ptr.cell 0
            go_wp2_with fail
            clear q0 qp
            refine HDw9.out.int.mono ?_
            rintro e w10 ⟨rfl, HDw10⟩
            clear HDw9
            rcases Ew10 : rdU 8 s3 with ⟨pr, s8⟩
            rw [Ew10] at HDw10
            have HEw10 := Lib.hid Ew10
            clear Ew10
            simp only at HDw10
            simp only
            have q0 := HDw10.out.cmd.cell 0
            have qp := HDw10.out.ptr.cell 0
            go_wp2_with fail
            clear q0 qp
            refine HDw10.out.int.mono ?_
            rintro e w11 ⟨rfl, HDw11⟩
            clear HDw10
            rcases Ew11 : rdU 8 s8 with ⟨qt, s9⟩
            rw [Ew11] at HDw11
            have HEw11 := Lib.hid Ew11
            clear Ew11
            simp only at HDw11
            simp only
            have p6 := HDw11.out.cmd.cell 6
            have y6 := HDw11.out.cmd.frozen 6
            have p7 := HDw11.out.cmd.cell 7
            have y7 := HDw11.out.cmd.frozen 7
            have HDw12 : Hid (DecAt w rb b #[.int .i64 kn, .int .i64 y, .int .i64 0, .int .i64 0, .int .i64 0, .int .i64 0, .int .i64 (unzig pr), .int .i64 (unzig qt), .int .i64 0] s9 ((w11.setCell ⟨w.heap.size, 6, none⟩ (.int .i64 (unzig pr))).setCell ⟨w.heap.size, 7, none⟩ (.int .i64 (unzig qt)))) := DecAt.set (o := 7) (x := .int .i64 (unzig qt)) (DecAt.set (o := 6) (x := .int .i64 (unzig pr)) (HDw11.out))
            have qp := HDw12.out.ptr.cell 0
            have q0 := HDw12.out.cmd.cell 0
            go_wp2_with fail
            generalize ((w11.setCell ⟨w.heap.size, 6, none⟩ (.int .i64 (unzig pr))).setCell ⟨w.heap.size, 7, none⟩ (.int .i64 (unzig qt))) = w12 at *
            clear HDw11 p6 y6 p7 y7
            clear qp q0
            rcases s9 with _ | r9
            · refine (ord_Fault_bad b w12 HDw12.out.rdr).mono ?_
              rintro e w9 ⟨f2, rfl, hf2, rfl⟩
              have hf2b : (f2 == 0) = false := by rw [beq_eq_false_iff_ne]; exact hf2
              have HF2 := Lib.hid hf2
              clear hf2
              have HDEC : Hid (Pl.dec l = none) := by show _ = _; unfold Pl.dec decTail; simp only [HEw5.out, HEw7.out, HEw9.out, HEw10.out, HEw11.out]; simp [HK1.out, HK2.out]
              go_wp2_with (refine wpList_store_row rfl 164 _ _ rfl w.heap.size zeroCmd.arr rfl rfl 164 _ HDw12.out.cmd (by kernel_rfl) rfl (by kernel_rfl) ?_)
              exact bodyPost_ret (v := .tuple #[.agg zeroCmd.arr, .int .i64 f2]) (results_cell_tmp rfl _ _ w.heap.size zeroCmd.arr _ _ _ rfl rfl (setRow_heap _ _ _ _ _ _ HDw12.out.cmd) Tryd.underlying164 rfl (by kernel_rfl)) rfl (HN.out _ _ HDEC.out (below_setRow2 HDw12.out.below (Nat.le_refl _)) HF2.out)
            · refine (ord_Fault_ok b r9 w12 HDw12.out.rdr).mono ?_
              rintro e w9 ⟨rfl, rfl⟩
              have p2 := HDw12.out.cmd.cell 2
              have y2 := HDw12.out.cmd.frozen 2
              have p3 := HDw12.out.cmd.cell 3
              have y3 := HDw12.out.cmd.frozen 3
              have HDw13 : Hid (DecAt w rb b #[.int .i64 kn, .int .i64 y, .int .i64 (min (idn : Int) 4611686018427387905), .int .i64 (min 0 1073741825), .int .i64 0, .int .i64 0, .int .i64 (unzig pr), .int .i64 (unzig qt), .int .i64 0] (some r9) ((w12.setCell ⟨w.heap.size, 2, none⟩ (.int .i64 (min (idn : Int) 4611686018427387905))).setCell ⟨w.heap.size, 3, none⟩ (.int .i64 (min 0 1073741825)))) := DecAt.set (o := 3) (x := .int .i64 (min 0 1073741825)) (DecAt.set (o := 2) (x := .int .i64 (min (idn : Int) 4611686018427387905)) (HDw12.out))
              have qp := HDw13.out.ptr.cell 0
              have q0 := HDw13.out.cmd.cell 0
              go_wp2_with fail
              generalize ((w12.setCell ⟨w.heap.size, 2, none⟩ (.int .i64 (min (idn : Int) 4611686018427387905))).setCell ⟨w.heap.size, 3, none⟩ (.int .i64 (min 0 1073741825))) = w13 at *
              clear HDw12 p2 y2 p3 y3
              clear qp q0
              have HDEC0 : Hid (Pl.dec l = if r9 = [] ∧ Pl.cmdRight ⟨kn, y, min (idn : Int) 4611686018427387905, min 0 1073741825, 0, 0, unzig pr, unzig qt, 0⟩ = true then some ⟨kn, y, min (idn : Int) 4611686018427387905, min 0 1073741825, 0, 0, unzig pr, unzig qt, 0⟩ else none) := by
                show _ = _
                unfold Pl.dec
                simp only [HEw5.out]
                rw [if_neg (fun h => HKN.out h.2)]
                simp only [HEw7.out]
                rw [decTail_three HK1.out HK2.out]
                simp only [HEw9.out, HEw10.out, HEw11.out]
                try rfl
              refine (ord_Left b r9 w13 HDw13.out.rdr).mono ?_
              rintro e w99 ⟨rfl, rfl⟩
              by_cases hr9 : r9 = []
              · subst hr9
                go_wp2_with (first | (refine wpList_load_row_w (by simp [Region.wanted, yielded, go_sem]) 164 _ rfl w.heap.size rfl 164 _ (0, 0) _ HDw13.out.cmd Tryd.underlying164 rfl (by kernel_rfl) ?_) | fail)
                refine (command_Right ⟨kn, y, min (idn : Int) 4611686018427387905, min 0 1073741825, 0, 0, unzig pr, unzig qt, 0⟩ w13).mono ?_
                rintro e w98 ⟨rfl, hb98⟩
                have HDw98 : Hid (DecAt w rb b _ _ w98) := HDw13.out.quiet hb98
                clear hb98
                cases hcr : Pl.cmdRight ⟨kn, y, min (idn : Int) 4611686018427387905, min 0 1073741825, 0, 0, unzig pr, unzig qt, 0⟩ with
                | false =>
                  have HCR := Lib.hid hcr
                  clear hcr
                  have HDEC : Hid (Pl.dec l = none) := HDEC0.out.trans (if_neg (fun h => by have := HCR.out; rw [h.2] at this; cases this))
                  go_wp2_with (refine wpList_store_row rfl 164 _ _ rfl w.heap.size zeroCmd.arr rfl rfl 164 _ HDw98.out.cmd (by kernel_rfl) rfl (by kernel_rfl) ?_)
                  exact bodyPost_ret (v := .tuple #[.agg zeroCmd.arr, .int .i64 4]) (results_cell_tmp rfl _ _ w.heap.size zeroCmd.arr _ _ _ rfl rfl (setRow_heap _ _ _ _ _ _ HDw98.out.cmd) Tryd.underlying164 rfl (by kernel_rfl)) rfl (HN.out _ _ HDEC.out (below_setRow2 HDw98.out.below (Nat.le_refl _)) (by decide))
                | true =>
                  have HCR := Lib.hid hcr
                  clear hcr
                  go_wp2_with (first | (refine wpList_load_row rfl 164 _ rfl w.heap.size rfl 164 _ (0, 0) _ HDw98.out.cmd Tryd.underlying164 rfl (by kernel_rfl) ?_) | (refine wpList_store_row rfl 164 _ _ rfl w.heap.size (Pl.Cmd.arr ⟨kn, y, min (idn : Int) 4611686018427387905, min 0 1073741825, 0, 0, unzig pr, unzig qt, 0⟩) rfl rfl 164 _ HDw98.out.cmd (by kernel_rfl) rfl (by kernel_rfl) ?_))
                  exact bodyPost_ret (v := .tuple #[.agg (Pl.Cmd.arr ⟨kn, y, min (idn : Int) 4611686018427387905, min 0 1073741825, 0, 0, unzig pr, unzig qt, 0⟩), .int .i64 0]) (results_cell_tmp rfl _ _ w.heap.size (Pl.Cmd.arr ⟨kn, y, min (idn : Int) 4611686018427387905, min 0 1073741825, 0, 0, unzig pr, unzig qt, 0⟩) _ _ _ rfl rfl (setRow_heap _ _ _ _ _ _ HDw98.out.cmd) Tryd.underlying164 rfl (by kernel_rfl)) rfl (HY.out _ _ (HDEC0.out.trans (if_pos ⟨by trivial, HCR.out⟩)) (below_setRow2 HDw98.out.below (Nat.le_refl _)))
              · have hl9 : (0 : Int) < r9.length := by have := List.length_pos_iff.2 hr9; omega
                have HR9 := Lib.hid hr9
                clear hr9
                have HDEC : Hid (Pl.dec l = none) := HDEC0.out.trans (if_neg (fun h => HR9.out h.1))
                go_wp2_with (refine wpList_store_row rfl 164 _ _ rfl w.heap.size zeroCmd.arr rfl rfl 164 _ HDw13.out.cmd (by kernel_rfl) rfl (by kernel_rfl) ?_)
                exact bodyPost_ret (v := .tuple #[.agg zeroCmd.arr, .int .i64 4]) (results_cell_tmp rfl _ _ w.heap.size zeroCmd.arr _ _ _ rfl rfl (setRow_heap _ _ _ _ _ _ HDw13.out.cmd) Tryd.underlying164 rfl (by kernel_rfl)) rfl (HN.out _ _ HDEC.out (below_setRow2 HDw13.out.below (Nat.le_refl _)) (by decide))

end Go.Proofs.YtbcepdacfmbekaaDoor
