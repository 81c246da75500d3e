/-
  The walks of the reference's Line and Parse of messages (package damperref36).
-/
import Derived.Test.YtbcepdacfmbekaaDoorKRpP
import Derived.Test.YtbcepdacfmbekaaDoorKMtx
import Derived.Test.YtbcepdacfmbekaaDoorKRNum
namespace Go.Proofs.YtbcepdacfmbekaaDoor
open Go.RowKit

/-- The text of the first words. -/
def sofar (m : Pl.Msg) : Nat → List UInt8
  | 0 => []
  | 1 => Pl.decimal m.seq
  | 2 => (Pl.decimal m.seq ++ [32] ++ Pl.decimal m.tick)
  | 3 => ((Pl.decimal m.seq ++ [32] ++ Pl.decimal m.tick) ++ [32] ++ Pl.decimal m.sym)
  | 4 => (((Pl.decimal m.seq ++ [32] ++ Pl.decimal m.tick) ++ [32] ++ Pl.decimal m.sym) ++ [32] ++ Pl.kword m.kind)
  | 5 => ((((Pl.decimal m.seq ++ [32] ++ Pl.decimal m.tick) ++ [32] ++ Pl.decimal m.sym) ++ [32] ++ Pl.kword m.kind) ++ [32] ++ Pl.decimal m.id)
  | 6 => (((((Pl.decimal m.seq ++ [32] ++ Pl.decimal m.tick) ++ [32] ++ Pl.decimal m.sym) ++ [32] ++ Pl.kword m.kind) ++ [32] ++ Pl.decimal m.id) ++ [32] ++ Pl.decimal m.wth)
  | 7 => ((((((Pl.decimal m.seq ++ [32] ++ Pl.decimal m.tick) ++ [32] ++ Pl.decimal m.sym) ++ [32] ++ Pl.kword m.kind) ++ [32] ++ Pl.decimal m.id) ++ [32] ++ Pl.decimal m.wth) ++ [32] ++ Pl.decimal m.price)
  | 8 => (((((((Pl.decimal m.seq ++ [32] ++ Pl.decimal m.tick) ++ [32] ++ Pl.decimal m.sym) ++ [32] ++ Pl.kword m.kind) ++ [32] ++ Pl.decimal m.id) ++ [32] ++ Pl.decimal m.wth) ++ [32] ++ Pl.decimal m.price) ++ [32] ++ Pl.decimal m.qty)
  | 9 => ((((((((Pl.decimal m.seq ++ [32] ++ Pl.decimal m.tick) ++ [32] ++ Pl.decimal m.sym) ++ [32] ++ Pl.kword m.kind) ++ [32] ++ Pl.decimal m.id) ++ [32] ++ Pl.decimal m.wth) ++ [32] ++ Pl.decimal m.price) ++ [32] ++ Pl.decimal m.qty) ++ [32] ++ Pl.decimal m.code)
  | _ => []
def sps (m : Pl.Msg) (k : Nat) : List UInt8 := sofar m k ++ [32]
theorem sofar_nine (m : Pl.Msg) : sofar m 9 = Pl.mtext m := by
  simp [sofar, Pl.mtext, Pl.mwords, Lib.join_cons, Lib.joinTail]
structure MsgInS (m : Pl.Msg) : Prop where
  kind : Pl.in64 m.kind
  sym : Pl.in64 m.sym
  seq : Pl.in64 m.seq
  tick : Pl.in64 m.tick
  id : Pl.in64 m.id
  wth : Pl.in64 m.wth
  price : Pl.in64 m.price
  qty : Pl.in64 m.qty
  code : Pl.in64 m.code
structure MLen (m : Pl.Msg) : Prop where
  kind : (Pl.kword m.kind).length ≤ 300
  sym : (Pl.decimal m.sym).length ≤ 300
  seq : (Pl.decimal m.seq).length ≤ 300
  tick : (Pl.decimal m.tick).length ≤ 300
  id : (Pl.decimal m.id).length ≤ 300
  wth : (Pl.decimal m.wth).length ≤ 300
  price : (Pl.decimal m.price).length ≤ 300
  qty : (Pl.decimal m.qty).length ≤ 300
  code : (Pl.decimal m.code).length ≤ 300
  sofar : ∀ k, (sofar m k).length ≤ 250
  sps : ∀ k, (sps m k).length ≤ 300
theorem sps_len {m : Pl.Msg} (h : ∀ k, (sofar m k).length ≤ 250) (k : Nat) : (sps m k).length ≤ 300 := by
  unfold sps
  have := h k
  simp; omega
theorem MLen.of {m : Pl.Msg} (h : Pl.MsgIn m) : MLen m := by
  obtain ⟨h0, h1, h2, h3, h4, h5, h6, h7, h8⟩ := h
  have k : (Pl.kword m.kind).length ≤ 8 := by
    unfold Pl.kword
    split
    · simp
    · have h : ∀ n : Nat, n < 10 → (Pl.kindWords.getD n []).length ≤ 8 := by decide
      exact h _ (by omega)
  have a1 := Pl.decimal_length h1.1 h1.2
  have a2 := Pl.decimal_length h2.1 h2.2
  have a3 := Pl.decimal_length h3.1 h3.2
  have a4 := Pl.decimal_length h4.1 h4.2
  have a5 := Pl.decimal_length h5.1 h5.2
  have a6 := Pl.decimal_length h6.1 h6.2
  have a7 := Pl.decimal_length h7.1 h7.2
  have a8 := Pl.decimal_length h8.1 h8.2
  refine (fun hs : ∀ k, (_root_.Go.Proofs.YtbcepdacfmbekaaDoor.sofar m k).length ≤ 250 => ⟨by omega, by omega, by omega, by omega, by omega, by omega, by omega, by omega, by omega, hs, sps_len hs⟩) (fun k => ?_)
  match k with
  | 0 | 1 | 2 | 3 | 4 | 5 | 6 | 7 | 8 | 9 => simp [_root_.Go.Proofs.YtbcepdacfmbekaaDoor.sofar]; try omega
  | _ + 10 => simp [_root_.Go.Proofs.YtbcepdacfmbekaaDoor.sofar]
theorem MsgInS.of {m : Pl.Msg} (h : Pl.MsgIn m) : MsgInS m := by
  obtain ⟨h0, h1, h2, h3, h4, h5, h6, h7, h8⟩ := h
  exact ⟨h0, h1, h2, h3, h4, h5, h6, h7, h8⟩
def mlnV (wz : Nat) (m : Pl.Msg) (d : Nat) : Value → World → Prop :=
  match d with
  | 7 => fun v _ => v = .pointer (some ⟨wz, 2, none⟩)
  | 8 => fun v _ => v = .int .i64 m.seq
  | 9 => fun v _ => v = .string ⟨(Pl.decimal m.seq).toArray⟩
  | 10 => fun v _ => v = .string ⟨(sps m 1).toArray⟩
  | 11 => fun v _ => v = .pointer (some ⟨wz, 3, none⟩)
  | 12 => fun v _ => v = .int .i64 m.tick
  | 13 => fun v _ => v = .string ⟨(Pl.decimal m.tick).toArray⟩
  | 14 => fun v _ => v = .string ⟨(sofar m 2).toArray⟩
  | 15 => fun v _ => v = .string ⟨(sps m 2).toArray⟩
  | 16 => fun v _ => v = .pointer (some ⟨wz, 1, none⟩)
  | 17 => fun v _ => v = .int .i64 m.sym
  | 18 => fun v _ => v = .string ⟨(Pl.decimal m.sym).toArray⟩
  | 19 => fun v _ => v = .string ⟨(sofar m 3).toArray⟩
  | 20 => fun v _ => v = .string ⟨(sps m 3).toArray⟩
  | 21 => fun v _ => v = .pointer (some ⟨wz, 0, none⟩)
  | 22 => fun v _ => v = .int .i64 m.kind
  | 23 => fun v _ => v = .string ⟨(Pl.kword m.kind).toArray⟩
  | 24 => fun v _ => v = .string ⟨(sofar m 4).toArray⟩
  | 25 => fun v _ => v = .string ⟨(sps m 4).toArray⟩
  | 26 => fun v _ => v = .pointer (some ⟨wz, 4, none⟩)
  | 27 => fun v _ => v = .int .i64 m.id
  | 28 => fun v _ => v = .string ⟨(Pl.decimal m.id).toArray⟩
  | 29 => fun v _ => v = .string ⟨(sofar m 5).toArray⟩
  | 30 => fun v _ => v = .string ⟨(sps m 5).toArray⟩
  | 31 => fun v _ => v = .pointer (some ⟨wz, 5, none⟩)
  | 32 => fun v _ => v = .int .i64 m.wth
  | 33 => fun v _ => v = .string ⟨(Pl.decimal m.wth).toArray⟩
  | 34 => fun v _ => v = .string ⟨(sofar m 6).toArray⟩
  | 35 => fun v _ => v = .string ⟨(sps m 6).toArray⟩
  | 36 => fun v _ => v = .pointer (some ⟨wz, 6, none⟩)
  | 37 => fun v _ => v = .int .i64 m.price
  | 38 => fun v _ => v = .string ⟨(Pl.decimal m.price).toArray⟩
  | 39 => fun v _ => v = .string ⟨(sofar m 7).toArray⟩
  | 40 => fun v _ => v = .string ⟨(sps m 7).toArray⟩
  | 41 => fun v _ => v = .pointer (some ⟨wz, 7, none⟩)
  | 42 => fun v _ => v = .int .i64 m.qty
  | 43 => fun v _ => v = .string ⟨(Pl.decimal m.qty).toArray⟩
  | 44 => fun v _ => v = .string ⟨(sofar m 8).toArray⟩
  | 45 => fun v _ => v = .string ⟨(sps m 8).toArray⟩
  | 46 => fun v _ => v = .pointer (some ⟨wz, 8, none⟩)
  | 47 => fun v _ => v = .int .i64 m.code
  | 48 => fun v _ => v = .string ⟨(Pl.decimal m.code).toArray⟩
  | 49 => fun v _ => v = .string ⟨(sofar m 9).toArray⟩
  | 2 => fun v _ => v = .string ⟨(sofar m 9).toArray⟩
  | 3 => fun v _ => v = .int .i64 0
  | _ => fun _ _ => True
theorem mlnV_mono (wz : Nat) (m : Pl.Msg) (d : Nat) (v : Value) (w w' : World) (_ : Below w.heap.size w w') (h : mlnV wz m d v w) : mlnV wz m d v w' := by
  unfold mlnV at h ⊢
  split at h
  all_goals exact h

set_option maxHeartbeats 4000000 in
set_option maxRecDepth 100000 in
theorem ref36_Line (m : Pl.Msg) (hm : Pl.MsgIn m) (w : World) : Calls Tryd.prog 43 #[.agg m.arr] w (MLinePost m w) := by
  have HNO := Lib.hid (fun w' => @MLinePost.no m w w')
  have HYES := Lib.hid (fun w' => @MLinePost.yes m w w')
  have HIN := Lib.hid (MsgInS.of hm)
  have HLN := Lib.hid (MLen.of hm)
  have HB0 : Hid (Below w.heap.size w (w.alloc (.cells m.arr 62))) := (Below.refl _ _).alloc (Nat.le_refl _) _
  have HK0 : Hid (Blk (w.alloc (.cells m.arr 62)) w.heap.size m.arr 62) := Blk.alloc _ _
  have hs0 : (w.alloc (.cells m.arr 62)).heap.size = w.heap.size + 1 := World.size_alloc _ _
  clear hm
  go_enter Tryd.func43, Tryd.ntmps43
  go_wp2_with (first | (refine wpList_load_row rfl 62 _ rfl w.heap.size rfl 62 m.arr (0, 0) _ HK0.out Tryd.underlying62 rfl (by kernel_rfl) ?_) | fail)
  generalize w.alloc (.cells m.arr 62) = w0 at *
  refine (ref06_Right m w0).mono ?_
  rintro e w1 ⟨rfl, hb1⟩
  have HB1 : Hid (Below w.heap.size w w1) := HB0.out.trans (hb1.mono (by omega))
  have HK1 : Hid (Blk w1 w.heap.size m.arr 62) := HK0.out.below (by omega) hb1
  have hs1 := HK1.out.lt
  clear hb1 HB0 HK0 hs0
  cases hr : Pl.msgRight m with
  | false =>
    have HR := Lib.hid hr
    clear hr
    go_wp2_with fail
    go_ret2
    exact HNO.out _ HR.out HB1.out
  | true =>
    have HR := Lib.hid hr
    clear hr
    go_wp2_with fail
    refine wp_region_vals (by kernel_rfl) (n := 50) rfl (by kernel_rfl) (by kernel_rfl) [[], [7], [8], [9], [], [11], [12, 9], [10, 13], [14], [], [16], [17, 13], [15, 18], [19], [], [21], [22, 18], [20, 23], [24], [], [26], [27, 23], [25, 28], [29], [], [31], [32, 28], [30, 33], [34], [], [36], [37, 33], [35, 38], [39], [], [41], [42, 38], [40, 43], [44], [], [46], [47, 43], [45, 48], [49, 48, 7, 8, 9, 10, 11, 12, 13, 14, 15, 16, 17, 18, 19, 20, 21, 22, 23, 24, 25, 26, 27, 28, 29, 30, 31, 32, 33, 34, 35, 36, 37, 38, 39, 40, 41, 42, 43, 44, 45, 46, 47, 48, 49], [2, 7, 8, 9, 10, 11, 12, 13, 14, 15, 16, 17, 18, 19, 20, 21, 22, 23, 24, 25, 26, 27, 28, 29, 30, 31, 32, 33, 34, 35, 36, 37, 38, 39, 40, 41, 42, 43, 44, 45, 46, 47, 48, 49, 2]] (by kernel_rfl) [7, 8, 9, 10, 11, 12, 13, 14, 15, 16, 17, 18, 19, 20, 21, 22, 23, 24, 25, 26, 27, 28, 29, 30, 31, 32, 33, 34, 35, 36, 37, 38, 39, 40, 41, 42, 43, 44, 45, 46, 47, 48, 49, 2, 3] (by kernel_rfl) [1] (by kernel_rfl) (mlnV w.heap.size m) (fun w' => Below w1.heap.size w1 w') (fun w w' => Below w.heap.size w w') (mlnV_mono w.heap.size m) (Below.refl _ _).drew ?_ ?_
    · simp only [AllSteps]
      refine ⟨?_, ?_, ?_, ?_, ?_, ?_, ?_, ?_, ?_, ?_, ?_, ?_, ?_, ?_, ?_, ?_, ?_, ?_, ?_, ?_, ?_, ?_, ?_, ?_, ?_, ?_, ?_, ?_, ?_, ?_, ?_, ?_, ?_, ?_, ?_, ?_, ?_, ?_, ?_, ?_, ?_, ?_, ?_, ?_, ?_, trivial⟩
      all_goals (intro a' w' hI hd0 hnw hds K hK; clear hd0)
      all_goals (have h1 : a'.tmps.getD 1 undef = .pointer (some ⟨w.heap.size, 0, none⟩) := hnw 1 (by simp); clear hnw)
      · go_simp
        exact hK _ _ (fun d hd => by cases hd; rfl) hI (Below.refl _ _)
      · have h7 := getD_form (show a'.tmps.getD 7 undef = .pointer (some ⟨w.heap.size, 2, none⟩) from hds 7 (by simp))
        have hcl : w'.cell? ⟨w.heap.size, 2, none⟩ = some (.int .i64 m.seq) := (HK1.out.below hs1 hI).cell 2
        go_simp
        exact hK _ _ (fun d hd => by cases hd; rfl) hI (Below.refl _ _)
      · have h8 := getD_form (show a'.tmps.getD 8 undef = .int .i64 m.seq from hds 8 (by simp))
        go_simp
        refine (ref36_text m.seq (HIN.out.seq).1 (HIN.out.seq).2 w').mono ?_
        rintro e w5 ⟨rfl, hb5⟩
        exact hK _ w5 (fun d hd => by cases hd; rfl) (hI.trans (hb5.mono hI.size)) hb5
      · have h9 := getD_form (show a'.tmps.getD 9 undef = .string ⟨(Pl.decimal m.seq).toArray⟩ from hds 9 (by simp))
        have e : (⟨(Pl.decimal m.seq).toArray⟩ : ByteArray) ++ ⟨#[32]⟩ = ⟨(sps m 1).toArray⟩ := ba_append (Pl.decimal m.seq) ([32])
        have hA : (Pl.decimal m.seq).length ≤ 300 := HLN.out.seq
        generalize Pl.decimal m.seq = A at *
        have hnl : (9223372036854775807 < A.length + 1) = False := eq_false (by omega)
        generalize hres : sps m 1 = R at *
        have HRES := Lib.hid hres
        clear hres
        go_simp
        exact hK _ _ (fun d hd => by cases hd; show _ = _; rw [HRES.out]) hI (Below.refl _ _)
      · go_simp
        exact hK _ _ (fun d hd => by cases hd; rfl) hI (Below.refl _ _)
      · have h11 := getD_form (show a'.tmps.getD 11 undef = .pointer (some ⟨w.heap.size, 3, none⟩) from hds 11 (by simp))
        have hcl : w'.cell? ⟨w.heap.size, 3, none⟩ = some (.int .i64 m.tick) := (HK1.out.below hs1 hI).cell 3
        go_simp
        exact hK _ _ (fun d hd => by cases hd; rfl) hI (Below.refl _ _)
      · have h12 := getD_form (show a'.tmps.getD 12 undef = .int .i64 m.tick from hds 12 (by simp))
        go_simp
        refine (ref36_text m.tick (HIN.out.tick).1 (HIN.out.tick).2 w').mono ?_
        rintro e w5 ⟨rfl, hb5⟩
        exact hK _ w5 (fun d hd => by cases hd; rfl) (hI.trans (hb5.mono hI.size)) hb5
      · have h10 := getD_form (show a'.tmps.getD 10 undef = .string ⟨(sps m 1).toArray⟩ from hds 10 (by simp))
        have h13 := getD_form (show a'.tmps.getD 13 undef = .string ⟨(Pl.decimal m.tick).toArray⟩ from hds 13 (by simp))
        have e : (⟨(sps m 1).toArray⟩ : ByteArray) ++ ⟨(Pl.decimal m.tick).toArray⟩ = ⟨(sofar m 2).toArray⟩ := ba_append (sps m 1) (Pl.decimal m.tick)
        have hA : (sps m 1).length ≤ 300 := HLN.out.sps _
        have hB : (Pl.decimal m.tick).length ≤ 300 := HLN.out.tick
        generalize sps m 1 = A at *
        generalize Pl.decimal m.tick = B at *
        have hnl : (9223372036854775807 < A.length + B.length) = False := eq_false (by omega)
        generalize hres : sofar m 2 = R at *
        have HRES := Lib.hid hres
        clear hres
        go_simp
        exact hK _ _ (fun d hd => by cases hd; show _ = _; rw [HRES.out]) hI (Below.refl _ _)
      · have h14 := getD_form (show a'.tmps.getD 14 undef = .string ⟨(sofar m 2).toArray⟩ from hds 14 (by simp))
        have e : (⟨(sofar m 2).toArray⟩ : ByteArray) ++ ⟨#[32]⟩ = ⟨(sps m 2).toArray⟩ := ba_append (sofar m 2) ([32])
        have hA : (sofar m 2).length ≤ 300 := Nat.le_trans (HLN.out.sofar _) (by decide)
        generalize sofar m 2 = A at *
        have hnl : (9223372036854775807 < A.length + 1) = False := eq_false (by omega)
        generalize hres : sps m 2 = R at *
        have HRES := Lib.hid hres
        clear hres
        go_simp
        exact hK _ _ (fun d hd => by cases hd; show _ = _; rw [HRES.out]) hI (Below.refl _ _)
      · go_simp
        exact hK _ _ (fun d hd => by cases hd; rfl) hI (Below.refl _ _)
      · have h16 := getD_form (show a'.tmps.getD 16 undef = .pointer (some ⟨w.heap.size, 1, none⟩) from hds 16 (by simp))
        have hcl : w'.cell? ⟨w.heap.size, 1, none⟩ = some (.int .i64 m.sym) := (HK1.out.below hs1 hI).cell 1
        go_simp
        exact hK _ _ (fun d hd => by cases hd; rfl) hI (Below.refl _ _)
      · have h17 := getD_form (show a'.tmps.getD 17 undef = .int .i64 m.sym from hds 17 (by simp))
        go_simp
        refine (ref36_text m.sym (HIN.out.sym).1 (HIN.out.sym).2 w').mono ?_
        rintro e w5 ⟨rfl, hb5⟩
        exact hK _ w5 (fun d hd => by cases hd; rfl) (hI.trans (hb5.mono hI.size)) hb5
      · have h15 := getD_form (show a'.tmps.getD 15 undef = .string ⟨(sps m 2).toArray⟩ from hds 15 (by simp))
        have h18 := getD_form (show a'.tmps.getD 18 undef = .string ⟨(Pl.decimal m.sym).toArray⟩ from hds 18 (by simp))
        have e : (⟨(sps m 2).toArray⟩ : ByteArray) ++ ⟨(Pl.decimal m.sym).toArray⟩ = ⟨(sofar m 3).toArray⟩ := ba_append (sps m 2) (Pl.decimal m.sym)
        have hA : (sps m 2).length ≤ 300 := HLN.out.sps _
        have hB : (Pl.decimal m.sym).length ≤ 300 := HLN.out.sym
        generalize sps m 2 = A at *
        generalize Pl.decimal m.sym = B at *
        have hnl : (9223372036854775807 < A.length + B.length) = False := eq_false (by omega)
        generalize hres : sofar m 3 = R at *
        have HRES := Lib.hid hres
        clear hres
        go_simp
        exact hK _ _ (fun d hd => by cases hd; show _ = _; rw [HRES.out]) hI (Below.refl _ _)
      · have h19 := getD_form (show a'.tmps.getD 19 undef = .string ⟨(sofar m 3).toArray⟩ from hds 19 (by simp))
        have e : (⟨(sofar m 3).toArray⟩ : ByteArray) ++ ⟨#[32]⟩ = ⟨(sps m 3).toArray⟩ := ba_append (sofar m 3) ([32])
        have hA : (sofar m 3).length ≤ 300 := Nat.le_trans (HLN.out.sofar _) (by decide)
        generalize sofar m 3 = A at *
        have hnl : (9223372036854775807 < A.length + 1) = False := eq_false (by omega)
        generalize hres : sps m 3 = R at *
        have HRES := Lib.hid hres
        clear hres
        go_simp
        exact hK _ _ (fun d hd => by cases hd; show _ = _; rw [HRES.out]) hI (Below.refl _ _)
      · go_simp
        exact hK _ _ (fun d hd => by cases hd; rfl) hI (Below.refl _ _)
      · have h21 := getD_form (show a'.tmps.getD 21 undef = .pointer (some ⟨w.heap.size, 0, none⟩) from hds 21 (by simp))
        have hcl : w'.cell? ⟨w.heap.size, 0, none⟩ = some (.int .i64 m.kind) := (HK1.out.below hs1 hI).cell 0
        go_simp
        exact hK _ _ (fun d hd => by cases hd; rfl) hI (Below.refl _ _)
      · have h22 := getD_form (show a'.tmps.getD 22 undef = .int .i64 m.kind from hds 22 (by simp))
        go_simp
        refine (ref36_Word m.kind w').mono ?_
        rintro e w5 ⟨rfl, hb5⟩
        exact hK _ w5 (fun d hd => by cases hd; rfl) (hI.trans (hb5.mono hI.size)) hb5
      · have h20 := getD_form (show a'.tmps.getD 20 undef = .string ⟨(sps m 3).toArray⟩ from hds 20 (by simp))
        have h23 := getD_form (show a'.tmps.getD 23 undef = .string ⟨(Pl.kword m.kind).toArray⟩ from hds 23 (by simp))
        have e : (⟨(sps m 3).toArray⟩ : ByteArray) ++ ⟨(Pl.kword m.kind).toArray⟩ = ⟨(sofar m 4).toArray⟩ := ba_append (sps m 3) (Pl.kword m.kind)
        have hA : (sps m 3).length ≤ 300 := HLN.out.sps _
        have hB : (Pl.kword m.kind).length ≤ 300 := HLN.out.kind
        generalize sps m 3 = A at *
        generalize Pl.kword m.kind = B at *
        have hnl : (9223372036854775807 < A.length + B.length) = False := eq_false (by omega)
        generalize hres : sofar m 4 = R at *
        have HRES := Lib.hid hres
        clear hres
        go_simp
        exact hK _ _ (fun d hd => by cases hd; show _ = _; rw [HRES.out]) hI (Below.refl _ _)
      · have h24 := getD_form (show a'.tmps.getD 24 undef = .string ⟨(sofar m 4).toArray⟩ from hds 24 (by simp))
        have e : (⟨(sofar m 4).toArray⟩ : ByteArray) ++ ⟨#[32]⟩ = ⟨(sps m 4).toArray⟩ := ba_append (sofar m 4) ([32])
        have hA : (sofar m 4).length ≤ 300 := Nat.le_trans (HLN.out.sofar _) (by decide)
        generalize sofar m 4 = A at *
        have hnl : (9223372036854775807 < A.length + 1) = False := eq_false (by omega)
        generalize hres : sps m 4 = R at *
        have HRES := Lib.hid hres
        clear hres
        go_simp
        exact hK _ _ (fun d hd => by cases hd; show _ = _; rw [HRES.out]) hI (Below.refl _ _)
      · go_simp
        exact hK _ _ (fun d hd => by cases hd; rfl) hI (Below.refl _ _)
      · have h26 := getD_form (show a'.tmps.getD 26 undef = .pointer (some ⟨w.heap.size, 4, none⟩) from hds 26 (by simp))
        have hcl : w'.cell? ⟨w.heap.size, 4, none⟩ = some (.int .i64 m.id) := (HK1.out.below hs1 hI).cell 4
        go_simp
        exact hK _ _ (fun d hd => by cases hd; rfl) hI (Below.refl _ _)
      · have h27 := getD_form (show a'.tmps.getD 27 undef = .int .i64 m.id from hds 27 (by simp))
        go_simp
        refine (ref36_text m.id (HIN.out.id).1 (HIN.out.id).2 w').mono ?_
        rintro e w5 ⟨rfl, hb5⟩
        exact hK _ w5 (fun d hd => by cases hd; rfl) (hI.trans (hb5.mono hI.size)) hb5
      · have h25 := getD_form (show a'.tmps.getD 25 undef = .string ⟨(sps m 4).toArray⟩ from hds 25 (by simp))
        have h28 := getD_form (show a'.tmps.getD 28 undef = .string ⟨(Pl.decimal m.id).toArray⟩ from hds 28 (by simp))
        have e : (⟨(sps m 4).toArray⟩ : ByteArray) ++ ⟨(Pl.decimal m.id).toArray⟩ = ⟨(sofar m 5).toArray⟩ := ba_append (sps m 4) (Pl.decimal m.id)
        have hA : (sps m 4).length ≤ 300 := HLN.out.sps _
        have hB : (Pl.decimal m.id).length ≤ 300 := HLN.out.id
        generalize sps m 4 = A at *
        generalize Pl.decimal m.id = B at *
        have hnl : (9223372036854775807 < A.length + B.length) = False := eq_false (by omega)
        generalize hres : sofar m 5 = R at *
        have HRES := Lib.hid hres
        clear hres
        go_simp
        exact hK _ _ (fun d hd => by cases hd; show _ = _; rw [HRES.out]) hI (Below.refl _ _)
      · have h29 := getD_form (show a'.tmps.getD 29 undef = .string ⟨(sofar m 5).toArray⟩ from hds 29 (by simp))
        have e : (⟨(sofar m 5).toArray⟩ : ByteArray) ++ ⟨#[32]⟩ = ⟨(sps m 5).toArray⟩ := ba_append (sofar m 5) ([32])
        have hA : (sofar m 5).length ≤ 300 := Nat.le_trans (HLN.out.sofar _) (by decide)
        generalize sofar m 5 = A at *
        have hnl : (9223372036854775807 < A.length + 1) = False := eq_false (by omega)
        generalize hres : sps m 5 = R at *
        have HRES := Lib.hid hres
        clear hres
        go_simp
        exact hK _ _ (fun d hd => by cases hd; show _ = _; rw [HRES.out]) hI (Below.refl _ _)
      · go_simp
        exact hK _ _ (fun d hd => by cases hd; rfl) hI (Below.refl _ _)
      · have h31 := getD_form (show a'.tmps.getD 31 undef = .pointer (some ⟨w.heap.size, 5, none⟩) from hds 31 (by simp))
        have hcl : w'.cell? ⟨w.heap.size, 5, none⟩ = some (.int .i64 m.wth) := (HK1.out.below hs1 hI).cell 5
        go_simp
        exact hK _ _ (fun d hd => by cases hd; rfl) hI (Below.refl _ _)
      · have h32 := getD_form (show a'.tmps.getD 32 undef = .int .i64 m.wth from hds 32 (by simp))
        go_simp
        refine (ref36_text m.wth (HIN.out.wth).1 (HIN.out.wth).2 w').mono ?_
        rintro e w5 ⟨rfl, hb5⟩
        exact hK _ w5 (fun d hd => by cases hd; rfl) (hI.trans (hb5.mono hI.size)) hb5
      · have h30 := getD_form (show a'.tmps.getD 30 undef = .string ⟨(sps m 5).toArray⟩ from hds 30 (by simp))
        have h33 := getD_form (show a'.tmps.getD 33 undef = .string ⟨(Pl.decimal m.wth).toArray⟩ from hds 33 (by simp))
        have e : (⟨(sps m 5).toArray⟩ : ByteArray) ++ ⟨(Pl.decimal m.wth).toArray⟩ = ⟨(sofar m 6).toArray⟩ := ba_append (sps m 5) (Pl.decimal m.wth)
        have hA : (sps m 5).length ≤ 300 := HLN.out.sps _
        have hB : (Pl.decimal m.wth).length ≤ 300 := HLN.out.wth
        generalize sps m 5 = A at *
        generalize Pl.decimal m.wth = B at *
        have hnl : (9223372036854775807 < A.length + B.length) = False := eq_false (by omega)
        generalize hres : sofar m 6 = R at *
        have HRES := Lib.hid hres
        clear hres
        go_simp
        exact hK _ _ (fun d hd => by cases hd; show _ = _; rw [HRES.out]) hI (Below.refl _ _)
      · have h34 := getD_form (show a'.tmps.getD 34 undef = .string ⟨(sofar m 6).toArray⟩ from hds 34 (by simp))
        have e : (⟨(sofar m 6).toArray⟩ : ByteArray) ++ ⟨#[32]⟩ = ⟨(sps m 6).toArray⟩ := ba_append (sofar m 6) ([32])
        have hA : (sofar m 6).length ≤ 300 := Nat.le_trans (HLN.out.sofar _) (by decide)
        generalize sofar m 6 = A at *
        have hnl : (9223372036854775807 < A.length + 1) = False := eq_false (by omega)
        generalize hres : sps m 6 = R at *
        have HRES := Lib.hid hres
        clear hres
        go_simp
        exact hK _ _ (fun d hd => by cases hd; show _ = _; rw [HRES.out]) hI (Below.refl _ _)
      · go_simp
        exact hK _ _ (fun d hd => by cases hd; rfl) hI (Below.refl _ _)
      · have h36 := getD_form (show a'.tmps.getD 36 undef = .pointer (some ⟨w.heap.size, 6, none⟩) from hds 36 (by simp))
        have hcl : w'.cell? ⟨w.heap.size, 6, none⟩ = some (.int .i64 m.price) := (HK1.out.below hs1 hI).cell 6
        go_simp
        exact hK _ _ (fun d hd => by cases hd; rfl) hI (Below.refl _ _)
      · have h37 := getD_form (show a'.tmps.getD 37 undef = .int .i64 m.price from hds 37 (by simp))
        go_simp
        refine (ref36_text m.price (HIN.out.price).1 (HIN.out.price).2 w').mono ?_
        rintro e w5 ⟨rfl, hb5⟩
        exact hK _ w5 (fun d hd => by cases hd; rfl) (hI.trans (hb5.mono hI.size)) hb5
      · have h35 := getD_form (show a'.tmps.getD 35 undef = .string ⟨(sps m 6).toArray⟩ from hds 35 (by simp))
        have h38 := getD_form (show a'.tmps.getD 38 undef = .string ⟨(Pl.decimal m.price).toArray⟩ from hds 38 (by simp))
        have e : (⟨(sps m 6).toArray⟩ : ByteArray) ++ ⟨(Pl.decimal m.price).toArray⟩ = ⟨(sofar m 7).toArray⟩ := ba_append (sps m 6) (Pl.decimal m.price)
        have hA : (sps m 6).length ≤ 300 := HLN.out.sps _
        have hB : (Pl.decimal m.price).length ≤ 300 := HLN.out.price
        generalize sps m 6 = A at *
        generalize Pl.decimal m.price = B at *
        have hnl : (9223372036854775807 < A.length + B.length) = False := eq_false (by omega)
        generalize hres : sofar m 7 = R at *
        have HRES := Lib.hid hres
        clear hres
        go_simp
        exact hK _ _ (fun d hd => by cases hd; show _ = _; rw [HRES.out]) hI (Below.refl _ _)
      · have h39 := getD_form (show a'.tmps.getD 39 undef = .string ⟨(sofar m 7).toArray⟩ from hds 39 (by simp))
        have e : (⟨(sofar m 7).toArray⟩ : ByteArray) ++ ⟨#[32]⟩ = ⟨(sps m 7).toArray⟩ := ba_append (sofar m 7) ([32])
        have hA : (sofar m 7).length ≤ 300 := Nat.le_trans (HLN.out.sofar _) (by decide)
        generalize sofar m 7 = A at *
        have hnl : (9223372036854775807 < A.length + 1) = False := eq_false (by omega)
        generalize hres : sps m 7 = R at *
        have HRES := Lib.hid hres
        clear hres
        go_simp
        exact hK _ _ (fun d hd => by cases hd; show _ = _; rw [HRES.out]) hI (Below.refl _ _)
      · go_simp
        exact hK _ _ (fun d hd => by cases hd; rfl) hI (Below.refl _ _)
      · have h41 := getD_form (show a'.tmps.getD 41 undef = .pointer (some ⟨w.heap.size, 7, none⟩) from hds 41 (by simp))
        have hcl : w'.cell? ⟨w.heap.size, 7, none⟩ = some (.int .i64 m.qty) := (HK1.out.below hs1 hI).cell 7
        go_simp
        exact hK _ _ (fun d hd => by cases hd; rfl) hI (Below.refl _ _)
      · have h42 := getD_form (show a'.tmps.getD 42 undef = .int .i64 m.qty from hds 42 (by simp))
        go_simp
        refine (ref36_text m.qty (HIN.out.qty).1 (HIN.out.qty).2 w').mono ?_
        rintro e w5 ⟨rfl, hb5⟩
        exact hK _ w5 (fun d hd => by cases hd; rfl) (hI.trans (hb5.mono hI.size)) hb5
      · have h40 := getD_form (show a'.tmps.getD 40 undef = .string ⟨(sps m 7).toArray⟩ from hds 40 (by simp))
        have h43 := getD_form (show a'.tmps.getD 43 undef = .string ⟨(Pl.decimal m.qty).toArray⟩ from hds 43 (by simp))
        have e : (⟨(sps m 7).toArray⟩ : ByteArray) ++ ⟨(Pl.decimal m.qty).toArray⟩ = ⟨(sofar m 8).toArray⟩ := ba_append (sps m 7) (Pl.decimal m.qty)
        have hA : (sps m 7).length ≤ 300 := HLN.out.sps _
        have hB : (Pl.decimal m.qty).length ≤ 300 := HLN.out.qty
        generalize sps m 7 = A at *
        generalize Pl.decimal m.qty = B at *
        have hnl : (9223372036854775807 < A.length + B.length) = False := eq_false (by omega)
        generalize hres : sofar m 8 = R at *
        have HRES := Lib.hid hres
        clear hres
        go_simp
        exact hK _ _ (fun d hd => by cases hd; show _ = _; rw [HRES.out]) hI (Below.refl _ _)
      · have h44 := getD_form (show a'.tmps.getD 44 undef = .string ⟨(sofar m 8).toArray⟩ from hds 44 (by simp))
        have e : (⟨(sofar m 8).toArray⟩ : ByteArray) ++ ⟨#[32]⟩ = ⟨(sps m 8).toArray⟩ := ba_append (sofar m 8) ([32])
        have hA : (sofar m 8).length ≤ 300 := Nat.le_trans (HLN.out.sofar _) (by decide)
        generalize sofar m 8 = A at *
        have hnl : (9223372036854775807 < A.length + 1) = False := eq_false (by omega)
        generalize hres : sps m 8 = R at *
        have HRES := Lib.hid hres
        clear hres
        go_simp
        exact hK _ _ (fun d hd => by cases hd; show _ = _; rw [HRES.out]) hI (Below.refl _ _)
      · go_simp
        exact hK _ _ (fun d hd => by cases hd; rfl) hI (Below.refl _ _)
      · have h46 := getD_form (show a'.tmps.getD 46 undef = .pointer (some ⟨w.heap.size, 8, none⟩) from hds 46 (by simp))
        have hcl : w'.cell? ⟨w.heap.size, 8, none⟩ = some (.int .i64 m.code) := (HK1.out.below hs1 hI).cell 8
        go_simp
        exact hK _ _ (fun d hd => by cases hd; rfl) hI (Below.refl _ _)
      · have h47 := getD_form (show a'.tmps.getD 47 undef = .int .i64 m.code from hds 47 (by simp))
        go_simp
        refine (ref36_text m.code (HIN.out.code).1 (HIN.out.code).2 w').mono ?_
        rintro e w5 ⟨rfl, hb5⟩
        exact hK _ w5 (fun d hd => by cases hd; rfl) (hI.trans (hb5.mono hI.size)) hb5
      · have h45 := getD_form (show a'.tmps.getD 45 undef = .string ⟨(sps m 8).toArray⟩ from hds 45 (by simp))
        have h48 := getD_form (show a'.tmps.getD 48 undef = .string ⟨(Pl.decimal m.code).toArray⟩ from hds 48 (by simp))
        have e : (⟨(sps m 8).toArray⟩ : ByteArray) ++ ⟨(Pl.decimal m.code).toArray⟩ = ⟨(sofar m 9).toArray⟩ := ba_append (sps m 8) (Pl.decimal m.code)
        have hA : (sps m 8).length ≤ 300 := HLN.out.sps _
        have hB : (Pl.decimal m.code).length ≤ 300 := HLN.out.code
        generalize sps m 8 = A at *
        generalize Pl.decimal m.code = B at *
        have hnl : (9223372036854775807 < A.length + B.length) = False := eq_false (by omega)
        generalize hres : sofar m 9 = R at *
        have HRES := Lib.hid hres
        clear hres
        go_simp
        exact hK _ _ (fun d hd => by cases hd; show _ = _; rw [HRES.out]) hI (Below.refl _ _)
      · have h49 := getD_form (show a'.tmps.getD 49 undef = .string ⟨(sofar m 9).toArray⟩ from hds 49 (by simp))
        go_simp
        exact hK _ _ (fun d hd => by cases hd; rfl) hI (Below.refl _ _)
      · go_simp
        exact hK _ _ (fun d hd => by cases hd; rfl) hI (Below.refl _ _)
    · intro f w3 hI hv
      have f2 : f 2 = .string ⟨(sofar m 9).toArray⟩ := hv 2 (by simp)
      have f3 : f 3 = .int .i64 0 := hv 3 (by simp)
      rw [sofar_nine] at f2
      have HB3 : Hid (Below w.heap.size w w3) := HB1.out.trans (hI.mono (by omega))
      clear hv hI
      simp only [putMany]
      go_simp
      clear f2 f3
      go_wp2_with fail
      go_ret2
      exact HYES.out _ HR.out HB3.out

end Go.Proofs.YtbcepdacfmbekaaDoor
