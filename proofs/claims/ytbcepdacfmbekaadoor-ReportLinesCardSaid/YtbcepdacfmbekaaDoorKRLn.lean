/-
  The walk of report.Line.
-/
import Derived.Test.YtbcepdacfmbekaaDoorKMsg
import Derived.Test.YtbcepdacfmbekaaDoorKReg2
namespace Go.Proofs.YtbcepdacfmbekaaDoor
open Go.RowKit

/-- Strings in memory, joined. -/
theorem strs_join (b c : Nat) (ws : List (List UInt8)) (w : World) (h : Strs w b ws) (hb : b < w.heap.size) (hl : ws.length ≤ 1000000) (hc : ws.length ≤ c) (hlen : (Lib.join ws [32]).length ≤ 140737488355328) :
    Calls Tryd.prog 101 #[.slice (some ⟨b, 0, none⟩) ws.length c, .string ⟨#[32]⟩] w (StrPost (Lib.join ws [32]) w) := by
  have e1 : ((ws.map fun y => (⟨y.toArray⟩ : ByteArray)).map (·.data.toList)) = ws := by
    rw [List.map_map]; exact (List.map_congr_left fun a _ => rfl).trans (List.map_id _)
  have hj := Tryd.strings_Join b 0 c (ws.map fun y => ⟨y.toArray⟩) ⟨#[32]⟩ w (fun j y hy => by
    have hjl : j < ws.length := by
      have := (List.getElem?_eq_some_iff.1 hy).1
      simpa using this
    rw [Nat.zero_add, h j hjl]
    rw [List.getElem?_map] at hy
    obtain ⟨z, hz, rfl⟩ := Option.map_eq_some_iff.1 hy
    rw [List.getD_eq_getElem?_getD, hz]; rfl) hb (by rw [List.length_map]; omega) (by rw [List.length_map]; exact hc) (by rw [e1]; exact hlen)
  rw [e1, List.length_map] at hj
  exact hj

/-- Whole numbers of 64 bits. -/
def Pl.in64 (n : Int) : Prop := -9223372036854775808 ≤ n ∧ n ≤ 9223372036854775807
theorem Pl.in64_zero : Pl.in64 0 := ⟨by decide, by decide⟩
def Pl.MsgIn (m : Pl.Msg) : Prop := Pl.in64 m.kind ∧ Pl.in64 m.sym ∧ Pl.in64 m.seq ∧ Pl.in64 m.tick ∧ Pl.in64 m.id ∧ Pl.in64 m.wth ∧ Pl.in64 m.price ∧ Pl.in64 m.qty ∧ Pl.in64 m.code
/-- The numbers of a line, in their order. -/
def Pl.mnums (m : Pl.Msg) : List Int := [m.seq, m.tick, m.sym, 0, m.id, m.wth, m.price, m.qty, m.code]
theorem Pl.mnums_in {m : Pl.Msg} (h : Pl.MsgIn m) : ∀ j, Pl.in64 ((Pl.mnums m).getD j 0) := by
  obtain ⟨_, h1, h2, h3, h4, h5, h6, h7, h8⟩ := h
  intro j
  match j with
  | 0 => exact h2
  | 1 => exact h3
  | 2 => exact h1
  | 3 => exact Pl.in64_zero
  | 4 => exact h4
  | 5 => exact h5
  | 6 => exact h6
  | 7 => exact h7
  | 8 => exact h8
  | _ + 9 => exact Pl.in64_zero
/-- The texts of the first k numbers stand in the array. -/
structure TxtAt (w : World) (ab : Nat) (m : Pl.Msg) (k : Nat) (W : World) : Prop where
  below : Below w.heap.size w W
  msg : Blk W w.heap.size m.arr 62
  cells : ∃ cs, Blk W ab cs 146 ∧ cs.size = 9 ∧ ∀ j, j < k → cs[j]? = some (.string ⟨(Pl.decimal ((Pl.mnums m).getD j 0)).toArray⟩)
  hb : w.heap.size < ab
theorem TxtAt.quiet {w W W' : World} {ab k : Nat} {m : Pl.Msg} (h : TxtAt w ab m k W) (hb : Below W.heap.size W W') : TxtAt w ab m k W' := by
  obtain ⟨h1, h2, ⟨cs, h3, h4⟩, h5⟩ := h
  exact ⟨h1.trans (hb.mono h1.size), h2.below h2.lt hb, ⟨cs, h3.below h3.lt hb, h4⟩, h5⟩
theorem TxtAt.push {w W : World} {ab k : Nat} {m : Pl.Msg} (h : TxtAt w ab m k W) (hk : k < 9) : TxtAt w ab m (k + 1) (W.setCell ⟨ab, k, none⟩ (.string ⟨(Pl.decimal ((Pl.mnums m).getD k 0)).toArray⟩)) := by
  obtain ⟨h1, h2, ⟨cs, h3, h4, h6⟩, h5⟩ := h
  refine ⟨h1.setCell (p := ⟨ab, k, none⟩) (by simp; omega) _, h2.set_other _ (by simp; omega) _, ⟨_, h3.set k _, by simpa using h4, fun j hj => ?_⟩, h5⟩
  by_cases e : j = k
  · subst e
    rw [Array.getElem?_setIfInBounds]
    simp [h4, hk]
  · rw [Array.getElem?_setIfInBounds, if_neg (fun e2 => e e2.symm)]
    exact h6 j (by omega)
theorem TxtAt.cell {w W : World} {ab k j : Nat} {m : Pl.Msg} (h : TxtAt w ab m k W) (hj : j < 9) : (∃ x, W.cell? ⟨ab, j, none⟩ = some x) ∧ W.frozen? ⟨ab, j, none⟩ = false := by
  obtain ⟨_, _, ⟨cs, h3, h4, _⟩, _⟩ := h
  exact ⟨⟨cs[j], by rw [h3.cell j, Array.getElem?_eq_getElem (by omega)]⟩, h3.frozen j⟩
/-- Behind the last store: the words of the line. -/
theorem TxtAt.words {w W : World} {ab : Nat} {m : Pl.Msg} (h : TxtAt w ab m 9 W) : Strs (W.setCell ⟨ab, 3, none⟩ (.string ⟨(Pl.kword m.kind).toArray⟩)) ab (Pl.mwords m) := by
  obtain ⟨_, _, ⟨cs, h3, h4, h6⟩, _⟩ := h
  intro j hj
  have hj9 : j < 9 := hj
  rw [(h3.set 3 (.string ⟨(Pl.kword m.kind).toArray⟩)).cell j, Array.getElem?_setIfInBounds]
  by_cases e : 3 = j
  · subst e
    rw [if_pos rfl, if_pos (by omega)]; rfl
  · rw [if_neg e, h6 j hj9]
    match j, hj9, e with
    | 0, _, _ | 1, _, _ | 2, _, _ | 4, _, _ | 5, _, _ | 6, _, _ | 7, _, _ | 8, _, _ => rfl
    | 3, _, e => exact absurd rfl e

theorem mtext_length {m : Pl.Msg} (h : Pl.MsgIn m) : (Pl.mtext m).length ≤ 1000 := by
  obtain ⟨h0, h1, h2, h3, h4, h5, h6, h7, h8⟩ := h
  have k : (Pl.kword m.kind).length ≤ 8 := by
    unfold Pl.kword
    split
    · simp
    · have h : ∀ n : Nat, n < 10 → (Pl.kindWords.getD n []).length ≤ 8 := by decide
      exact h _ (by omega)
  have a1 := Pl.decimal_length h1.1 h1.2
  have a2 := Pl.decimal_length h2.1 h2.2
  have a3 := Pl.decimal_length h3.1 h3.2
  have a4 := Pl.decimal_length h4.1 h4.2
  have a5 := Pl.decimal_length h5.1 h5.2
  have a6 := Pl.decimal_length h6.1 h6.2
  have a7 := Pl.decimal_length h7.1 h7.2
  have a8 := Pl.decimal_length h8.1 h8.2
  unfold Pl.mtext Pl.mwords
  simp [Lib.join_cons, Lib.joinTail]
  omega

def MLinePost (m : Pl.Msg) (w : World) (e : Ending) (w' : World) : Prop := Below w.heap.size w w' ∧ match Pl.mline m with
  | some l => e = .returned (.tuple #[.string ⟨l.toArray⟩, .int .i64 0])
  | none => e = .returned (.tuple #[.string ⟨#[]⟩, .int .i64 1])
theorem MLinePost.no {m : Pl.Msg} {w w' : World} (h : Pl.msgRight m = false) (hb : Below w.heap.size w w') : MLinePost m w (.returned (.tuple #[.string ⟨#[]⟩, .int .i64 1])) w' := by
  unfold MLinePost Pl.mline; rw [h]; exact ⟨hb, rfl⟩
theorem MLinePost.yes {m : Pl.Msg} {w w' : World} (h : Pl.msgRight m = true) (hb : Below w.heap.size w w') : MLinePost m w (.returned (.tuple #[.string ⟨(Pl.mtext m).toArray⟩, .int .i64 0])) w' := by
  unfold MLinePost Pl.mline; rw [h]; exact ⟨hb, rfl⟩

set_option maxHeartbeats 4000000 in
set_option maxRecDepth 100000 in
theorem report_Line (m : Pl.Msg) (hm : Pl.MsgIn m) (w : World) (hE : Env w) : Calls Tryd.prog 42 #[.agg m.arr] w (MLinePost m w) := by
  have HE := Lib.hid hE
  have HNO := Lib.hid (fun w' => @MLinePost.no m w w')
  have HYES := Lib.hid (fun w' => @MLinePost.yes m w w')
  have HIN := Lib.hid (Pl.mnums_in hm)
  have HTL := Lib.hid (mtext_length hm)
  have HB0 : Hid (Below w.heap.size w (w.alloc (.cells m.arr 62))) := (Below.refl _ _).alloc (Nat.le_refl _) _
  have HK0 : Hid (Blk (w.alloc (.cells m.arr 62)) w.heap.size m.arr 62) := Blk.alloc _ _
  have hs0 : (w.alloc (.cells m.arr 62)).heap.size = w.heap.size + 1 := World.size_alloc _ _
  clear hE hm
  go_enter Tryd.func42, Tryd.ntmps42
  go_wp2_with (first | (refine wpList_load_row rfl 62 _ rfl w.heap.size rfl 62 m.arr (0, 0) _ HK0.out Tryd.underlying62 rfl (by kernel_rfl) ?_) | fail)
  generalize w.alloc (.cells m.arr 62) = w0 at *
  refine (message_Right m w0).mono ?_
  rintro e w1 ⟨rfl, hb1⟩
  have HB1 : Hid (Below w.heap.size w w1) := HB0.out.trans (hb1.mono (by omega))
  have HK1 : Hid (Blk w1 w.heap.size m.arr 62) := HK0.out.below (by omega) hb1
  have hs1 := HK1.out.lt
  clear hb1 HB0 HK0 hs0
  cases hr : Pl.msgRight m with
  | false =>
    have HR := Lib.hid hr
    clear hr
    go_wp2_with fail
    go_ret2
    exact HNO.out _ HR.out HB1.out
  | true =>
    have HR := Lib.hid hr
    clear hr
    have HT0 : Hid (TxtAt w w1.heap.size m 0 (w1.alloc (.cells #[.string ⟨#[]⟩, .string ⟨#[]⟩, .string ⟨#[]⟩, .string ⟨#[]⟩, .string ⟨#[]⟩, .string ⟨#[]⟩, .string ⟨#[]⟩, .string ⟨#[]⟩, .string ⟨#[]⟩] 146))) := ⟨HB1.out.alloc (by omega) _, HK1.out.grown (r := none) (by simp) (World.grownBy_alloc _ _ _), ⟨_, Blk.alloc _ _, rfl, fun j hj => absurd hj (by omega)⟩, hs1⟩
    have HMN := Lib.hid (show Pl.mnums m = [m.seq, m.tick, m.sym, 0, m.id, m.wth, m.price, m.qty, m.code] from rfl)
    have HKC := HK1.out.grown (r := none) (by simp) (World.grownBy_alloc w1 (.cells #[.string ⟨#[]⟩, .string ⟨#[]⟩, .string ⟨#[]⟩, .string ⟨#[]⟩, .string ⟨#[]⟩, .string ⟨#[]⟩, .string ⟨#[]⟩, .string ⟨#[]⟩, .string ⟨#[]⟩] 146) none)
    have c1 := HKC.cell 1
    have c2 := HKC.cell 2
    have c3 := HKC.cell 3
    have c4 := HKC.cell 4
    have c5 := HKC.cell 5
    have c6 := HKC.cell 6
    have c7 := HKC.cell 7
    have c8 := HKC.cell 8
    unfold Pl.Msg.arr at c1 c2 c3 c4 c5 c6 c7 c8
    clear HKC HK1 HB1
    go_wp2_with fail
    generalize w1.alloc (.cells _ 146) = w2 at *
    generalize w1.heap.size = ab at *
    clear c1 c2 c3 c4 c5 c6 c7 c8
    go_loopw [27] (fun i wr => ∃ k : Nat, k ≤ 9 ∧ i = .int .i64 k ∧ Hid (TxtAt w ab m k wr)) (fun i _ => 9 - (intOf i).toNat)
    case atStart => exact ⟨0, by omega, rfl, HT0⟩
    case round =>
      obtain ⟨k, hk, rfl, HT⟩ := hrel
      by_cases hlt : k < 9
      · have hidx : ∀ W : World, (Instr.index 145 (.agg #[.int .i64 m.seq, .int .i64 m.tick, .int .i64 m.sym, .int .i64 0, .int .i64 m.id, .int .i64 m.wth, .int .i64 m.price, .int .i64 m.qty, .int .i64 m.code]) (.int .i64 k)).run Tryd.prog W = .ok (.int .i64 ((Pl.mnums m).getD k 0)) W := by
          obtain rfl | rfl | rfl | rfl | rfl | rfl | rfl | rfl | rfl : k = 0 ∨ k = 1 ∨ k = 2 ∨ k = 3 ∨ k = 4 ∨ k = 5 ∨ k = 6 ∨ k = 7 ∨ k = 8 := by omega
          all_goals exact fun _ => by kernel_rfl
        have HC := Lib.hid (report_number ((Pl.mnums m).getD k 0) (HIN.out k).1 (HIN.out k).2 wr (HE.out.below (Nat.le_refl _) HT.out.below))
        unfold NumTextPost at HC
        have HPS := Lib.hid (fun (W : World) (h : TxtAt w ab m k W) => h.push hlt)
        generalize Pl.decimal ((Pl.mnums m).getD k 0) = d at *
        generalize (Pl.mnums m).getD k 0 = x at *
        have hk9 : ((k : Int) < 9) = True := eq_true (by omega)
        go_wp2_with fail
        refine HC.out.mono ?_
        rintro e w3 ⟨rfl, hb3⟩
        have HT3 := Lib.hid (HT.out.quiet hb3)
        clear hb3 HC HT
        obtain ⟨⟨y, hy⟩, hz⟩ := HT3.out.cell hlt
        go_wp2_with fail
        go_roundw
        case rel => exact ⟨k + 1, by omega, by go_num, HPS.out _ HT3.out⟩
        case measure => simp [intOf]; omega
      · obtain rfl : k = 9 := by omega
        have HKM := Lib.hid HT.out.msg
        have c0 := HKM.out.cell 0
        unfold Pl.Msg.arr at c0
        have HW := Lib.hid (report_Word m.kind wr)
        unfold StrPost at HW
        have hx : Pl.kword m.kind = Pl.kword m.kind := rfl
        have HWD := Lib.hid (fun (W : World) (h : TxtAt w ab m 9 W) => h.words)
        generalize Pl.kword m.kind = kw at *
        go_wp2_with fail
        refine HW.out.mono ?_
        rintro e w3 ⟨rfl, hb3⟩
        have HT3 := Lib.hid (HT.out.quiet hb3)
        clear hb3 HW HT c0 HKM
        obtain ⟨⟨y, hy⟩, hz⟩ := HT3.out.cell (j := 3) (by omega)
        have HS3 := Lib.hid (HWD.out _ HT3.out)
        have HB3 : Hid (Below w.heap.size w (w3.setCell ⟨ab, 3, none⟩ (.string ⟨kw.toArray⟩))) := HT3.out.below.setCell (p := ⟨ab, 3, none⟩) (by have := HT3.out.hb; simp; omega) _
        have hlb : ab < w3.heap.size := by
          obtain ⟨_, _, ⟨_, h, _⟩, _⟩ := HT3.out
          exact h.lt
        have HJ := Lib.hid (strs_join ab 9 (Pl.mwords m) _ HS3.out (by rw [World.size_setCell]; exact hlb) (by simp [Pl.mwords]) (by simp [Pl.mwords]) (by have := HTL.out; unfold Pl.mtext at this; omega))
        rw [show (Pl.mwords m).length = 9 from rfl, show Lib.join (Pl.mwords m) [32] = Pl.mtext m from rfl] at HJ
        unfold StrPost at HJ
        generalize hmt : Pl.mtext m = mt at *
        have HMT := Lib.hid hmt
        clear hmt
        go_wp2_with fail
        refine HJ.out.mono ?_
        rintro e w4 ⟨rfl, hb4⟩
        have HB4 : Hid (Below w.heap.size w w4) := HB3.out.trans (hb4.mono HB3.out.size)
        clear hb4 HJ
        go_wp2_with fail
        go_ret2
        exact HYES.out _ HR.out HB4.out

end Go.Proofs.YtbcepdacfmbekaaDoor
