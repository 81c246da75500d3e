/-
  The walk of the law ReportLines.
-/
import Derived.Test.YtbcepdacfmbekaaDoorKRTx
namespace Go.Proofs.YtbcepdacfmbekaaDoor
open Go.RowKit

/-- What Line answers. -/
def lres (m : Pl.Msg) : List UInt8 × Int := match Pl.mline m with
  | some l => (l, 0)
  | none => ([], 1)
theorem MLinePost.res {m : Pl.Msg} {w w' : World} {e : Ending} (h : MLinePost m w e w') : e = .returned (.tuple #[.string ⟨(lres m).1.toArray⟩, .int .i64 (lres m).2]) ∧ Below w.heap.size w w' := by
  obtain ⟨h1, h2⟩ := h
  unfold lres
  cases hp : Pl.mline m with
  | none => rw [hp] at h2; exact ⟨h2, h1⟩
  | some l => rw [hp] at h2; exact ⟨h2, h1⟩
/-- What Text answers. -/
def tres (ms : List Pl.Msg) : List UInt8 × Int := match Pl.txtFrom Pl.mline [] ms with
  | some t => (t, 0)
  | none => ([], 1)
theorem TxtPost.res {ms : List Pl.Msg} {w w' : World} {e : Ending} (h : TxtPost ms w e w') : e = .returned (.tuple #[.string ⟨(tres ms).1.toArray⟩, .int .i64 (tres ms).2]) ∧ Below w.heap.size w w' := by
  obtain ⟨h1, h2⟩ := h
  unfold tres
  cases hp : Pl.txtFrom Pl.mline [] ms with
  | none => rw [hp] at h2; exact ⟨h2, h1⟩
  | some l => rw [hp] at h2; exact ⟨h2, h1⟩
/-- A slice of messages that came in. -/
def MsgsArg (w : World) (v : Value) (ms : List Pl.Msg) : Prop := MsgsIn w v ms ∧ ∀ m ∈ ms, Pl.MsgIn m

set_option maxHeartbeats 4000000 in
set_option maxRecDepth 100000 in
theorem law_ReportLines_of (v : Value) (ms : List Pl.Msg) (n : Int) (w : World) (hE : Env w) (hms : MsgsArg w v ms) (hlen : ms.length ≤ 9223372036854775807) : Calls Tryd.prog 10 #[v, .int .i64 n] w (TrueP w) := by
  have HE := Lib.hid hE
  have HMS := Lib.hid hms.1
  have HIN := Lib.hid hms.2
  obtain ⟨p, c, rfl⟩ := hms.1.form
  clear hms hE
  by_cases hs : (60 : Int) < ms.length
  · go_enter Tryd.func10, Tryd.ntmps10
    go_wp2_with fail
    refine (alive36 w HE.out).mono ?_
    rintro e w1 ⟨rfl, hb⟩
    have HB := Lib.hid hb
    clear hb
    go_wp2_with fail
    go_ret
    exact ⟨rfl, HB.out⟩
  have hl : ms.length ≤ 60 := by omega
  go_enter Tryd.func10, Tryd.ntmps10
  go_wp2_with fail
  go_loopw [5] (fun i wr => ∃ k : Nat, k ≤ ms.length ∧ i = .int .i64 k ∧ Hid (Below w.heap.size w wr)) (fun i _ => ms.length - (intOf i).toNat)
  case atStart => exact ⟨0, Nat.zero_le _, rfl, Below.refl _ _⟩
  case round =>
    obtain ⟨k, hk, rfl, HB⟩ := hrel
    by_cases hlt : k < ms.length
    · obtain ⟨g, o, c', hv, hg, hcs⟩ := HMS.out.at hlt
      obtain ⟨rfl, rfl⟩ : p = some ⟨g, o, none⟩ ∧ c = c' := by
        injection hv with e1 _ e2
        exact ⟨e1, e2⟩
      have HC9 : Hid (∀ j x, j < 9 → (ms[k]'hlt).arr[j]? = some x → wr.cell? ⟨g, o + k * 9 + j, none⟩ = some x) := fun j x hj hx => (HB.out.cell (p := ⟨g, o + k * 9 + j, none⟩) hg).trans (hcs j x hj hx)
      have hgw : g < wr.heap.size := Nat.lt_of_lt_of_le hg HB.out.size
      have hinm := HIN.out (ms[k]'hlt) (List.getElem_mem hlt)
      clear hv hcs
      generalize ms[k]'hlt = m at *
      have HL1 := Lib.hid ((report_Line m hinm wr (HE.out.below (Nat.le_refl _) HB.out)).mono fun _ _ h => h.res)
      have HL2 := Lib.hid (fun w => (ref36_Line m hinm w).mono fun _ _ h => h.res)
      generalize lres m = lr at *
      obtain ⟨ln, f⟩ := lr
      obtain ⟨m0, m1, m2, m3, m4, m5, m6, m7, m8⟩ := m
      simp only [Pl.Msg.arr] at HL1 HL2
      have a0 : wr.cell? ⟨g, o + k * 9, none⟩ = some (.int .i64 m0) := HC9.out 0 _ (by omega) rfl
      have a1 : wr.cell? ⟨g, o + k * 9 + 1, none⟩ = some (.int .i64 m1) := HC9.out 1 _ (by omega) rfl
      have a2 : wr.cell? ⟨g, o + k * 9 + 2, none⟩ = some (.int .i64 m2) := HC9.out 2 _ (by omega) rfl
      have a3 : wr.cell? ⟨g, o + k * 9 + 3, none⟩ = some (.int .i64 m3) := HC9.out 3 _ (by omega) rfl
      have a4 : wr.cell? ⟨g, o + k * 9 + 4, none⟩ = some (.int .i64 m4) := HC9.out 4 _ (by omega) rfl
      have a5 : wr.cell? ⟨g, o + k * 9 + 5, none⟩ = some (.int .i64 m5) := HC9.out 5 _ (by omega) rfl
      have a6 : wr.cell? ⟨g, o + k * 9 + 6, none⟩ = some (.int .i64 m6) := HC9.out 6 _ (by omega) rfl
      have a7 : wr.cell? ⟨g, o + k * 9 + 7, none⟩ = some (.int .i64 m7) := HC9.out 7 _ (by omega) rfl
      have a8 : wr.cell? ⟨g, o + k * 9 + 8, none⟩ = some (.int .i64 m8) := HC9.out 8 _ (by omega) rfl
      have hkI : ((k : Int) < ms.length) = True := eq_true (by omega)
      go_wp2_with fail
      clear a0 a1 a2 a3 a4 a5 a6 a7 a8
      refine HL1.out.mono ?_
      rintro e w2 ⟨rfl, hb2⟩
      have HB2 : Hid (Below w.heap.size w w2) := HB.out.trans (hb2.mono HB.out.size)
      have HC92 : Hid (∀ j x, j < 9 → (#[.int .i64 m0, .int .i64 m1, .int .i64 m2, .int .i64 m3, .int .i64 m4, .int .i64 m5, .int .i64 m6, .int .i64 m7, .int .i64 m8] : Array Value)[j]? = some x → w2.cell? ⟨g, o + k * 9 + j, none⟩ = some x) := fun j x hj hx => (hb2.cell (p := ⟨g, o + k * 9 + j, none⟩) hgw).trans (HC9.out j x hj hx)
      clear hb2 HL1 HB HC9 hgw
      have a0 : w2.cell? ⟨g, o + k * 9, none⟩ = some (.int .i64 m0) := HC92.out 0 _ (by omega) rfl
      have a1 : w2.cell? ⟨g, o + k * 9 + 1, none⟩ = some (.int .i64 m1) := HC92.out 1 _ (by omega) rfl
      have a2 : w2.cell? ⟨g, o + k * 9 + 2, none⟩ = some (.int .i64 m2) := HC92.out 2 _ (by omega) rfl
      have a3 : w2.cell? ⟨g, o + k * 9 + 3, none⟩ = some (.int .i64 m3) := HC92.out 3 _ (by omega) rfl
      have a4 : w2.cell? ⟨g, o + k * 9 + 4, none⟩ = some (.int .i64 m4) := HC92.out 4 _ (by omega) rfl
      have a5 : w2.cell? ⟨g, o + k * 9 + 5, none⟩ = some (.int .i64 m5) := HC92.out 5 _ (by omega) rfl
      have a6 : w2.cell? ⟨g, o + k * 9 + 6, none⟩ = some (.int .i64 m6) := HC92.out 6 _ (by omega) rfl
      have a7 : w2.cell? ⟨g, o + k * 9 + 7, none⟩ = some (.int .i64 m7) := HC92.out 7 _ (by omega) rfl
      have a8 : w2.cell? ⟨g, o + k * 9 + 8, none⟩ = some (.int .i64 m8) := HC92.out 8 _ (by omega) rfl
      go_wp2_with fail
      clear a0 a1 a2 a3 a4 a5 a6 a7 a8
      refine (HL2.out w2).mono ?_
      rintro e w3 ⟨rfl, hb3⟩
      have HB3 : Hid (Below w.heap.size w w3) := HB2.out.trans (hb3.mono HB2.out.size)
      clear hb3 HL2 HB2 HC92
      go_wp2_with fail
      go_roundw
      case rel => exact ⟨k + 1, by omega, by go_num, HB3.out⟩
      case measure => simp [intOf]; omega
    · obtain rfl : k = ms.length := by omega
      have HMW := Lib.hid (HMS.out.below HB.out)
      have HT1 := Lib.hid ((report_Text _ ms wr (HE.out.below (Nat.le_refl _) HB.out) HMW.out HIN.out (by omega)).mono fun _ _ h => h.res)
      have HT2 := Lib.hid (fun w (h : MsgsIn w (.slice p ms.length c) ms) => (ref36_Text _ ms w h HIN.out (by omega)).mono fun _ _ h => h.res)
      generalize tres ms = tr at *
      obtain ⟨tx, f⟩ := tr
      go_wp2_with fail
      refine HT1.out.mono ?_
      rintro e w2 ⟨rfl, hb2⟩
      have HB2 : Hid (Below w.heap.size w w2) := HB.out.trans (hb2.mono HB.out.size)
      have HM2 := Lib.hid (HMW.out.below hb2)
      clear hb2 HT1 HMW HB
      go_wp2_with fail
      refine (HT2.out w2 HM2.out).mono ?_
      rintro e w3 ⟨rfl, hb3⟩
      have HB3 : Hid (Below w.heap.size w w3) := HB2.out.trans (hb3.mono HB2.out.size)
      clear hb3 HT2 HM2 HB2
      have HW1 := Lib.hid (report_Word n w3)
      have HW2 := Lib.hid (fun w => ref36_Word n w)
      unfold StrPost at HW1 HW2
      generalize Pl.kword n = kw at *
      go_wp2_with fail
      refine HW1.out.mono ?_
      rintro e w4 ⟨rfl, hb4⟩
      have HB4 : Hid (Below w.heap.size w w4) := HB3.out.trans (hb4.mono HB3.out.size)
      clear hb4 HW1 HB3
      go_wp2_with fail
      refine (HW2.out w4).mono ?_
      rintro e w5 ⟨rfl, hb5⟩
      have HB5 : Hid (Below w.heap.size w w5) := HB4.out.trans (hb5.mono HB4.out.size)
      clear hb5 HW2 HB4
      go_wp2_with fail
      refine (alive36 w5 (HE.out.below (Nat.le_refl _) HB5.out)).mono ?_
      rintro e w6 ⟨rfl, hb6⟩
      have HB6 : Hid (Below w.heap.size w w6) := HB5.out.trans (hb6.mono HB5.out.size)
      clear hb6
      go_wp2_with fail
      go_ret
      exact ⟨rfl, HB6.out⟩

theorem law_ReportLines {w0 : World} {R : Prop} (v : Value) (ms : List Pl.Msg) (y : MsgsArg w0 v ms ∧ ms.length ≤ 9223372036854775807) (n : Int) (_ : R) (w : World) (hE : Env w) (hw : w0 = w := by rfl) : Calls Tryd.prog 10 #[v, .int .i64 n] w (TrueP w) := by
  subst hw
  exact law_ReportLines_of v ms n w0 hE y.1 y.2

end Go.Proofs.YtbcepdacfmbekaaDoor
