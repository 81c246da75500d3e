/-
  The walks of report.Text and of the reference's.
-/
import Derived.Test.YtbcepdacfmbekaaDoorKMRd
import Derived.Test.YtbcepdacfmbekaaDoorKBld
import Derived.Test.YtbcepdacfmbekaaDoorPtx
namespace Go.Proofs.YtbcepdacfmbekaaDoor
open Go.RowKit

/-- What comes of Text. -/
def TxtPost (ms : List Pl.Msg) (w : World) (e : Ending) (w' : World) : Prop := Below w.heap.size w w' ∧ match Pl.txtFrom Pl.mline [] ms with
  | some t => e = .returned (.tuple #[.string ⟨t.toArray⟩, .int .i64 0])
  | none => e = .returned (.tuple #[.string ⟨#[]⟩, .int .i64 1])
theorem TxtPost.no {ms : List Pl.Msg} {w w' : World} (h : Pl.txtFrom Pl.mline [] ms = none) (hb : Below w.heap.size w w') : TxtPost ms w (.returned (.tuple #[.string ⟨#[]⟩, .int .i64 1])) w' := by
  unfold TxtPost; rw [h]; exact ⟨hb, rfl⟩
theorem TxtPost.yes {ms : List Pl.Msg} {w w' : World} {t : List UInt8} (h : Pl.txtFrom Pl.mline [] ms = some t) (hb : Below w.heap.size w w') : TxtPost ms w (.returned (.tuple #[.string ⟨t.toArray⟩, .int .i64 0])) w' := by
  unfold TxtPost; rw [h]; exact ⟨hb, rfl⟩
theorem mline_len {m : Pl.Msg} {l : List UInt8} (hm : Pl.MsgIn m) (h : Pl.mline m = some l) : l.length ≤ 1000 := by
  unfold Pl.mline at h
  split at h
  · have e : Pl.mtext m = l := by simpa using h
    rw [← e]; exact mtext_length hm
  · cases h
theorem builder_below {T E : TypeId} {B b : Nat} {bs : List Value} {w w' : World} (h : Lib.IsBuilder T E B b bs w) (hb : Below w.heap.size w w') : Lib.IsBuilder T E B b bs w' := by
  have k : ∀ p, Lib.BuilderAt T E B b p bs w → Lib.BuilderAt T E B b p bs w' := by
    rintro p ⟨h1, v, h2, h3, h4⟩
    have hl : b < w.heap.size := (Array.getElem?_eq_some_iff.1 h2).1
    exact ⟨h1, v, (hb.block b hl).trans h2, h3.kept (grownBy_of_below' hb none) (by cases v.ownBlock <;> simp), h4⟩
  exact h.imp (k _) (k _)
/-- The messages of a slice: the k-th's cells. -/
theorem MsgsIn.at {w : World} {v : Value} {ms : List Pl.Msg} (h : MsgsIn w v ms) {k : Nat} (hk : k < ms.length) : ∃ g o c, v = .slice (some ⟨g, o, none⟩) ms.length c ∧ g < w.heap.size ∧ ∀ j x, j < 9 → (ms[k]'hk).arr[j]? = some x → w.cell? ⟨g, o + k * 9 + j, none⟩ = some x := by
  rcases h with ⟨_, _, _, h0⟩ | ⟨g, o, c, h1, h2, h3⟩
  · subst h0; simp at hk
  · exact ⟨g, o, c, h1, h2, fun j x hj hx => by rw [Nat.add_assoc]; exact h3 _ _ (by rw [msgsCells_at hk j hj]; exact hx)⟩
theorem MsgsIn.form {w : World} {v : Value} {ms : List Pl.Msg} (h : MsgsIn w v ms) : ∃ p c, v = .slice p ms.length c := by
  rcases h with ⟨p, c, h1, h0⟩ | ⟨g, o, c, h1, _⟩
  · subst h0; exact ⟨p, c, h1⟩
  · exact ⟨_, c, h1⟩

-- WALKS
set_option maxHeartbeats 4000000 in
set_option maxRecDepth 100000 in
theorem report_Text (v : Value) (ms : List Pl.Msg) (w : World) (hE : Env w) (h : MsgsIn w v ms) (hin : ∀ m ∈ ms, Pl.MsgIn m) (hl : ms.length ≤ 10000) : Calls Tryd.prog 44 #[v] w (TxtPost ms w) := by
  have HE := Lib.hid hE
  have HNO := Lib.hid (fun w' => @TxtPost.no ms w w')
  have HYES := Lib.hid (fun w' => @TxtPost.yes ms w w')
  have HMS := Lib.hid h
  have HIN := Lib.hid hin
  obtain ⟨p, c, rfl⟩ := h.form
  have HB0 : Hid (Below w.heap.size w (w.alloc (.cells #[.pointer none, .slice none 0 0] 150))) := (Below.refl _ _).alloc (Nat.le_refl _) _
  have HD0 : Hid (Lib.IsBuilder 150 5 w.heap.size w.heap.size (Lib.byteCells []) (w.alloc (.cells #[.pointer none, .slice none 0 0] 150))) := .inl ⟨Nat.le_refl _, .slice none 0 0, Blk.alloc _ _, World.ownsRow_nil _ _ _ _, by simp [Value.ownBlock]⟩
  clear h hin hE
  go_enter Tryd.func44, Tryd.ntmps44
  go_wp2_with fail
  generalize w.alloc (.cells #[.pointer none, .slice none 0 0] 150) = w0 at *
  go_loopw [11] (fun i wr => ∃ (k : Nat) (txt : List UInt8), k ≤ ms.length ∧ i = .int .i64 k ∧ txt.length ≤ k * 1001 ∧ Hid (Lib.IsBuilder 150 5 w.heap.size w.heap.size (Lib.byteCells txt) wr) ∧ Hid (Below w.heap.size w wr) ∧ Hid (Pl.txtFrom Pl.mline [] ms = Pl.txtFrom Pl.mline txt (ms.drop k))) (fun i _ => ms.length - (intOf i).toNat)
  case atStart => exact ⟨0, [], Nat.zero_le _, rfl, by simp, HD0, HB0, rfl⟩
  case round =>
    obtain ⟨k, txt, hk, rfl, htl, HD, HB, HR⟩ := hrel
    clear HD0 HB0
    by_cases hlt : k < ms.length
    · skip
      obtain ⟨g, o, c', hv, hg, hcs⟩ := HMS.out.at hlt
      obtain ⟨rfl, rfl⟩ : p = some ⟨g, o, none⟩ ∧ c = c' := by
        injection hv with e1 _ e2
        exact ⟨e1, e2⟩
      have HC9 : Hid (∀ j x, j < 9 → (ms[k]'hlt).arr[j]? = some x → wr.cell? ⟨g, o + k * 9 + j, none⟩ = some x) := fun j x hj hx => (HB.out.cell (p := ⟨g, o + k * 9 + j, none⟩) hg).trans (hcs j x hj hx)
      have hinm := HIN.out (ms[k]'hlt) (List.getElem_mem hlt)
      have HDR := Lib.hid (HR.out.trans (congrArg (Pl.txtFrom Pl.mline txt) (Pl.drop_at hlt)))
      clear hv hcs HR
      generalize ms[k]'hlt = m at *
      have HML := Lib.hid (fun l => @mline_len m l hinm)
      have HTN := Lib.hid (fun h => HDR.out.trans (@Pl.txtFrom_none Pl.Msg Pl.mline txt m (ms.drop (k + 1)) h))
      have HTS := Lib.hid (fun l h => HDR.out.trans (@Pl.txtFrom_some Pl.Msg Pl.mline txt l m (ms.drop (k + 1)) h))
      clear HDR
      obtain ⟨m0, m1, m2, m3, m4, m5, m6, m7, m8⟩ := m
      have a0 : wr.cell? ⟨g, o + k * 9, none⟩ = some (.int .i64 m0) := HC9.out 0 _ (by omega) rfl
      have a1 : wr.cell? ⟨g, o + k * 9 + 1, none⟩ = some (.int .i64 m1) := HC9.out 1 _ (by omega) rfl
      have a2 : wr.cell? ⟨g, o + k * 9 + 2, none⟩ = some (.int .i64 m2) := HC9.out 2 _ (by omega) rfl
      have a3 : wr.cell? ⟨g, o + k * 9 + 3, none⟩ = some (.int .i64 m3) := HC9.out 3 _ (by omega) rfl
      have a4 : wr.cell? ⟨g, o + k * 9 + 4, none⟩ = some (.int .i64 m4) := HC9.out 4 _ (by omega) rfl
      have a5 : wr.cell? ⟨g, o + k * 9 + 5, none⟩ = some (.int .i64 m5) := HC9.out 5 _ (by omega) rfl
      have a6 : wr.cell? ⟨g, o + k * 9 + 6, none⟩ = some (.int .i64 m6) := HC9.out 6 _ (by omega) rfl
      have a7 : wr.cell? ⟨g, o + k * 9 + 7, none⟩ = some (.int .i64 m7) := HC9.out 7 _ (by omega) rfl
      have a8 : wr.cell? ⟨g, o + k * 9 + 8, none⟩ = some (.int .i64 m8) := HC9.out 8 _ (by omega) rfl
      have hkI : ((k : Int) < ms.length) = True := eq_true (by omega)
      clear HC9
      have HB1 : Hid (Below w.heap.size w (wr.alloc (.cells #[.int .i64 m0, .int .i64 m1, .int .i64 m2, .int .i64 m3, .int .i64 m4, .int .i64 m5, .int .i64 m6, .int .i64 m7, .int .i64 m8] 62))) := HB.out.alloc HB.out.size _
      have HD1 : Hid (Lib.IsBuilder 150 5 w.heap.size w.heap.size (Lib.byteCells txt) (wr.alloc (.cells #[.int .i64 m0, .int .i64 m1, .int .i64 m2, .int .i64 m3, .int .i64 m4, .int .i64 m5, .int .i64 m6, .int .i64 m7, .int .i64 m8] 62))) := builder_below HD.out ((Below.refl _ _).alloc (Nat.le_refl _) _)
      have HC := Lib.hid (report_Line ⟨m0, m1, m2, m3, m4, m5, m6, m7, m8⟩ hinm (wr.alloc (.cells #[.int .i64 m0, .int .i64 m1, .int .i64 m2, .int .i64 m3, .int .i64 m4, .int .i64 m5, .int .i64 m6, .int .i64 m7, .int .i64 m8] 62)) (HE.out.below (Nat.le_refl _) HB1.out))
      simp only [Pl.Msg.arr] at HC
      clear HB HD
      go_wp2_with fail
      generalize wr.alloc (.cells #[.int .i64 m0, .int .i64 m1, .int .i64 m2, .int .i64 m3, .int .i64 m4, .int .i64 m5, .int .i64 m6, .int .i64 m7, .int .i64 m8] 62) = w1 at *
      refine HC.out.mono ?_
      rintro e w2 ⟨hb2, hcase⟩
      have HB2 : Hid (Below w.heap.size w w2) := HB1.out.trans (hb2.mono HB1.out.size)
      have HD2 := Lib.hid (builder_below HD1.out hb2)
      clear hb2 HC HB1 HD1 a0 a1 a2 a3 a4 a5 a6 a7 a8
      rcases hp : Pl.mline ⟨m0, m1, m2, m3, m4, m5, m6, m7, m8⟩ with _ | ln
      · rw [hp] at hcase
        obtain rfl := hcase
        have HN := Lib.hid (HTN.out hp)
        clear hp
        go_wp2_with fail
        go_ret2
        exact HNO.out _ HN.out HB2.out
      · rw [hp] at hcase
        obtain rfl := hcase
        have HN := Lib.hid (HTS.out ln hp)
        have hll := HML.out ln hp
        clear hp
        have HW1 := Lib.hid (bld_WriteString w.heap.size w.heap.size (Lib.byteCells txt) ⟨ln.toArray⟩ w2 HD2.out (by rw [Lib.byteCells_length, Lib.size_eq]; simp; omega) HB2.out.size)
        go_wp2_with fail
        refine HW1.out.mono ?_
        rintro e w3 ⟨rfl, hd3, hb3⟩
        have HB3 : Hid (Below w.heap.size w w3) := HB2.out.trans hb3
        have hd3' : Lib.IsBuilder 150 5 w.heap.size w.heap.size (Lib.byteCells (txt ++ ln)) w3 := by rw [Lib.byteCells_append]; exact .inr hd3
        have HW2 := Lib.hid (bld_WriteByte w.heap.size w.heap.size (Lib.byteCells (txt ++ ln)) 10 w3 hd3' (by rw [Lib.byteCells_length]; simp; omega) HB3.out.size)
        clear hd3 hb3 hd3' HW1 HD2 HB2
        go_wp2_with fail
        refine HW2.out.mono ?_
        rintro e w4 ⟨rfl, hd4, hb4⟩
        have HB4 : Hid (Below w.heap.size w w4) := HB3.out.trans hb4
        have HD4 : Hid (Lib.IsBuilder 150 5 w.heap.size w.heap.size (Lib.byteCells (txt ++ (ln ++ [10]))) w4) := by
          show Lib.IsBuilder _ _ _ _ _ _
          rw [← List.append_assoc, Lib.byteCells_append]; exact .inr hd4
        clear hd4 hb4 HW2 HB3
        go_wp2_with fail
        go_roundw
        case rel => exact ⟨k + 1, txt ++ (ln ++ [10]), by omega, by go_num, by simp; omega, HD4.out, HB4.out, HN.out⟩
        case measure => simp [intOf]; omega
    · obtain rfl : k = ms.length := by omega
      have HN := Lib.hid (HR.out.trans (by rw [List.drop_length]; rfl : _ = some txt))
      have HS := Lib.hid (Tryd.Builder_String_any w.heap.size w.heap.size txt wr HD.out HB.out.size)
      clear HR
      go_wp2_with fail
      refine HS.out.mono ?_
      rintro e w2 ⟨rfl, hb2⟩
      have HB2 : Hid (Below w.heap.size w w2) := HB.out.trans hb2
      clear hb2 HS
      go_wp2_with fail
      go_ret2
      exact HYES.out _ HN.out HB2.out

set_option maxHeartbeats 4000000 in
set_option maxRecDepth 100000 in
theorem ref36_Text (v : Value) (ms : List Pl.Msg) (w : World) (h : MsgsIn w v ms) (hin : ∀ m ∈ ms, Pl.MsgIn m) (hl : ms.length ≤ 10000) : Calls Tryd.prog 45 #[v] w (TxtPost ms w) := by
  have HNO := Lib.hid (fun w' => @TxtPost.no ms w w')
  have HYES := Lib.hid (fun w' => @TxtPost.yes ms w w')
  have HMS := Lib.hid h
  have HIN := Lib.hid hin
  obtain ⟨p, c, rfl⟩ := h.form
  clear h hin
  go_enter Tryd.func45, Tryd.ntmps45
  go_wp2_with fail
  go_loopw [4, 5] (fun s i wr => ∃ (k : Nat) (txt : List UInt8), k ≤ ms.length ∧ i = .int .i64 k ∧ s = .string ⟨txt.toArray⟩ ∧ txt.length ≤ k * 1001 ∧ Hid (Below w.heap.size w wr) ∧ Hid (Pl.txtFrom Pl.mline [] ms = Pl.txtFrom Pl.mline txt (ms.drop k))) (fun _ i _ => ms.length - (intOf i).toNat)
  case atStart => exact ⟨0, [], Nat.zero_le _, rfl, rfl, by simp, Below.refl _ _, rfl⟩
  case round =>
    obtain ⟨k, txt, hk, rfl, rfl, htl, HB, HR⟩ := hrel
    by_cases hlt : k < ms.length
    · skip
      obtain ⟨g, o, c', hv, hg, hcs⟩ := HMS.out.at hlt
      obtain ⟨rfl, rfl⟩ : p = some ⟨g, o, none⟩ ∧ c = c' := by
        injection hv with e1 _ e2
        exact ⟨e1, e2⟩
      have HC9 : Hid (∀ j x, j < 9 → (ms[k]'hlt).arr[j]? = some x → wr.cell? ⟨g, o + k * 9 + j, none⟩ = some x) := fun j x hj hx => (HB.out.cell (p := ⟨g, o + k * 9 + j, none⟩) hg).trans (hcs j x hj hx)
      have hinm := HIN.out (ms[k]'hlt) (List.getElem_mem hlt)
      have HDR := Lib.hid (HR.out.trans (congrArg (Pl.txtFrom Pl.mline txt) (Pl.drop_at hlt)))
      clear hv hcs HR
      generalize ms[k]'hlt = m at *
      have HML := Lib.hid (fun l => @mline_len m l hinm)
      have HTN := Lib.hid (fun h => HDR.out.trans (@Pl.txtFrom_none Pl.Msg Pl.mline txt m (ms.drop (k + 1)) h))
      have HTS := Lib.hid (fun l h => HDR.out.trans (@Pl.txtFrom_some Pl.Msg Pl.mline txt l m (ms.drop (k + 1)) h))
      clear HDR
      obtain ⟨m0, m1, m2, m3, m4, m5, m6, m7, m8⟩ := m
      have a0 : wr.cell? ⟨g, o + k * 9, none⟩ = some (.int .i64 m0) := HC9.out 0 _ (by omega) rfl
      have a1 : wr.cell? ⟨g, o + k * 9 + 1, none⟩ = some (.int .i64 m1) := HC9.out 1 _ (by omega) rfl
      have a2 : wr.cell? ⟨g, o + k * 9 + 2, none⟩ = some (.int .i64 m2) := HC9.out 2 _ (by omega) rfl
      have a3 : wr.cell? ⟨g, o + k * 9 + 3, none⟩ = some (.int .i64 m3) := HC9.out 3 _ (by omega) rfl
      have a4 : wr.cell? ⟨g, o + k * 9 + 4, none⟩ = some (.int .i64 m4) := HC9.out 4 _ (by omega) rfl
      have a5 : wr.cell? ⟨g, o + k * 9 + 5, none⟩ = some (.int .i64 m5) := HC9.out 5 _ (by omega) rfl
      have a6 : wr.cell? ⟨g, o + k * 9 + 6, none⟩ = some (.int .i64 m6) := HC9.out 6 _ (by omega) rfl
      have a7 : wr.cell? ⟨g, o + k * 9 + 7, none⟩ = some (.int .i64 m7) := HC9.out 7 _ (by omega) rfl
      have a8 : wr.cell? ⟨g, o + k * 9 + 8, none⟩ = some (.int .i64 m8) := HC9.out 8 _ (by omega) rfl
      have hkI : ((k : Int) < ms.length) = True := eq_true (by omega)
      clear HC9
      have HC := Lib.hid (ref36_Line ⟨m0, m1, m2, m3, m4, m5, m6, m7, m8⟩ hinm wr)
      simp only [Pl.Msg.arr] at HC
      go_wp2_with fail
      refine HC.out.mono ?_
      rintro e w2 ⟨hb2, hcase⟩
      have HB2 : Hid (Below w.heap.size w w2) := HB.out.trans (hb2.mono HB.out.size)
      clear hb2 HC HB a0 a1 a2 a3 a4 a5 a6 a7 a8
      rcases hp : Pl.mline ⟨m0, m1, m2, m3, m4, m5, m6, m7, m8⟩ with _ | ln
      · rw [hp] at hcase
        obtain rfl := hcase
        have HN := Lib.hid (HTN.out hp)
        clear hp
        go_wp2_with fail
        go_ret2
        exact HNO.out _ HN.out HB2.out
      · rw [hp] at hcase
        obtain rfl := hcase
        have HN := Lib.hid (HTS.out ln hp)
        have hll := HML.out ln hp
        have e1 : (⟨txt.toArray⟩ : ByteArray) ++ ⟨ln.toArray⟩ = ⟨(txt ++ ln).toArray⟩ := ba_append txt ln
        have e2 : (⟨(txt ++ ln).toArray⟩ : ByteArray) ++ ⟨#[10]⟩ = ⟨(txt ++ (ln ++ [10])).toArray⟩ := by rw [← List.append_assoc]; exact ba_append (txt ++ ln) [10]
        have HT2 : Hid ((txt ++ (ln ++ [10])).length ≤ (k + 1) * 1001) := by show _ ≤ _; simp; omega
        have hn1 : (9223372036854775807 < txt.length + ln.length) = False := eq_false (by omega)
        have hl2 : (txt ++ ln).length = txt.length + ln.length := by simp
        have hn2 : (9223372036854775807 < (txt ++ ln).length + 1) = False := eq_false (by rw [hl2]; omega)
        clear hp hl2
        generalize txt ++ (ln ++ [10]) = t3 at *
        generalize txt ++ ln = t2 at *
        go_wp2_with fail
        go_roundw
        case rel => exact ⟨k + 1, t3, by omega, by go_num, rfl, HT2.out, HB2.out, HN.out⟩
        case measure => simp [intOf]; omega
    · obtain rfl : k = ms.length := by omega
      have HN := Lib.hid (HR.out.trans (by rw [List.drop_length]; rfl : _ = some txt))
      clear HR
      go_wp2_with fail
      go_ret2
      exact HYES.out _ HN.out HB.out

end Go.Proofs.YtbcepdacfmbekaaDoor
