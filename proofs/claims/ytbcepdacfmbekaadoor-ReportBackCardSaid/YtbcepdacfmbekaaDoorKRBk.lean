/-
  The walk of the law ReportBack.
-/
import Derived.Test.YtbcepdacfmbekaaDoorKRLw
import Derived.Test.YtbcepdacfmbekaaDoorPbk
namespace Go.Proofs.YtbcepdacfmbekaaDoor
open Go.RowKit

theorem mparse_in {l : List UInt8} {m : Pl.Msg} (h : Pl.mparse l = some m) : Pl.MsgIn m := by
  unfold Pl.mparse at h
  split at h
  · split at h
    · injection h with h
      rw [← h]; exact msgOf_in _
    · cases h
  · cases h
theorem read_back {ms : List Pl.Msg} {t : List UInt8} (hin : ∀ m ∈ ms, Pl.MsgIn m) (h : Pl.txtFrom Pl.mline [] ms = some t) : Pl.readFrom Pl.mparse [] t = .ok ms := by
  obtain ⟨u, h1, h2⟩ := Pl.read_text (q := Pl.mparse) (G := Pl.MsgIn) (fun m l hg hp => by
    refine ⟨Pl.mparse_mline hp ?_, ?_⟩
    · obtain ⟨h0, h1, h2, h3, h4, h5, h6, h7, h8⟩ := hg
      intro n hn
      simp only [List.mem_cons, List.not_mem_nil, or_false] at hn
      rcases hn with rfl | rfl | rfl | rfl | rfl | rfl | rfl | rfl
      all_goals assumption
    · unfold Pl.mline at hp
      split at hp
      · have e : Pl.mtext m = l := by simpa using hp
        rw [← e]; exact Pl.mtext_count10 m
      · cases hp) ms [] t hin h
  rw [h1]
  exact h2 []
theorem txt_len : ∀ {ms : List Pl.Msg} {a t : List UInt8}, (∀ m ∈ ms, Pl.MsgIn m) → Pl.txtFrom Pl.mline a ms = some t → t.length ≤ a.length + ms.length * 1001 := by
  intro ms
  induction ms with
  | nil =>
    intro a t _ h
    rw [Pl.txtFrom] at h
    injection h with h
    subst h; omega
  | cons m r ih =>
    intro a t hin h
    cases hp : Pl.mline m with
    | none => rw [Pl.txtFrom_none hp] at h; cases h
    | some l =>
      rw [Pl.txtFrom_some hp] at h
      have h1 := ih (fun x hx => hin x (List.mem_cons_of_mem _ hx)) h
      have h2 := mline_len (hin m (by simp)) hp
      simp at h1 ⊢
      omega

set_option maxHeartbeats 4000000 in
set_option maxRecDepth 100000 in
theorem law_ReportBack_of (v : Value) (ms : List Pl.Msg) (s : ByteArray) (w : World) (hE : Env w) (hms : MsgsArg w v ms) (hlen : ms.length ≤ 9223372036854775807) : Calls Tryd.prog 12 #[v, .string s] w (TrueP w) := by
  have HE := Lib.hid hE
  have HMS := Lib.hid hms.1
  have HIN := Lib.hid hms.2
  obtain ⟨p, c, rfl⟩ := hms.1.form
  clear hms hE
  by_cases hs : (60 : Int) < ms.length
  · go_enter Tryd.func12, Tryd.ntmps12
    go_wp2_with fail
    refine (alive36 w HE.out).mono ?_
    rintro e w1 ⟨rfl, hb⟩
    have HB := Lib.hid hb
    clear hb
    go_wp2_with fail
    go_ret
    exact ⟨rfl, HB.out⟩
  have hl : ms.length ≤ 60 := by omega
  obtain ⟨l, rfl⟩ : ∃ l : List UInt8, s = ⟨l.toArray⟩ := ⟨s.data.toList, rfl⟩
  by_cases hs2 : (300 : Int) < l.length
  · have hs1 : decide ((60 : Int) < ms.length) = false := decide_eq_false hs
    go_enter Tryd.func12, Tryd.ntmps12
    go_wp2_with fail
    refine (alive36 w HE.out).mono ?_
    rintro e w1 ⟨rfl, hb⟩
    have HB := Lib.hid hb
    clear hb
    go_wp2_with fail
    go_ret
    exact ⟨rfl, HB.out⟩
  have hl3 : l.length ≤ 300 := by omega
  have HC := Lib.hid (report_Parse l w HE.out (by omega))
  unfold MsgPost at HC
  go_enter Tryd.func12, Tryd.ntmps12
  go_wp2_with fail
  refine HC.out.mono ?_
  rintro e w1 ⟨hb1, hcase⟩
  clear HC
  rcases hp : Pl.mparse l with _ | m
  · rw [hp] at hcase
    obtain rfl := hcase
    have HB1 : Hid (Below w.heap.size w (w1.alloc (.cells zeroMsg.arr 62))) := hb1.alloc hb1.size _
    clear hp hb1
    unfold zeroMsg Pl.Msg.arr at *
    have HMW := Lib.hid (HMS.out.below HB1.out)
    have HT1 := Lib.hid (report_Text _ ms (w1.alloc (.cells #[.int .i64 0, .int .i64 0, .int .i64 0, .int .i64 0, .int .i64 0, .int .i64 0, .int .i64 0, .int .i64 0, .int .i64 0] 62)) (HE.out.below (Nat.le_refl _) HB1.out) HMW.out HIN.out (by omega))
    unfold TxtPost at HT1
    go_wp2_with fail
    refine HT1.out.mono ?_
    rintro e w5 ⟨hb5, hcase⟩
    have HB5 : Hid (Below w.heap.size w w5) := HB1.out.trans (hb5.mono HB1.out.size)
    have HM5 := Lib.hid (HMW.out.below hb5)
    clear hb5 HT1 HMW
    rcases htx : Pl.txtFrom Pl.mline [] ms with _ | t
    · rw [htx] at hcase
      obtain rfl := hcase
      clear htx
      go_wp2_with fail
      refine (alive36 w5 (HE.out.below (Nat.le_refl _) HB5.out)).mono ?_
      rintro e w6 ⟨rfl, hb6⟩
      have HB6 : Hid (Below w.heap.size w w6) := HB5.out.trans (hb6.mono HB5.out.size)
      clear hb6
      go_wp2_with fail
      go_ret
      exact ⟨rfl, HB6.out⟩
    · rw [htx] at hcase
      obtain rfl := hcase
      have HRD := Lib.hid (read_back HIN.out htx)
      have hlt := txt_len HIN.out htx
      have htl : t.length ≤ 100000 := by simp at hlt; omega
      clear htx hlt
      have HRR := Lib.hid (report_Read t w5 (HE.out.below (Nat.le_refl _) HB5.out) htl)
      unfold MrdPost at HRR
      rw [HRD.out] at HRR
      go_wp2_with fail
      refine HRR.out.mono ?_
      rintro e w6 ⟨hb6, v, rfl, ho⟩
      have HB6 : Hid (Below w.heap.size w w6) := HB5.out.trans (hb6.mono HB5.out.size)
      have HLS := Lib.hid (lists_same v _ ms w6 (.of ho rfl) (HM5.out.below hb6) (by omega))
      clear hb6 ho HRR HM5
      go_wp2_with fail
      refine HLS.out.mono ?_
      rintro e w7 ⟨rfl, hb7⟩
      have HB7 : Hid (Below w.heap.size w w7) := HB6.out.trans (hb7.mono HB6.out.size)
      clear hb7 HLS
      go_wp2_with fail
      refine (alive36 w7 (HE.out.below (Nat.le_refl _) HB7.out)).mono ?_
      rintro e w8 ⟨rfl, hb8⟩
      have HB8 : Hid (Below w.heap.size w w8) := HB7.out.trans (hb8.mono HB7.out.size)
      clear hb8
      go_wp2_with fail
      go_ret
      exact ⟨rfl, HB8.out⟩
  · rw [hp] at hcase
    obtain rfl := hcase
    have HML := Lib.hid (Pl.mline_mparse hp)
    have hmi := mparse_in hp
    clear hp
    have HB1 : Hid (Below w.heap.size w (w1.alloc (.cells m.arr 62))) := hb1.alloc hb1.size _
    have HLN := Lib.hid (report_Line m hmi (w1.alloc (.cells m.arr 62)) (HE.out.below (Nat.le_refl _) HB1.out))
    unfold MLinePost at HLN
    rw [HML.out] at HLN
    clear hb1 hmi HML
    obtain ⟨m0, m1, m2, m3, m4, m5, m6, m7, m8⟩ := m
    simp only [Pl.Msg.arr] at HB1 HLN
    simp only [Pl.Msg.arr]
    go_wp2_with fail
    generalize w1.alloc (.cells #[.int .i64 m0, .int .i64 m1, .int .i64 m2, .int .i64 m3, .int .i64 m4, .int .i64 m5, .int .i64 m6, .int .i64 m7, .int .i64 m8] 62) = w2 at *
    refine HLN.out.mono ?_
    rintro e w3 ⟨hb3, rfl⟩
    have HB3 : Hid (Below w.heap.size w w3) := HB1.out.trans (hb3.mono HB1.out.size)
    clear hb3 HLN HB1
    have HMW := Lib.hid (HMS.out.below HB3.out)
    have HT1 := Lib.hid (report_Text _ ms w3 (HE.out.below (Nat.le_refl _) HB3.out) HMW.out HIN.out (by omega))
    unfold TxtPost at HT1
    go_wp2_with fail
    refine HT1.out.mono ?_
    rintro e w5 ⟨hb5, hcase⟩
    have HB5 : Hid (Below w.heap.size w w5) := HB3.out.trans (hb5.mono HB3.out.size)
    have HM5 := Lib.hid (HMW.out.below hb5)
    clear hb5 HT1 HMW
    rcases htx : Pl.txtFrom Pl.mline [] ms with _ | t
    · rw [htx] at hcase
      obtain rfl := hcase
      clear htx
      go_wp2_with fail
      refine (alive36 w5 (HE.out.below (Nat.le_refl _) HB5.out)).mono ?_
      rintro e w6 ⟨rfl, hb6⟩
      have HB6 : Hid (Below w.heap.size w w6) := HB5.out.trans (hb6.mono HB5.out.size)
      clear hb6
      go_wp2_with fail
      go_ret
      exact ⟨rfl, HB6.out⟩
    · rw [htx] at hcase
      obtain rfl := hcase
      have HRD := Lib.hid (read_back HIN.out htx)
      have hlt := txt_len HIN.out htx
      have htl : t.length ≤ 100000 := by simp at hlt; omega
      clear htx hlt
      have HRR := Lib.hid (report_Read t w5 (HE.out.below (Nat.le_refl _) HB5.out) htl)
      unfold MrdPost at HRR
      rw [HRD.out] at HRR
      go_wp2_with fail
      refine HRR.out.mono ?_
      rintro e w6 ⟨hb6, v, rfl, ho⟩
      have HB6 : Hid (Below w.heap.size w w6) := HB5.out.trans (hb6.mono HB5.out.size)
      have HLS := Lib.hid (lists_same v _ ms w6 (.of ho rfl) (HM5.out.below hb6) (by omega))
      clear hb6 ho HRR HM5
      go_wp2_with fail
      refine HLS.out.mono ?_
      rintro e w7 ⟨rfl, hb7⟩
      have HB7 : Hid (Below w.heap.size w w7) := HB6.out.trans (hb7.mono HB6.out.size)
      clear hb7 HLS
      go_wp2_with fail
      refine (alive36 w7 (HE.out.below (Nat.le_refl _) HB7.out)).mono ?_
      rintro e w8 ⟨rfl, hb8⟩
      have HB8 : Hid (Below w.heap.size w w8) := HB7.out.trans (hb8.mono HB7.out.size)
      clear hb8
      go_wp2_with fail
      go_ret
      exact ⟨rfl, HB8.out⟩

theorem law_ReportBack {w0 : World} (v : Value) (ms : List Pl.Msg) (y : MsgsArg w0 v ms ∧ ms.length ≤ 9223372036854775807) (s : ByteArray) (w : World) (hE : Env w) (hw : w0 = w := by rfl) : Calls Tryd.prog 12 #[v, .string s] w (TrueP w) := by
  subst hw
  exact law_ReportBack_of v ms s w0 hE y.1 y.2

end Go.Proofs.YtbcepdacfmbekaaDoor
