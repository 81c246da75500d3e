/-
  The walks of the reference's Read of messages, and of Lists (packages damperref36, damperref06); the law ReportReads.
-/
import Derived.Test.YtbcepdacfmbekaaDoorKRRd
import Derived.Test.YtbcepdacfmbekaaDoorKAl36
import Derived.Deep.QuietTactic
import Derived.BigQuiet
namespace Go.Proofs.YtbcepdacfmbekaaDoor
open Go.RowKit

theorem text_index (x : List UInt8) (k : Nat) (hk : k < x.length) (W : World) : (Instr.index 9 (.string ⟨x.toArray⟩) (.int .i64 k)).run Tryd.prog W = .ok (.int .u8 (x.getD k 0).toNat) W := by
  rw [run_index_string _ _ _ _ _ Tryd.underlying9, dif_pos ⟨by omega, by rw [Lib.size_eq]; simpa using hk⟩]
  congr 3
  exact congrArg UInt8.toNat (ba_get x k (by rw [Lib.size_eq]; simpa using hk))
theorem text_extract (l : List UInt8) (f i : Nat) : (⟨l.toArray⟩ : ByteArray).extract f i = ⟨((l.drop f).take (i - f)).toArray⟩ := by
  apply ByteArray.ext
  apply Array.ext'
  exact Lib.extract_data ⟨l.toArray⟩ f i

set_option maxHeartbeats 4000000 in
set_option maxRecDepth 100000 in
theorem ref36_Read (l : List UInt8) (w : World) (hl : l.length ≤ 100000) : Calls Tryd.prog 49 #[.string ⟨l.toArray⟩] w (MrdPost l w) := by
  have HBAD := Lib.hid (fun w' n => @MrdPost.bad l w w' n)
  have HOK := Lib.hid (fun w' ms v => @MrdPost.ok l w w' ms v)
  have hsz : (⟨l.toArray⟩ : ByteArray).size = l.length := by rw [Lib.size_eq]
  go_enter Tryd.func49, Tryd.ntmps49
  go_wp2_with fail
  go_loopw [5, 6, 7] (fun v fv iv wr => ∃ (f i : Nat) (acc : List Pl.Msg), f ≤ i ∧ i ≤ l.length ∧ acc.length ≤ f ∧ fv = .int .i64 f ∧ iv = .int .i64 i ∧ Hid (Msgs wr w.heap.size v acc.length acc) ∧ Hid (Below w.heap.size w wr) ∧ Hid (Pl.readFrom Pl.mparse [] l = Pl.readFrom Pl.mparse acc (l.drop f)) ∧ Hid (∀ j, f ≤ j → j < i → l[j]? ≠ some 10)) (fun _ _ iv _ => l.length - (intOf iv).toNat)
  case atStart => exact ⟨0, 0, [], by omega, by omega, by simp, rfl, rfl, World.ownsRow_nil _ _ _ _, Below.refl _ _, rfl, fun j h1 h2 => absurd h2 (by omega)⟩
  case round =>
    obtain ⟨f, i, acc, hfi, hil, hacc, rfl, rfl, HM, HB, HR, HJ⟩ := hrel
    obtain ⟨p, c, rfl⟩ := ownsRow_slice HM.out
    have haccI : (acc.length : Int) ≤ 100000 := by omega
    by_cases hlt : i < l.length
    · have hidx := text_index l i hlt
      have HG := Lib.hid (show l[i]? = some (l.getD i 0) by simp [List.getD, hlt])
      generalize l.getD i 0 = x at *
      have hiI : ((i : Int) < l.length) = True := eq_true (by omega)
      by_cases hx : x = 10
      · subst hx
        have HCL := Lib.hid (Pl.cut_line hfi HJ.out HG.out)
        have hne : l.drop f ≠ [] := by
          intro e
          have := congrArg List.length e
          simp at this; omega
        have HSTEP := Lib.hid (fun m h => @Pl.readFrom_step Pl.Msg Pl.mparse acc (l.drop f) m hne h)
        have HBD := Lib.hid (@Pl.readFrom_bad Pl.Msg Pl.mparse acc (l.drop f) hne)
        have hex := text_extract l f i
        have hpl : ((l.drop f).take (i - f)).length ≤ 1000000 := by simp; omega
        rw [HCL.out] at HSTEP HBD
        generalize (l.drop f).take (i - f) = piece at *
        have HC := Lib.hid ((ref36_Parse piece wr hpl).mono fun _ _ h => h)
        have hfI : (0 : Int) ≤ f := by omega
        have hfi2 : (f : Int) ≤ i := by omega
        have hil2 : (i : Int) ≤ l.length := by omega
        go_wp2_with fail
        refine HC.out.mono ?_
        rintro e w1 ⟨hb1, hcase⟩
        have hb1s := hb1.size
        have HB1 : Hid (Below w.heap.size w w1) := HB.out.trans (hb1.mono HB.out.size)
        have HM1 : Hid (Msgs w1 w.heap.size (.slice p acc.length c) acc.length acc) := HM.out.kept (grownBy_of_below' hb1 none) (by cases (Value.slice p acc.length c).ownBlock <;> simp)
        clear hb1 HC hex
        rcases hp : Pl.mparse piece with _ | m
        · rw [hp] at hcase
          obtain rfl := hcase
          have HN := Lib.hid (HR.out.trans (HBD.out (.inr hp)))
          clear hp
          have HB2 : Hid (Below w.heap.size w (w1.alloc (.cells zeroMsg.arr 62))) := HB1.out.alloc HB1.out.size _
          unfold zeroMsg Pl.Msg.arr at *
          go_wp2_with fail
          go_ret3
          exact HBAD.out _ _ HN.out HB2.out
        · rw [hp] at hcase
          obtain rfl := hcase
          have HN := Lib.hid (HR.out.trans (HSTEP.out m trivial hp))
          clear hp
          obtain ⟨m0, m1, m2, m3, m4, m5, m6, m7, m8⟩ := m
          simp only [Pl.Msg.arr]
          have HB2 : Hid (Below w.heap.size w ((w1.alloc (.cells #[.int .i64 m0, .int .i64 m1, .int .i64 m2, .int .i64 m3, .int .i64 m4, .int .i64 m5, .int .i64 m6, .int .i64 m7, .int .i64 m8] 62)).alloc (.cells #[.int .i64 m0, .int .i64 m1, .int .i64 m2, .int .i64 m3, .int .i64 m4, .int .i64 m5, .int .i64 m6, .int .i64 m7, .int .i64 m8] 62))) := (HB1.out.alloc HB1.out.size _).alloc (by simp; have := HB1.out.size; omega) _
          have HM2 : Hid (Msgs ((w1.alloc (.cells #[.int .i64 m0, .int .i64 m1, .int .i64 m2, .int .i64 m3, .int .i64 m4, .int .i64 m5, .int .i64 m6, .int .i64 m7, .int .i64 m8] 62)).alloc (.cells #[.int .i64 m0, .int .i64 m1, .int .i64 m2, .int .i64 m3, .int .i64 m4, .int .i64 m5, .int .i64 m6, .int .i64 m7, .int .i64 m8] 62)) w.heap.size (.slice p acc.length c) acc.length acc) := (HM1.out.alloc _).alloc _
          have HNW := Lib.hid (@msg_news (w1.alloc (.cells #[.int .i64 m0, .int .i64 m1, .int .i64 m2, .int .i64 m3, .int .i64 m4, .int .i64 m5, .int .i64 m6, .int .i64 m7, .int .i64 m8] 62)) ⟨m0, m1, m2, m3, m4, m5, m6, m7, m8⟩)
          rw [World.size_alloc] at HNW
          have hbase : w.heap.size ≤ ((w1.alloc (.cells #[.int .i64 m0, .int .i64 m1, .int .i64 m2, .int .i64 m3, .int .i64 m4, .int .i64 m5, .int .i64 m6, .int .i64 m7, .int .i64 m8] 62)).alloc (.cells #[.int .i64 m0, .int .i64 m1, .int .i64 m2, .int .i64 m3, .int .i64 m4, .int .i64 m5, .int .i64 m6, .int .i64 m7, .int .i64 m8] 62)).heap.size := HB2.out.size
          have hal : acc.length + 1 ≤ 1000000 := by omega
          have HK := Lib.hid ((Blk.alloc (w := w1) #[.int .i64 m0, .int .i64 m1, .int .i64 m2, .int .i64 m3, .int .i64 m4, .int .i64 m5, .int .i64 m6, .int .i64 m7, .int .i64 m8] 62))
          clear HM HB HM1 HB1
          go_wp2_with (first | (refine wpList_load_row rfl 62 _ rfl w1.heap.size rfl 62 #[.int .i64 m0, .int .i64 m1, .int .i64 m2, .int .i64 m3, .int .i64 m4, .int .i64 m5, .int .i64 m6, .int .i64 m7, .int .i64 m8] (0, 0) _ HK.out Tryd.underlying62 rfl (by kernel_rfl) ?_) | (at_builtin; go_must (refine wpList_append_msg rfl (.tmp 34) (.tmp 36) rfl w.heap.size acc (.slice p acc.length c) rfl HM2.out ⟨m0, m1, m2, m3, m4, m5, m6, m7, m8⟩ ⟨w1.heap.size + 1, 0, none⟩ 1 rfl HNW.out hal hbase ?_); intro g2 n2 c2 w3 hn hown' hgrow' hat; have HO3 := Lib.hid hown'; have HG3 := Lib.hid hgrow'; have HN3 := Lib.hid hn; clear hown' hgrow' hn hat))
          have HB3 : Hid (Below w.heap.size w w3) := HB2.out.grown HG3.out (Nat.le_trans HB2.out.size (Nat.le_refl _)) (fun k hk => (HM2.out.lt k hk).1)
          have HO4 := HO3.out
          rw [HN3.out] at HO4 ⊢
          have HO5 := Lib.hid HO4
          clear HO4
          go_roundw
          case rel => exact ⟨i + 1, i + 1, acc ++ [(⟨m0, m1, m2, m3, m4, m5, m6, m7, m8⟩ : Pl.Msg)], Nat.le_refl _, by omega, by simp; omega, by go_num, by go_num, HO5.out, HB3.out, HN.out, fun j h1 h2 => absurd h2 (by omega)⟩
          case measure => simp [intOf]; omega
      · have hxb : ((x.toNat : Int) != 10) = true := by
          rw [bne_iff_ne]
          intro e
          apply hx
          apply UInt8.toNat_inj.1
          rw [show (10 : UInt8).toNat = 10 from rfl]; omega
        have HX := Lib.hid hx
        clear hx
        go_wp2_with fail
        go_roundw
        case rel => exact ⟨f, i + 1, acc, by omega, by omega, hacc, rfl, by go_num, HM.out, HB.out, HR.out, fun j h1 h2 => by
          by_cases e : j = i
          · subst e
            rw [HG.out]
            intro h
            exact HX.out (by simpa using h)
          · exact HJ.out j h1 (by omega)⟩
        case measure => simp [intOf]; omega
    · obtain rfl : i = l.length := by omega
      by_cases hf : f < l.length
      · have hne : l.drop f ≠ [] := by
          intro e
          have := congrArg List.length e
          simp at this; omega
        have HN := Lib.hid (HR.out.trans (Pl.readFrom_bad hne (.inl (Pl.cut_rest HJ.out))))
        have hfI : ((f : Int) < l.length) = True := eq_true (by omega)
        clear hlt
        go_wp2_with fail
        go_ret3
        exact HBAD.out _ _ HN.out HB.out
      · have hdn : l.drop f = [] := List.drop_eq_nil_of_le (by omega)
        have HN := Lib.hid (HR.out.trans (by rw [hdn]; exact Pl.readFrom_nil _ _ : _ = Pl.Rd.ok acc))
        clear hdn
        have hfI : ((f : Int) < l.length) = False := eq_false (by omega)
        clear hlt hf
        go_wp2_with fail
        go_ret3
        exact HOK.out _ _ _ HN.out HB.out HM.out

/-- Messages that lie in memory. -/
def MsgsIn (w : World) (v : Value) (ms : List Pl.Msg) : Prop := (∃ p c, v = .slice p 0 c ∧ ms = []) ∨ ∃ g o c, v = .slice (some ⟨g, o, none⟩) ms.length c ∧ g < w.heap.size ∧ ∀ j x, (msgsCells ms)[j]? = some x → w.cell? ⟨g, o + j, none⟩ = some x
theorem MsgsIn.of {w : World} {base n : Nat} {v : Value} {ms : List Pl.Msg} (h : Msgs w base v n ms) (hn : n = ms.length) : MsgsIn w v ms := by
  have hl := h.lt
  have hcells := fun (g : Nat) (hg : v.ownBlock = some g) => h.cells (g := g) hg
  rcases h.2 with ⟨hv, h0⟩ | ⟨g, c, cur, hv, _⟩
  · left
    subst hv
    exact ⟨none, 0, rfl, List.length_eq_zero_iff.1 (by omega)⟩
  · right
    subst hv
    refine ⟨g, 0, c, by rw [hn], (hl g rfl).2, fun j x hx => ?_⟩
    · have := hcells g rfl j x hx
      rw [show (⟨g, 0, none⟩ : Addr).add j = ⟨g, j, none⟩ by unfold Addr.add; split <;> simp_all] at this
      rw [Nat.zero_add]; exact this
theorem MsgsIn.below {w w' : World} {v : Value} {ms : List Pl.Msg} (h : MsgsIn w v ms) (hb : Below w.heap.size w w') : MsgsIn w' v ms := by
  rcases h with h | ⟨g, o, c, h1, h2, h3⟩
  · exact .inl h
  · exact .inr ⟨g, o, c, h1, Nat.lt_of_lt_of_le h2 hb.size, fun j x hx => (hb.cell (p := ⟨g, o + j, none⟩) h2).trans (h3 j x hx)⟩
theorem msgsCells_at {ms : List Pl.Msg} {k : Nat} (hk : k < ms.length) (j : Nat) (hj : j < 9) : (msgsCells ms)[k * 9 + j]? = (ms[k]'hk).arr[j]? := by
  induction ms generalizing k with
  | nil => simp at hk
  | cons m r ih =>
    rw [show msgsCells (m :: r) = m.arr.toList ++ msgsCells r from rfl]
    have ha : m.arr.toList.length = 9 := rfl
    cases k with
    | zero =>
      rw [List.getElem?_append_left (by rw [ha]; omega)]
      simp
    | succ k =>
      rw [List.getElem?_append_right (by rw [ha]; omega), ha, show (k + 1) * 9 + j - 9 = k * 9 + j by omega]
      simpa using ih (k := k) (by simpa using hk)

set_option maxHeartbeats 4000000 in
set_option maxRecDepth 100000 in
theorem lists_same (v1 v2 : Value) (ms : List Pl.Msg) (w : World) (h1 : MsgsIn w v1 ms) (h2 : MsgsIn w v2 ms) (hl : ms.length ≤ 100000) : Calls Tryd.prog 50 #[v1, v2] w (TrueP w) := by
  by_cases hnil : ms = []
  · subst hnil
    obtain ⟨p1, c1, rfl⟩ : ∃ p c, v1 = .slice p 0 c := by
      rcases h1 with ⟨p, c, h, _⟩ | ⟨g, o, c, h, _⟩ <;> exact ⟨_, _, h⟩
    obtain ⟨p2, c2, rfl⟩ : ∃ p c, v2 = .slice p 0 c := by
      rcases h2 with ⟨p, c, h, _⟩ | ⟨g, o, c, h, _⟩ <;> exact ⟨_, _, h⟩
    clear h1 h2
    go_enter Tryd.func50, Tryd.ntmps50
    go_wp2_with fail
    go_loopw [5] (fun i wr => i = .int .i64 0 ∧ wr = w) (fun _ _ => 0)
    case atStart => exact ⟨rfl, rfl⟩
    case round =>
      obtain ⟨rfl, rfl⟩ := hrel
      go_wp2_with fail
      go_ret
      exact ⟨rfl, Below.refl _ _⟩
  obtain ⟨g1, o1, c1, rfl, hg1, hc1⟩ : ∃ g o c, v1 = .slice (some ⟨g, o, none⟩) ms.length c ∧ g < w.heap.size ∧ ∀ j x, (msgsCells ms)[j]? = some x → w.cell? ⟨g, o + j, none⟩ = some x := by
    rcases h1 with ⟨_, _, _, h⟩ | h
    · exact absurd h hnil
    · exact h
  obtain ⟨g2, o2, c2, rfl, hg2, hc2⟩ : ∃ g o c, v2 = .slice (some ⟨g, o, none⟩) ms.length c ∧ g < w.heap.size ∧ ∀ j x, (msgsCells ms)[j]? = some x → w.cell? ⟨g, o + j, none⟩ = some x := by
    rcases h2 with ⟨_, _, _, h⟩ | h
    · exact absurd h hnil
    · exact h
  have HC1 := Lib.hid hc1
  have HC2 := Lib.hid hc2
  clear hc1 hc2 h1 h2 hnil
  go_enter Tryd.func50, Tryd.ntmps50
  go_wp2_with fail
  go_loopw [5] (fun i wr => ∃ k : Nat, k ≤ ms.length ∧ i = .int .i64 k ∧ Hid (Below w.heap.size w wr)) (fun i _ => ms.length - (intOf i).toNat)
  case atStart => exact ⟨0, Nat.zero_le _, rfl, Below.refl _ _⟩
  case round =>
    obtain ⟨k, hk, rfl, HB⟩ := hrel
    by_cases hlt : k < ms.length
    · have HA1 : Hid (∀ j x, j < 9 → (ms[k]'hlt).arr[j]? = some x → wr.cell? ⟨g1, o1 + k * 9 + j, none⟩ = some x) := fun j x hj hx => by
        rw [Nat.add_assoc]
        exact (HB.out.cell (p := ⟨g1, o1 + (k * 9 + j), none⟩) hg1).trans (HC1.out _ _ (by rw [msgsCells_at hlt j hj]; exact hx))
      have HA2 : Hid (∀ j x, j < 9 → (ms[k]'hlt).arr[j]? = some x → wr.cell? ⟨g2, o2 + k * 9 + j, none⟩ = some x) := fun j x hj hx => by
        rw [Nat.add_assoc]
        exact (HB.out.cell (p := ⟨g2, o2 + (k * 9 + j), none⟩) hg2).trans (HC2.out _ _ (by rw [msgsCells_at hlt j hj]; exact hx))
      generalize ms[k]'hlt = m at *
      obtain ⟨m0, m1, m2, m3, m4, m5, m6, m7, m8⟩ := m
      have a0 : wr.cell? ⟨g1, o1 + k * 9, none⟩ = some (.int .i64 m0) := HA1.out 0 _ (by omega) rfl
      have a1 : wr.cell? ⟨g1, o1 + k * 9 + 1, none⟩ = some (.int .i64 m1) := HA1.out 1 _ (by omega) rfl
      have a2 : wr.cell? ⟨g1, o1 + k * 9 + 2, none⟩ = some (.int .i64 m2) := HA1.out 2 _ (by omega) rfl
      have a3 : wr.cell? ⟨g1, o1 + k * 9 + 3, none⟩ = some (.int .i64 m3) := HA1.out 3 _ (by omega) rfl
      have a4 : wr.cell? ⟨g1, o1 + k * 9 + 4, none⟩ = some (.int .i64 m4) := HA1.out 4 _ (by omega) rfl
      have a5 : wr.cell? ⟨g1, o1 + k * 9 + 5, none⟩ = some (.int .i64 m5) := HA1.out 5 _ (by omega) rfl
      have a6 : wr.cell? ⟨g1, o1 + k * 9 + 6, none⟩ = some (.int .i64 m6) := HA1.out 6 _ (by omega) rfl
      have a7 : wr.cell? ⟨g1, o1 + k * 9 + 7, none⟩ = some (.int .i64 m7) := HA1.out 7 _ (by omega) rfl
      have a8 : wr.cell? ⟨g1, o1 + k * 9 + 8, none⟩ = some (.int .i64 m8) := HA1.out 8 _ (by omega) rfl
      have b0 : wr.cell? ⟨g2, o2 + k * 9, none⟩ = some (.int .i64 m0) := HA2.out 0 _ (by omega) rfl
      have b1 : wr.cell? ⟨g2, o2 + k * 9 + 1, none⟩ = some (.int .i64 m1) := HA2.out 1 _ (by omega) rfl
      have b2 : wr.cell? ⟨g2, o2 + k * 9 + 2, none⟩ = some (.int .i64 m2) := HA2.out 2 _ (by omega) rfl
      have b3 : wr.cell? ⟨g2, o2 + k * 9 + 3, none⟩ = some (.int .i64 m3) := HA2.out 3 _ (by omega) rfl
      have b4 : wr.cell? ⟨g2, o2 + k * 9 + 4, none⟩ = some (.int .i64 m4) := HA2.out 4 _ (by omega) rfl
      have b5 : wr.cell? ⟨g2, o2 + k * 9 + 5, none⟩ = some (.int .i64 m5) := HA2.out 5 _ (by omega) rfl
      have b6 : wr.cell? ⟨g2, o2 + k * 9 + 6, none⟩ = some (.int .i64 m6) := HA2.out 6 _ (by omega) rfl
      have b7 : wr.cell? ⟨g2, o2 + k * 9 + 7, none⟩ = some (.int .i64 m7) := HA2.out 7 _ (by omega) rfl
      have b8 : wr.cell? ⟨g2, o2 + k * 9 + 8, none⟩ = some (.int .i64 m8) := HA2.out 8 _ (by omega) rfl
      have hkI : ((k : Int) < ms.length) = True := eq_true (by omega)
      clear HA1 HA2
      go_wp2_with fail
      go_quiet (fail)
      clear a0 a1 a2 a3 a4 a5 a6 a7 a8 b0 b1 b2 b3 b4 b5 b6 b7 b8
      go_wp2_with fail
      go_roundw
      case rel => exact ⟨k + 1, by omega, by go_num, below_drewN HB.out _⟩
      case measure => simp [intOf]; omega
    · obtain rfl : k = ms.length := by omega
      go_wp2_with fail
      go_ret
      exact ⟨rfl, HB.out⟩

/-- What Read answers: the messages' slice, the line's number, the fault. -/
theorem MrdPost.res {l : List UInt8} {w w' : World} {e : Ending} (h : MrdPost l w e w') : ∃ (ms : List Pl.Msg) (v : Value) (n f : Int), e = .returned (.tuple #[v, .int .i64 n, .int .i64 f]) ∧ MsgsIn w' v ms ∧ Below w.heap.size w w' ∧ (match Pl.readFrom Pl.mparse [] l with | .ok ms => (ms, (0 : Int), (0 : Int)) | .bad n => ([], (n : Int), 4)) = (ms, n, f) := by
  obtain ⟨h1, h2⟩ := h
  cases hp : Pl.readFrom Pl.mparse [] l with
  | ok ms =>
    rw [hp] at h2
    obtain ⟨v, rfl, ho⟩ := h2
    exact ⟨ms, v, 0, 0, rfl, .of ho rfl, h1, rfl⟩
  | bad n =>
    rw [hp] at h2
    obtain rfl := h2
    exact ⟨[], _, n, 4, rfl, .inl ⟨none, 0, rfl, rfl⟩, h1, rfl⟩
theorem readFrom_len (p : List UInt8 → Option Pl.Msg) : ∀ (n : Nat) (t : List UInt8) (acc ms : List Pl.Msg), t.length ≤ n → Pl.readFrom p acc t = .ok ms → ms.length ≤ acc.length + t.length := by
  intro n
  induction n with
  | zero =>
    intro t acc ms ht h
    have : t = [] := List.length_eq_zero_iff.1 (by omega)
    subst this
    rw [Pl.readFrom_nil] at h
    injection h with h
    subst h; simp
  | succ n ih =>
    intro t acc ms ht h
    by_cases hne : t = []
    · subst hne
      rw [Pl.readFrom_nil] at h
      injection h with h
      subst h; simp
    · by_cases h2 : (Pl.cutC 10 t).2.2 = true
      · rcases hm : p (Pl.cutC 10 t).1 with _ | m
        · rw [Pl.readFrom_bad hne (.inr hm)] at h; cases h
        · rw [Pl.readFrom_step hne h2 hm] at h
          have hlt := Pl.cutC_lt 10 t hne
          have := ih _ _ _ (by omega) h
          simp at this; omega
      · rw [Pl.readFrom_bad hne (.inl (by simpa using h2))] at h; cases h

set_option maxHeartbeats 4000000 in
set_option maxRecDepth 100000 in
theorem law_ReportReads (s : ByteArray) (w : World) (hE : Env w) : Calls Tryd.prog 11 #[.string s] w (TrueP w) := by
  have HE := Lib.hid hE
  clear hE
  by_cases hs : (1500 : Int) < s.size
  · go_enter Tryd.func11, Tryd.ntmps11
    go_wp2_with fail
    refine (alive36 w HE.out).mono ?_
    rintro e w1 ⟨rfl, hb⟩
    have HB := Lib.hid hb
    clear hb
    go_wp2_with fail
    go_ret
    exact ⟨rfl, HB.out⟩
  obtain ⟨l, rfl⟩ : ∃ l : List UInt8, s = ⟨l.toArray⟩ := ⟨s.data.toList, rfl⟩
  have hsz : (⟨l.toArray⟩ : ByteArray).size = l.length := by rw [Lib.size_eq]
  have hll : l.length ≤ 1500 := by omega
  have hs2 : ¬ (1500 : Int) < l.length := by omega
  have HC := Lib.hid ((report_Read l w HE.out (by omega)).mono fun _ _ h => h.res)
  have HR := Lib.hid (fun w => (ref36_Read l w (by omega)).mono fun _ _ h => h.res)
  have HLN := Lib.hid (fun ms => readFrom_len Pl.mparse l.length l [] ms (Nat.le_refl _))
  clear hs hsz
  generalize hrr : Pl.readFrom Pl.mparse [] l = rr at *
  have HLN2 : Hid ((match rr with | .ok ms => (ms, (0 : Int), (0 : Int)) | .bad n => (([] : List Pl.Msg), (n : Int), 4)).1.length ≤ 1500) := by
    cases rr with
    | ok ms => have := HLN.out ms rfl; simp at this; show ms.length ≤ 1500; omega
    | bad n => show (0 : Nat) ≤ 1500; omega
  clear hrr HLN
  generalize (match rr with | .ok ms => (ms, (0 : Int), (0 : Int)) | .bad n => (([] : List Pl.Msg), (n : Int), 4)) = r at *
  obtain ⟨ms, n, f⟩ := r
  go_enter Tryd.func11, Tryd.ntmps11
  go_wp2_with fail
  refine HC.out.mono ?_
  rintro e w1 ⟨ms1, v1, n1, f1, rfl, hm1, hb1, he1⟩
  simp only [Prod.mk.injEq] at he1
  obtain ⟨rfl, rfl, rfl⟩ := he1
  have HM1 := Lib.hid hm1
  have HB1 := Lib.hid hb1
  clear hm1 hb1 HC
  go_wp2_with fail
  refine (HR.out w1).mono ?_
  rintro e w2 ⟨ms2, v2, n2, f2, rfl, hm2, hb2, he2⟩
  simp only [Prod.mk.injEq] at he2
  obtain ⟨rfl, rfl, rfl⟩ := he2
  have HM2 := Lib.hid hm2
  have HM12 := Lib.hid (HM1.out.below hb2)
  have HB2 : Hid (Below w.heap.size w w2) := HB1.out.trans (hb2.mono HB1.out.size)
  clear hm2 hb2 HR HM1 HB1
  have HLS := Lib.hid (lists_same v1 v2 ms w2 HM12.out HM2.out (by have : ms.length ≤ 1500 := HLN2.out; omega))
  go_wp2_with fail
  refine HLS.out.mono ?_
  rintro e w3 ⟨rfl, hb3⟩
  have HB3 : Hid (Below w.heap.size w w3) := HB2.out.trans (hb3.mono HB2.out.size)
  clear hb3 HLS
  go_wp2_with fail
  refine (alive36 w3 (HE.out.below (Nat.le_refl _) HB3.out)).mono ?_
  rintro e w5 ⟨rfl, hb5⟩
  have HB5 : Hid (Below w.heap.size w w5) := HB3.out.trans (hb5.mono HB3.out.size)
  clear hb5
  go_wp2_with fail
  go_ret
  exact ⟨rfl, HB5.out⟩

end Go.Proofs.YtbcepdacfmbekaaDoor
