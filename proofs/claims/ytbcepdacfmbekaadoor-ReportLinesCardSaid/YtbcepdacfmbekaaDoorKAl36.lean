/-
  The walks of damperlaw36.alive, the chapter's example, and of the law ReportParses.
-/
import Derived.Test.YtbcepdacfmbekaaDoorKMPs
namespace Go.Proofs.YtbcepdacfmbekaaDoor
open Go.RowKit

def exMsg : Pl.Msg := ⟨3, 0, 2, 5, 3, 7, 10, 1, 1⟩
def exLine : List UInt8 := [50, 32, 53, 32, 48, 32, 116, 114, 97, 100, 101, 32, 51, 32, 55, 32, 49, 48, 32, 49, 32, 49]
theorem exMsg_line : Pl.mline exMsg = some exLine := by decide +kernel
theorem exLine_parse : ∃ m, Pl.mparse exLine = some m ∧ m.id = 3 := by
  have h : (Pl.mparse exLine).map (·.id) = some 3 := by decide +kernel
  obtain ⟨m, h1, h2⟩ := Option.map_eq_some_iff.1 h
  exact ⟨m, h1, h2⟩
def exWord : List UInt8 := [108, 101, 118, 101, 108]

set_option maxHeartbeats 1000000 in
set_option maxRecDepth 100000 in
theorem alive36 (w : World) (hE : Env w) : Calls Tryd.prog 39 #[] w (TrueP w) := by
  have HE := Lib.hid hE
  have HC := Lib.hid (report_Line exMsg (by unfold Pl.MsgIn Pl.in64 exMsg; simp) w hE)
  clear hE
  go_enter Tryd.func39, Tryd.ntmps39
  go_wp2_with fail
  refine HC.out.mono ?_
  rintro e w1 ⟨hb1, hcase⟩
  rw [exMsg_line] at hcase
  obtain rfl := hcase
  have HB1 := Lib.hid hb1
  have HP := Lib.hid (report_Parse exLine w1 (HE.out.below (Nat.le_refl _) hb1) (by simp [exLine]))
  clear hb1 HC
  go_wp2_with fail
  refine HP.out.mono ?_
  rintro e w2 ⟨hb2, hcase⟩
  obtain ⟨m, hm, h3⟩ := exLine_parse
  rw [hm] at hcase
  obtain rfl := hcase
  have HB2 : Hid (Below w.heap.size w w2) := HB1.out.trans (hb2.mono HB1.out.size)
  have HB3 : Hid (Below w.heap.size w (w2.alloc (.cells m.arr 62))) := HB2.out.alloc HB2.out.size _
  have c4 : (w2.alloc (.cells m.arr 62)).cell? ⟨w2.heap.size, 4, none⟩ = some (.int .i64 3) := by
    rw [World.cell?_alloc_new, ← h3]; rfl
  have HW := Lib.hid (report_Word 9 (w2.alloc (.cells m.arr 62)))
  rw [show StrPost (Pl.kword 9) = StrPost exWord from rfl] at HW
  clear hb2 hm h3 HP HB2
  unfold Pl.Msg.arr at *
  go_wp2_with fail
  refine HW.out.mono ?_
  rintro e w4 ⟨rfl, hb4⟩
  have HB4 : Hid (Below w.heap.size w w4) := HB3.out.trans (hb4.mono HB3.out.size)
  unfold exWord
  clear hb4 HW c4
  go_wp2_with fail
  go_ret
  exact ⟨rfl, HB4.out⟩

/-- What Parse answers: a message, and a fault. -/
def mres (l : List UInt8) : Pl.Msg × Int := match Pl.mparse l with
  | some m => (m, 0)
  | none => (zeroMsg, 4)
theorem MsgPost.res {l : List UInt8} {w w' : World} {e : Ending} (h : MsgPost l w e w') : e = .returned (.tuple #[.agg (mres l).1.arr, .int .i64 (mres l).2]) ∧ Below w.heap.size w w' := by
  obtain ⟨h1, h2⟩ := h
  unfold mres
  cases hp : Pl.mparse l with
  | none => rw [hp] at h2; exact ⟨h2, h1⟩
  | some m => rw [hp] at h2; exact ⟨h2, h1⟩

set_option maxHeartbeats 4000000 in
set_option maxRecDepth 100000 in
theorem law_ReportParses (s : ByteArray) (w : World) (hE : Env w) : Calls Tryd.prog 9 #[.string s] w (TrueP w) := by
  have HE := Lib.hid hE
  clear hE
  by_cases hs : (300 : Int) < s.size
  · go_enter Tryd.func9, Tryd.ntmps9
    go_wp2_with fail
    refine (alive36 w HE.out).mono ?_
    rintro e w1 ⟨rfl, hb⟩
    have HB := Lib.hid hb
    clear hb
    go_wp2_with fail
    go_ret
    exact ⟨rfl, HB.out⟩
  obtain ⟨l, rfl⟩ : ∃ l : List UInt8, s = ⟨l.toArray⟩ := ⟨s.data.toList, rfl⟩
  have hsz : (⟨l.toArray⟩ : ByteArray).size = l.length := by rw [Lib.size_eq]
  have hll : l.length ≤ 300 := by omega
  have hs2 : ¬ (300 : Int) < l.length := by omega
  have HC := Lib.hid ((report_Parse l w HE.out (by omega)).mono fun _ _ h => h.res)
  have HR := Lib.hid (fun w => (ref36_Parse l w (by omega)).mono fun _ _ h => h.res)
  clear hs hsz
  generalize mres l = r at *
  obtain ⟨⟨m0, m1, m2, m3, m4, m5, m6, m7, m8⟩, f⟩ := r
  simp only [Pl.Msg.arr] at HC HR
  go_enter Tryd.func9, Tryd.ntmps9
  go_wp2_with fail
  refine HC.out.mono ?_
  rintro e w1 ⟨rfl, hb1⟩
  have HB1 : Hid (Below w.heap.size w (w1.alloc (.cells #[.int .i64 m0, .int .i64 m1, .int .i64 m2, .int .i64 m3, .int .i64 m4, .int .i64 m5, .int .i64 m6, .int .i64 m7, .int .i64 m8] 62))) := hb1.alloc hb1.size _
  have HK1 : Hid (Blk (w1.alloc (.cells #[.int .i64 m0, .int .i64 m1, .int .i64 m2, .int .i64 m3, .int .i64 m4, .int .i64 m5, .int .i64 m6, .int .i64 m7, .int .i64 m8] 62)) w1.heap.size #[.int .i64 m0, .int .i64 m1, .int .i64 m2, .int .i64 m3, .int .i64 m4, .int .i64 m5, .int .i64 m6, .int .i64 m7, .int .i64 m8] 62) := Blk.alloc _ _
  have hs1 : (w1.alloc (.cells #[.int .i64 m0, .int .i64 m1, .int .i64 m2, .int .i64 m3, .int .i64 m4, .int .i64 m5, .int .i64 m6, .int .i64 m7, .int .i64 m8] 62)).heap.size = w1.heap.size + 1 := World.size_alloc _ _
  clear hb1 HC
  go_wp2_with fail
  generalize w1.alloc (.cells #[.int .i64 m0, .int .i64 m1, .int .i64 m2, .int .i64 m3, .int .i64 m4, .int .i64 m5, .int .i64 m6, .int .i64 m7, .int .i64 m8] 62) = w2 at *
  refine (HR.out w2).mono ?_
  rintro e w3 ⟨rfl, hb3⟩
  have HB3 : Hid (Below w.heap.size w (w3.alloc (.cells #[.int .i64 m0, .int .i64 m1, .int .i64 m2, .int .i64 m3, .int .i64 m4, .int .i64 m5, .int .i64 m6, .int .i64 m7, .int .i64 m8] 62))) := (HB1.out.trans (hb3.mono HB1.out.size)).alloc (Nat.le_trans HB1.out.size hb3.size) _
  have HK3 : Hid (Blk (w3.alloc (.cells #[.int .i64 m0, .int .i64 m1, .int .i64 m2, .int .i64 m3, .int .i64 m4, .int .i64 m5, .int .i64 m6, .int .i64 m7, .int .i64 m8] 62)) w1.heap.size #[.int .i64 m0, .int .i64 m1, .int .i64 m2, .int .i64 m3, .int .i64 m4, .int .i64 m5, .int .i64 m6, .int .i64 m7, .int .i64 m8] 62) := (HK1.out.below (by omega) hb3).grown (r := none) (by simp) (World.grownBy_alloc _ _ _)
  have HK4 : Hid (Blk (w3.alloc (.cells #[.int .i64 m0, .int .i64 m1, .int .i64 m2, .int .i64 m3, .int .i64 m4, .int .i64 m5, .int .i64 m6, .int .i64 m7, .int .i64 m8] 62)) w3.heap.size #[.int .i64 m0, .int .i64 m1, .int .i64 m2, .int .i64 m3, .int .i64 m4, .int .i64 m5, .int .i64 m6, .int .i64 m7, .int .i64 m8] 62) := Blk.alloc _ _
  have HE4 := Lib.hid (HE.out.below (Nat.le_refl _) HB3.out)
  have HAL := Lib.hid (alive36 _ HE4.out)
  clear hb3 HR HK1 HB1
  go_wp2_with (first | (refine wpList_load_row rfl 62 _ rfl w1.heap.size rfl 62 _ (0, 0) _ HK3.out Tryd.underlying62 rfl (by kernel_rfl) ?_) | (refine wpList_load_row rfl 62 _ rfl w3.heap.size rfl 62 _ (0, 0) _ HK4.out Tryd.underlying62 rfl (by kernel_rfl) ?_) | fail)
  refine HAL.out.mono ?_
  rintro e w5 ⟨rfl, hb5⟩
  have HB5 : Hid (Below w.heap.size w w5) := HB3.out.trans (hb5.mono HB3.out.size)
  clear hb5
  go_wp2_with fail
  go_ret
  exact ⟨rfl, HB5.out⟩

end Go.Proofs.YtbcepdacfmbekaaDoor
