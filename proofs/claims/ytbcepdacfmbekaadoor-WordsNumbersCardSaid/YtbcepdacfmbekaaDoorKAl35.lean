/-
  The walk of damperlaw35.alive: the chapter's example. And the law WordsNumbers, whole.
-/
import Derived.Test.YtbcepdacfmbekaaDoorKParse
import Derived.Test.YtbcepdacfmbekaaDoorKWNum
namespace Go.Proofs.YtbcepdacfmbekaaDoor
open Go.RowKit

def exCancel : List UInt8 := [99, 97, 110, 99, 101, 108, 32, 51, 32, 53]
theorem exCancel_parse : Pl.parse exCancel = some ⟨1, 0, 0, [2, 3, 5]⟩ := by
  have h : (Pl.parse exCancel).map (fun s => (s.kind, s.sym, s.n, s.frame)) = some (1, 0, 0, [2, 3, 5]) := by decide +kernel
  obtain ⟨s, hs, h⟩ := Option.map_eq_some_iff.1 h
  rw [hs]
  obtain ⟨a, b, c, d⟩ := s
  simp only [Prod.mk.injEq] at h
  obtain ⟨rfl, rfl, rfl, rfl⟩ := h
  rfl

set_option maxHeartbeats 1000000 in
set_option maxRecDepth 100000 in
theorem alive35 (w : World) (hE : Env w) : Calls Tryd.prog 25 #[] w (TruePost w) := by
  have HC := Lib.hid (words_Parse ⟨exCancel.toArray⟩ w hE (by rw [Lib.size_eq]; simp [exCancel]))
  go_enter Tryd.func25, Tryd.ntmps25
  go_wp2_with fail
  refine HC.out.mono ?_
  rintro e w1 ⟨hb1, hcase⟩
  rw [exCancel_parse] at hcase
  obtain ⟨v, rfl, hown⟩ := hcase
  obtain ⟨g, c, rfl⟩ : ∃ g c, v = .slice (some ⟨g, 0, none⟩) 3 c := by
    rcases hown.2 with ⟨_, h⟩ | ⟨g, c, _, h, _⟩
    · simp at h
    · exact ⟨g, c, h⟩
  have hgl := (hown.lt g rfl).2
  have HB2 : Hid (Below w.heap.size w (w1.alloc (.cells #[.int .i64 1, .int .i64 0, .int .i64 0, .slice (some ⟨g, 0, none⟩) 3 c] 42))) := hb1.alloc hb1.size _
  have hown2 := hown.alloc (.cells #[.int .i64 1, .int .i64 0, .int .i64 0, .slice (some ⟨g, 0, none⟩) 3 c] 42)
  have e0 : (w1.alloc (.cells #[.int .i64 1, .int .i64 0, .int .i64 0, .slice (some ⟨g, 0, none⟩) 3 c] 42)).cell? ⟨g, 0, none⟩ = some (.int .u8 2) := World.ownsRow.cellAt hown2 0 (by simp)
  have e1 : (w1.alloc (.cells #[.int .i64 1, .int .i64 0, .int .i64 0, .slice (some ⟨g, 0, none⟩) 3 c] 42)).cell? ⟨g, 1, none⟩ = some (.int .u8 3) := World.ownsRow.cellAt hown2 1 (by simp)
  have e2 : (w1.alloc (.cells #[.int .i64 1, .int .i64 0, .int .i64 0, .slice (some ⟨g, 0, none⟩) 3 c] 42)).cell? ⟨g, 2, none⟩ = some (.int .u8 5) := World.ownsRow.cellAt hown2 2 (by simp)
  clear hown hown2 hb1 HC
  unfold stepArr
  go_wp2_with fail
  go_ret
  exact ⟨rfl, HB2.out⟩

theorem law_WordsNumbers (s : ByteArray) (w : World) (hE : Env w) : Calls Tryd.prog 6 #[.string s] w (TruePost w) :=
  law_WordsNumbers_of s w hE alive35

end Go.Proofs.YtbcepdacfmbekaaDoor
