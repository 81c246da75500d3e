/-
  The walks of the reference's Line at a tick, and its text of a number (packages damperref35, damperref36).
-/
import Derived.Test.YtbcepdacfmbekaaDoorKDec
import Derived.Test.YtbcepdacfmbekaaDoorKLn
namespace Go.Proofs.YtbcepdacfmbekaaDoor
open Go.RowKit

set_option maxHeartbeats 1000000 in
set_option maxRecDepth 100000 in
theorem ref29_Right_n (kind n : Int) (hk : kind = 2 ∨ kind = 3) (w : World) : Calls Tryd.prog 114 #[.agg (#[.int .i64 kind, .int .i64 0, .int .i64 n, .slice none 0 0])] w (TrueP w) := by
  rcases hk with rfl | rfl
  all_goals
    go_enter Tryd.func114, Tryd.ntmps114
    go_wp2_with fail
    go_ret
    exact ⟨rfl, (Below.refl _ _).alloc (Nat.le_refl _) _⟩

set_option maxHeartbeats 1000000 in
set_option maxRecDepth 100000 in
theorem ref35_Line_tick (n : Int) (h0 : -9223372036854775808 ≤ n) (h1 : n ≤ 9223372036854775807) (w : World) : Calls Tryd.prog 53 #[.agg (#[.int .i64 2, .int .i64 0, .int .i64 n, .slice none 0 0])] w (LinePost (wTick ++ 32 :: Pl.decimal n) 0 w) := by
  go_enter Tryd.func53, Tryd.ntmps53
  go_wp2_with fail
  refine (ref29_Right_n 2 n (.inl rfl) _).mono ?_
  rintro e w1 ⟨rfl, hb1⟩
  have HBB : Hid (Blk w1 w.heap.size #[.int .i64 2, .int .i64 0, .int .i64 n, .slice none 0 0] 42) := (Blk.alloc (w := w) _ _).below (by simp) hb1
  have HB1 : Hid (Below w.heap.size w w1) := ((Below.refl _ _).alloc (Nat.le_refl _) _).trans (hb1.mono (by simp))
  have c0 := HBB.out.cell 0
  have c2 := HBB.out.cell 2
  have hs1 := HBB.out.lt
  have HD := Lib.hid (ref_decimal n h0 h1 w1)
  have HE := Lib.hid (show (⟨#[116, 105, 99, 107, 32]⟩ : ByteArray) ++ ⟨(Pl.decimal n).toArray⟩ = ⟨(wTick ++ 32 :: Pl.decimal n).toArray⟩ from ba_append [116, 105, 99, 107, 32] (Pl.decimal n))
  clear hb1
  generalize wTick ++ 32 :: Pl.decimal n = res at *
  unfold DecPost at HD
  have hlen := Pl.decimal_length h0 h1
  generalize Pl.decimal n = d at *
  go_wp2_with fail
  refine HD.out.mono ?_
  rintro e w2 ⟨rfl, hb2⟩
  have HB2 : Hid (Below w.heap.size w w2) := HB1.out.trans (hb2.mono (by omega))
  clear hb2 HD c0 c2
  have he := HE.out
  go_wp2_with fail
  go_ret2
  exact ⟨rfl, HB2.out⟩

/-- A text from its fifth byte on. -/
theorem str_from5 (d : List UInt8) (W : World) : (Instr.sliceAt 9 (.string ⟨(wTick ++ 32 :: d).toArray⟩) (some (.int .i64 5)) none none).run Tryd.prog W = .ok (.string ⟨d.toArray⟩) W := by
  rw [run_sliceAt_string _ _ _ _ _ _ Tryd.underlying9, run_slice_string_l W 9 _ Tryd.underlying9 .i64 5 (by omega) (by rw [Lib.size_eq]; simp [wTick]; omega)]
  congr 2
  apply ByteArray.ext
  apply Array.ext'
  exact (Lib.extract_to_end _ _).trans (by simp [wTick])

set_option maxHeartbeats 1000000 in
set_option maxRecDepth 100000 in
theorem ref36_text (n : Int) (h0 : -9223372036854775808 ≤ n) (h1 : n ≤ 9223372036854775807) (w : World) : Calls Tryd.prog 103 #[.int .i64 n] w (NumTextPost n w) := by
  have HC := Lib.hid (ref35_Line_tick n h0 h1 w)
  have hs := str_from5 (Pl.decimal n)
  unfold LinePost at HC
  generalize wTick ++ 32 :: Pl.decimal n = res at *
  generalize hdec : Pl.decimal n = d at *
  have HD := Lib.hid hdec
  clear hdec
  go_enter Tryd.func103, Tryd.ntmps103
  go_wp2_with fail
  refine HC.out.mono ?_
  rintro e w1 ⟨rfl, hb1⟩
  have HB1 := Lib.hid hb1
  clear hb1 HC
  go_wp2_with fail
  go_ret
  exact ⟨congrArg (fun l : List UInt8 => Ending.returned (.string ⟨l.toArray⟩)) HD.out.symm, HB1.out⟩

end Go.Proofs.YtbcepdacfmbekaaDoor
