/-
  The walk of command.Decode.
-/
import Derived.Test.YtbcepdacfmbekaaDoorKOrd4
import Derived.Test.YtbcepdacfmbekaaDoorKCmd
import Derived.Test.YtbcepdacfmbekaaDoorKEnc
namespace Go.Proofs.YtbcepdacfmbekaaDoor
open Go.RowKit


/-- What comes of a new reader. -/
def NewPost (l : List UInt8) (w : World) (e : Ending) (w' : World) : Prop := ∃ b, e = .returned (.pointer (some ⟨b, 0, none⟩)) ∧ w.heap.size ≤ b ∧ Ord (w.heap.size ≤ ·) w' b (some l) ∧ Below w.heap.size w w'

set_option maxHeartbeats 1000000 in
set_option maxRecDepth 100000 in
theorem new_Reader (v : Value) (l : List UInt8) (ok : Nat → Prop) (w : World) (h : Sl w ok v (byteCells l)) (hl : l.length ≤ 1000000) : Calls Tryd.prog 163 #[v] w (NewPost l w) := by
  have hlen := byteCells_length l
  rcases h with ⟨rfl, h0⟩ | ⟨g, o, c, rfl, hlc, _, hgl, hcs⟩
  · have HC := Lib.hid (Tryd.bytes_Clone_nil 0 0 w)
    have HL : Hid (l = []) := by rw [h0] at hlen; exact List.length_eq_zero_iff.1 (by simpa using hlen.symm)
    clear hlen h0
    go_enter Tryd.func163, Tryd.ntmps163
    go_wp2_with fail
    refine HC.out.mono ?_
    rintro e w1 ⟨rfl, rfl⟩
    go_wp2_with fail
    go_ret
    exact ⟨_, rfl, Nat.le_refl _, ⟨_, Blk.alloc _ _, by rw [HL.out]; exact Sl.nil _ _, hl⟩, (Below.refl _ _).alloc (Nat.le_refl _) _⟩
  · rw [hlen]
    have HC := Lib.hid (bytes_Clone ⟨g, o, none⟩ l.length c l w rfl hl (fun j u hu => by
      have := hcs j u hu
      rw [show (⟨g, o, none⟩ : Addr).add j = ⟨g, o + j, none⟩ by unfold Addr.add; split <;> simp_all]
      exact this))
    clear hlen hcs
    go_enter Tryd.func163, Tryd.ntmps163
    go_wp2_with fail
    refine HC.out.mono ?_
    rintro e w1 ⟨v', rfl, hown, _, hb⟩
    have HO := Lib.hid hown
    have HB := Lib.hid hb
    obtain ⟨p, m, rfl⟩ := ownsRow_slice hown
    clear hown hb HC
    go_wp2_with fail
    go_ret
    have hsl := (Sl.of_row HO.out (byteCells_length l)).grown (r := none) (fun _ _ => by simp) (World.grownBy_alloc w1 (.cells #[.slice p l.length m, .int .i64 0] 238) none)
    refine ⟨_, rfl, HB.out.size, ⟨_, Blk.alloc _ _, ?_, hl⟩, HB.out.alloc HB.out.size _⟩
    rcases hsl with hs | ⟨g2, o2, c2, e2, h3, h4, h5, h6⟩
    · exact .inl hs
    · refine .inr ⟨g2, o2, c2, e2, h3, ⟨?_, h4⟩, h5, h6⟩
      have hx := (HO.out.lt g2 (by rw [e2]; rfl)).2
      omega

set_option maxHeartbeats 1000000 in
theorem decode_one {B : Nat → Prop} (rb b : Nat) (s : Option (List UInt8)) (w : World) (hr : w.cell? ⟨rb, 0, none⟩ = some (.pointer (some ⟨b, 0, none⟩))) (h : Ord B w b s) : Calls Tryd.prog 164 #[.pointer (some ⟨rb, 0, none⟩)] w (UPost B b (.int .i64 (rdU 1 s).1) (rdU 1 s).2 w) := by
  have HC := Lib.hid (ord_Uint b 1 s w h (by decide) (by decide))
  have hlt : (rdU 1 s).1 < 256 := by
    cases s with
    | none => simp [rdU]
    | some l =>
      simp only [rdU]
      by_cases hx : 1 ≤ l.length
      · rw [if_pos hx]
        have := beNat_lt (l.take 1)
        rw [show (l.take 1).length = 1 by simp; omega] at this
        simpa using this
      · rw [if_neg hx]; simp
  generalize rdU 1 s = r at *
  obtain ⟨u, s'⟩ := r
  simp only at HC hlt
  simp only
  go_enter Tryd.func164, Tryd.ntmps164
  go_wp2_with fail
  refine HC.out.mono ?_
  rintro e w1 ⟨rfl, hg, ho⟩
  have HG := Lib.hid hg
  have HO := Lib.hid ho
  clear hg ho HC
  go_wp2_with fail
  go_ret
  exact ⟨rfl, HG.out, HO.out⟩

end Go.Proofs.YtbcepdacfmbekaaDoor
