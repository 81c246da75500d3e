/-
  The walks of the reader of words (package words): one, flags; the lists of words.
-/
import Derived.Test.YtbcepdacfmbekaaDoorKWr
import Derived.WalkMore
import Derived.Deep.LoopGhost
namespace Go.Proofs.YtbcepdacfmbekaaDoor
open Go.RowKit
variable {B : Nat}

theorem words_sides (w : World) : Calls Tryd.prog 171 #[] w fun e w' => e = .returned (.agg #[.string ⟨#[98, 117, 121]⟩, .string ⟨#[115, 101, 108, 108]⟩]) ∧ Below w.heap.size w w' := by
  go_enter Tryd.func171, Tryd.ntmps171
  go_wp2
  go_returns
  exact ⟨rfl, (Below.refl _ _).alloc (Nat.le_refl _) _⟩
theorem words_types (w : World) : Calls Tryd.prog 172 #[] w fun e w' => e = .returned (.agg #[.string ⟨#[108, 105, 109, 105, 116]⟩, .string ⟨#[109, 97, 114, 107, 101, 116]⟩, .string ⟨#[110, 111, 119]⟩, .string ⟨#[97, 108, 108]⟩, .string ⟨#[112, 111, 115, 116]⟩]) ∧ Below w.heap.size w w' := by
  go_enter Tryd.func172, Tryd.ntmps172
  go_wp2
  go_returns
  exact ⟨rfl, (Below.refl _ _).alloc (Nat.le_refl _) _⟩
theorem words_flags (w : World) : Calls Tryd.prog 173 #[] w fun e w' => e = .returned (.agg #[.string ⟨#[115, 104, 111, 114, 116]⟩, .string ⟨#[101, 120, 101, 109, 112, 116]⟩, .string ⟨#[114, 101, 112, 114, 105, 99, 101]⟩]) ∧ Below w.heap.size w w' := by
  go_enter Tryd.func173, Tryd.ntmps173
  go_wp2
  go_returns
  exact ⟨rfl, (Below.refl _ _).alloc (Nat.le_refl _) _⟩

/-- The place of the word ahead among others. -/
def Pl.rone (L : List (List UInt8)) : List (List UInt8) → Option (Int × List (List UInt8))
  | [] => none
  | x :: r => if 0 ≤ Pl.indexOf x L then some (Pl.indexOf x L, r) else none

set_option maxHeartbeats 1000000 in
set_option maxRecDepth 100000 in
theorem reader_one (b : Nat) (l L : List (List UInt8)) (g c : Nat) (w : World) (h : Rdr B w b l) (hL : Strs w g L) (hg : g ≠ b) (hgl : g < w.heap.size) (hl : L.length ≤ 1000) : Calls Tryd.prog 183 #[.pointer (some ⟨b, 0, none⟩), .slice (some ⟨g, 0, none⟩) L.length c] w (RPost B b w (intVal (Pl.rone L l))) := by
  have HN := Lib.hid (fun w' => @RPost.mk_none B b w w' (intVal (Pl.rone L l)))
  have HY := Lib.hid (fun w' => @RPost.mk_some B b w w' (intVal (Pl.rone L l)))
  have HL := Lib.hid hL
  clear hL
  cases l with
  | nil =>
    go_enter Tryd.func183, Tryd.ntmps183
    go_wp2_with fail
    go_step3
    go_wp2_with fail
    refine (word_no b w h).mono ?_
    rintro e w1 ⟨rfl, rfl⟩
    unfold malformed
    go_wp2
    exact ⟨rfl, HN.out _ rfl (grownBy_refl _ _)⟩
  | cons x r =>
    have HO := Lib.hid (show intVal (Pl.rone L (x :: r)) = if 0 ≤ Pl.indexOf x L then some (.int .i64 (Pl.indexOf x L), r) else none by simp only [Pl.rone, intVal]; split <;> rfl)
    go_enter Tryd.func183, Tryd.ntmps183
    go_wp2_with fail
    go_step3
    go_wp2_with fail
    refine (word_yes b x r w h).mono ?_
    rintro e w1 ⟨rfl, hg1, hr1⟩
    have HG1 := Lib.hid hg1
    have HR1 := Lib.hid hr1
    have hL1 : ∀ j, j < L.length → w1.cell? ⟨g, j, none⟩ = some (.string ⟨(L.getD j []).toArray⟩) := fun j hj => (hg1.cell_far ⟨g, j, none⟩ hgl (by simp [hg])).trans (HL.out j hj)
    have HL1 := Lib.hid hL1
    clear hg1 hr1 h hL1
    go_wp2_with fail
    go_step3
    go_wp2_with fail
    go_loopg [12] L.length (fun q i w' => ∃ k : Nat, k + q = L.length ∧ i = .int .i64 k ∧ w' = w1 ∧ Hid (∀ j, j < k → ¬ x = L.getD j []))
    case atStart => exact ⟨0, by omega, rfl, rfl, fun j hj => absurd hj (by omega)⟩
    case round =>
      obtain ⟨k, hk, rfl, rfl, HK⟩ := hrel
      by_cases hlt : k < L.length
      · have hck := HL1.out k hlt
        obtain ⟨y, hy⟩ : ∃ y, y = L.getD k [] := ⟨_, rfl⟩
        rw [← hy] at hck
        have HYY := Lib.hid hy
        clear hy
        by_cases hxy : x = y
        · have hix : Pl.indexOf x L = k := Pl.indexOf_hit hlt HK.out (by rw [hxy, HYY.out])
          have HO2 := Lib.hid (HO.out.trans (by rw [hix, if_pos (by omega)]))
          have hyx : (y == x) = true := by rw [beq_iff_eq]; exact hxy.symm
          clear hxy hix
          go_wp2_with fail
          try rw [Exit.noGoto_ret]
          go_ret
          exact HY.out _ HO2.out HG1.out HR1.out
        · have hyx : (y == x) = false := by rw [beq_eq_false_iff_ne]; exact fun e => hxy e.symm
          have HXY := Lib.hid hxy
          clear hxy
          go_wp2_with fail
          go_roundg (gk - 1)
          case measure => omega
          case rel => exact ⟨k + 1, by omega, by go_num, rfl, fun j hj => by
            rcases Nat.lt_or_ge j k with h1 | h1
            · exact HK.out j h1
            · obtain rfl : j = k := by omega
              rw [← HYY.out]; exact HXY.out⟩
      · obtain rfl : k = L.length := by omega
        have hix : Pl.indexOf x L = -1 := Pl.indexOf_miss HK.out
        have HO2 := Lib.hid (HO.out.trans (by rw [hix, if_neg (by omega)]))
        clear hix
        go_wp2_with (go_at_call 135; refine (words_must_false _).mono ?_; rintro e w' ⟨rfl, rfl⟩; unfold malformed)
        exact ⟨rfl, HN.out _ HO2.out HG1.out⟩

def flagW (k : Nat) : List UInt8 := [[115, 104, 111, 114, 116], [101, 120, 101, 109, 112, 116], [114, 101, 112, 114, 105, 99, 101]].getD k []
def Pl.fstep (f : List UInt8) (v : Int) (s : Int × List (List UInt8)) : Int × List (List UInt8) :=
  match s.2 with
  | x :: r => if x = f then (s.1 + v, r) else s
  | [] => s
/-- The flags from number k on. -/
def Pl.flagsFrom (k : Nat) (s : Int × List (List UInt8)) : Int × List (List UInt8) :=
  match k with
  | 0 => Pl.fstep (flagW 2) 4 (Pl.fstep (flagW 1) 2 (Pl.fstep (flagW 0) 1 s))
  | 1 => Pl.fstep (flagW 2) 4 (Pl.fstep (flagW 1) 2 s)
  | 2 => Pl.fstep (flagW 2) 4 s
  | _ => s
def Pl.rflags (l : List (List UInt8)) : Int × List (List UInt8) := Pl.flagsFrom 0 (0, l)
def bitsAt (k : Nat) (n : Int) : Prop := (k = 0 ∧ n = 0) ∨ (k = 1 ∧ (n = 0 ∨ n = 1)) ∨ (k = 2 ∧ (n = 0 ∨ n = 1 ∨ n = 2 ∨ n = 3)) ∨ (k = 3)

theorem bits_same {k : Nat} {m : Int} (hk : k < 3) (h : bitsAt k m) : bitsAt (k + 1) m := by
  unfold bitsAt at h ⊢
  omega
theorem bits_more {k : Nat} {m : Int} (hk : k < 3) (h : bitsAt k m) : bitsAt (k + 1) (m + 2 ^ k) := by
  unfold bitsAt at h ⊢
  rcases h with ⟨rfl, h⟩ | ⟨rfl, h⟩ | ⟨rfl, h⟩ | rfl
  all_goals simp
  all_goals omega
theorem flags_from (k : Nat) (m : Int) (hk : k < 3) : ∀ l, Pl.flagsFrom k (m, l) = Pl.flagsFrom (k + 1) (Pl.fstep (flagW k) (2 ^ k) (m, l)) := by
  intro l
  match k, hk with
  | 0, _ => rfl
  | 1, _ => rfl
  | 2, _ => rfl
set_option maxRecDepth 100000 in
theorem flag_index (k : Nat) (hk : k < 3) : ∀ w : World, (Instr.index 103 (.agg #[.string ⟨#[115, 104, 111, 114, 116]⟩, .string ⟨#[101, 120, 101, 109, 112, 116]⟩, .string ⟨#[114, 101, 112, 114, 105, 99, 101]⟩]) (.int .i64 k)).run Tryd.prog w = .ok (.string ⟨(flagW k).toArray⟩) w := by
  obtain rfl | rfl | rfl : k = 0 ∨ k = 1 ∨ k = 2 := by omega
  all_goals exact fun _ => by kernel_rfl
set_option maxRecDepth 100000 in
theorem flag_or (k : Nat) (m : Int) (h : bitsAt k m) (hk : k < 3) : bits .or .i64 m (wrap64 (2 ^ k)) = m + 2 ^ k := by
  rcases h with ⟨rfl, rfl⟩ | ⟨rfl, rfl | rfl⟩ | ⟨rfl, rfl | rfl | rfl | rfl⟩ | rfl
  case inr.inr.inr => exact absurd hk (by omega)
  all_goals decide +kernel

def FlagsPost (B b : Nat) (l : List (List UInt8)) (w : World) (e : Ending) (w' : World) : Prop := e = .returned (.int .i64 (Pl.rflags l).1) ∧ w.grownBy w' (some b) ∧ Rdr B w' b (Pl.rflags l).2

set_option maxHeartbeats 8000000 in
set_option maxRecDepth 100000 in
theorem reader_flags (b : Nat) (l : List (List UInt8)) (w : World) (h : Rdr B w b l) : Calls Tryd.prog 184 #[.pointer (some ⟨b, 0, none⟩)] w (FlagsPost B b l w) := by
  have hlt := h.lt
  go_enter Tryd.func184, Tryd.ntmps184
  go_wp2_with fail
  refine (words_flags w).mono ?_
  rintro e w1 ⟨rfl, hb1⟩
  have HG1 : Hid (w.grownBy w1 (some b)) := grownBy_of_below' hb1 _
  have HR1 : Hid (Rdr B w1 b l) := h.below hb1
  clear h hb1
  go_wp2_with fail
  go_loopg [2, 6] 3 (fun q n i w' => ∃ (k : Nat) (m : Int) (l' : List (List UInt8)), k + q = 3 ∧ i = .int .i64 k ∧ n = .int .i64 m ∧ bitsAt k m ∧ Hid (w.grownBy w' (some b)) ∧ Hid (Rdr B w' b l') ∧ Hid (Pl.flagsFrom k (m, l') = Pl.rflags l))
  case atStart => exact ⟨0, 0, l, rfl, rfl, rfl, .inl ⟨rfl, rfl⟩, HG1, HR1, rfl⟩
  case round =>
    obtain ⟨k, m, l', hk, rfl, rfl, hbt, HG, HR, HF⟩ := hrel
    by_cases hk3 : k = 3
    · subst hk3
      clear hbt
      go_wp2_with fail
      go_ret
      have e : (m, l') = Pl.rflags l := HF.out
      exact ⟨by rw [← e]; rfl, HG.out, by rw [← e]; exact HR.out⟩
    · have hk2 : k < 3 := by rcases hbt with h | h | h | h <;> omega
      obtain ⟨v, hb, hs, hl9, hx⟩ := HR.out
      have hc := hb.cell 0
      clear hb hx
      have hkk : ((k : Int) < 3) = True := eq_true (by omega)
      have HBT := Lib.hid hbt
      have hidx := flag_index k hk2
      have HOR := Lib.hid (flag_or k m hbt hk2)
      have hF := flags_from k m hk2
      have HFF := Lib.hid hF
      clear hF hbt hk3
      generalize flagW k = f at *
      rcases l' with _ | ⟨x, r⟩
      · have hz : (strCells []).length = 0 := rfl
        have HF2 : Hid (Pl.flagsFrom (k + 1) (m, []) = Pl.rflags l) := by
          rw [← HF.out, HFF.out]; rfl
        rcases hs with ⟨rfl, _⟩ | ⟨g, o, c, rfl, hlc, hg, hgl, _⟩
        all_goals
          go_wp2_with fail
          go_roundg (gk - 1)
          case measure => omega
          case rel => exact ⟨k + 1, m, [], by omega, by go_num, rfl, bits_same hk2 HBT.out, HG.out, HR.out, HF2.out⟩
      · have e0 : (strCells (x :: r)).length = r.length + 1 := by simp [strCells]
        rcases hs with ⟨_, h0⟩ | ⟨g, o, c, rfl, hlc, hg, hgl, hcs⟩
        · simp [strCells] at h0
        have c0 : wr.cell? ⟨g, o, none⟩ = some (.string ⟨x.toArray⟩) := hcs 0 _ rfl
        rw [e0] at hc
        clear hcs hlc e0
        have hlr : (r.length : Int) ≤ 1000000000 := by simp at hl9; omega
        have hl0 : (0 : Int) < (r.length : Int) + 1 := by omega
        by_cases hq : x = f
        · have hq2 : (x == f) = true := by rw [beq_iff_eq]; exact hq
          have HF2 : Hid (Pl.flagsFrom (k + 1) (m + 2 ^ k, r) = Pl.rflags l) := by
            show _ = _; rw [← HF.out, HFF.out]; simp only [Pl.fstep, if_pos hq]
          clear hq
          go_wp2_with fail
          refine (word_yes b x r wr HR.out).mono ?_
          rintro e w2 ⟨rfl, hg2, hr2⟩
          have HG2 : Hid (w.grownBy w2 (some b)) := HG.out.trans hg2
          have HR2 := Lib.hid hr2
          clear hg2 hr2 hc c0
          go_wp2_with fail
          go_roundg (gk - 1)
          case measure => omega
          case rel => exact ⟨k + 1, m + 2 ^ k, r, by omega, by go_num, by rw [HOR.out], bits_more hk2 HBT.out, HG2.out, HR2.out, HF2.out⟩
        · have hq2 : (x == f) = false := by rw [beq_eq_false_iff_ne]; exact hq
          have HF2 : Hid (Pl.flagsFrom (k + 1) (m, x :: r) = Pl.rflags l) := by
            show _ = _; rw [← HF.out, HFF.out]; simp only [Pl.fstep, if_neg hq]
          clear hq
          go_wp2_with fail
          go_roundg (gk - 1)
          case measure => omega
          case rel => exact ⟨k + 1, m, x :: r, by omega, by go_num, rfl, bits_same hk2 HBT.out, HG.out, HR.out, HF2.out⟩

end Go.Proofs.YtbcepdacfmbekaaDoor
