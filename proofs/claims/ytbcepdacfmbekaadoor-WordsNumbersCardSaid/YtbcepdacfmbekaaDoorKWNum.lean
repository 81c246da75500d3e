/-
  The walk of the law WordsNumbers (package damperlaw35).
-/
import Derived.Test.YtbcepdacfmbekaaDoorKSplit
import Derived.Test.YtbcepdacfmbekaaDoorKNum
import Derived.Test.YtbcepdacfmbekaaDoorKRNum
import Derived.Test.YtbcepdacfmbekaaDoorKRSplit
import Derived.Test.YtbcepdacfmbekaaDoorKOct
import Derived.Deep.QuietTactic
import Derived.BigQuiet
namespace Go.Proofs.YtbcepdacfmbekaaDoor
open Go.RowKit

/-- What a law answers: true; nothing that was there has turned. -/
def TruePost (w : World) (e : Ending) (w' : World) : Prop := e = .returned (.bool true) ∧ Below w.heap.size w w'

set_option maxHeartbeats 4000000 in
set_option maxRecDepth 100000 in
theorem law_WordsNumbers_of (s : ByteArray) (w : World) (hE : Env w) (hal : ∀ W, Env W → Calls Tryd.prog 25 #[] W (TruePost W)) : Calls Tryd.prog 6 #[.string s] w (TruePost w) := by
  have HAL := Lib.hid hal
  have HE := Lib.hid hE
  clear hal hE
  by_cases hs : (300 : Int) < s.size
  · go_enter Tryd.func6, Tryd.ntmps6
    go_wp2_with fail
    refine (HAL.out w HE.out).mono ?_
    rintro e w1 ⟨rfl, hb⟩
    have HB := Lib.hid hb
    clear hb
    go_wp2_with fail
    go_ret
    exact ⟨rfl, HB.out⟩
  have hs3 : s.size ≤ 300 := by omega
  have hN := words_Number s w (by omega)
  obtain ⟨l, hl⟩ : ∃ l, l = s.data.toList := ⟨_, rfl⟩
  have hsl : s = ⟨l.toArray⟩ := by rw [hl]
  have hsz : s.size = l.length := by rw [hsl, Lib.size_eq]
  have HN := Lib.hid hN
  clear hN
  have hll : l.length ≤ 300 := by omega
  have HS := Lib.hid hsl
  have HL := Lib.hid hl
  have HSZ := Lib.hid hsz
  clear hl hsl hsz
  go_enter Tryd.func6, Tryd.ntmps6
  go_wp2_with fail
  refine HN.out.mono ?_
  rintro e w1 ⟨rfl, hb1⟩
  have HB1 := Lib.hid hb1
  rw [← HL.out]
  clear hb1 HN
  have HRN := Lib.hid (ref_Number l w1 (by omega))
  rw [← HS.out] at HRN
  unfold RNumPost at HRN
  generalize Pl.number l = nn at *
  obtain ⟨n, is⟩ := nn
  go_wp2_with fail
  refine HRN.out.mono ?_
  rintro e w2 ⟨rfl, hb2⟩
  have HB2 : Hid (Below w.heap.size w w2) := HB1.out.trans (hb2.mono HB1.out.size)
  clear hb2 HB1 HRN
  have HE2 : Hid (Env w2) := HE.out.below (Nat.le_refl _) HB2.out
  go_wp2_with fail
  rcases hnil : l with _ | ⟨c0, l0⟩
  · subst hnil
    have hse : s = ⟨#[]⟩ := HS.out
    subst hse
    refine (words_Split_nil w2).mono ?_
    rintro e w3 ⟨rfl, rfl⟩
    have HRS := Lib.hid (ref_Split [] w2 (by simp))
    clear hs hs3 hll
    go_wp2_with fail
    refine HRS.out.mono ?_
    rintro e w3 ⟨v, rfl, hb3, hown⟩
    have HB3 : Hid (Below w.heap.size w w3) := HB2.out.trans (hb3.mono HB2.out.size)
    have h0 : (Pl.split []).length = 0 := rfl
    rw [h0] at hown
    obtain ⟨p, c, rfl⟩ := ownsRow_slice hown
    have HE3 : Hid (Env w3) := HE.out.below (Nat.le_refl _) HB3.out
    clear hb3 hown h0 HRS HSZ HS HL HE2
    go_wp2_with fail
    go_loopw [9] (fun i wr => i = .int .i64 0 ∧ wr = w3) (fun _ _ => 0)
    case atStart => exact ⟨rfl, rfl⟩
    case round =>
      obtain ⟨rfl, rfl⟩ := hrel
      go_wp2_with fail
      refine (HAL.out _ HE3.out).mono ?_
      rintro e w4 ⟨rfl, hb4⟩
      have HB4 : Hid (Below w.heap.size w w4) := HB3.out.trans (hb4.mono HB3.out.size)
      clear hb4
      go_wp2_with fail
      go_ret
      exact ⟨rfl, HB4.out⟩
  · have hne : l ≠ [] := by rw [hnil]; simp
    clear hnil c0 l0
    have hsp : Pl.split l = Pl.splitC 32 l := by unfold Pl.split; rw [if_neg (by simpa using hne)]
    have HC := Lib.hid (words_Split_some s w2 HE2.out (by omega) (by rw [HS.out]; cases l with | nil => exact absurd rfl hne | cons a r => rw [Lib.toList_data]; rfl))
    rw [← HL.out, ← hsp] at HC
    have HLE := Lib.hid (Pl.split_le l)
    obtain ⟨L, hL⟩ : ∃ L, L = Pl.split l := ⟨_, rfl⟩
    have HX := Lib.hid hL
    rw [← hL] at HC HLE
    have HRS := Lib.hid (fun w => ref_Split l w (by omega))
    unfold SplitPost at HRS
    rw [← hL] at HRS
    rw [← HS.out] at HRS
    have hLl : L.length ≤ 301 := by rw [hL, hsp, Pl.splitC_length]; have := List.count_le_length (a := (32 : UInt8)) (l := l); omega
    clear hL hsp hne
    refine HC.out.mono ?_
    rintro e w3 ⟨rfl, rfl⟩
    have hst : Strs (w2.alloc (.cells ((L.map fun l => Value.string ⟨l.toArray⟩).toArray) 9)) w2.heap.size L := fun j hj => by
      rw [World.cell?_alloc_new]
      simp [hj, List.getD]
    have HST := Lib.hid hst
    have hsz2 : (w2.alloc (.cells ((L.map fun l => Value.string ⟨l.toArray⟩).toArray) 9)).heap.size = w2.heap.size + 1 := World.size_alloc _ _
    have HB3 : Hid (Below w.heap.size w (w2.alloc (.cells ((L.map fun l => Value.string ⟨l.toArray⟩).toArray) 9))) := HB2.out.alloc HB2.out.size _
    clear hst HC HB2 HE2
    generalize (w2.alloc (.cells ((L.map fun l => Value.string ⟨l.toArray⟩).toArray) 9)) = w3 at *
    generalize w2.heap.size = bx at *
    go_wp2_with fail
    refine (HRS.out w3).mono ?_
    rintro e w4 ⟨v, rfl, hb4, hown⟩
    have HB4 : Hid (Below w.heap.size w w4) := HB3.out.trans (hb4.mono HB3.out.size)
    have HST4 : Hid (Strs w4 bx L) := HST.out.below (by omega) hb4
    have hsl := Sl.of_row hown (by simp [strVs])
    obtain ⟨p, c, rfl⟩ := ownsRow_slice hown
    have hbx : bx < w4.heap.size := by have := hb4.size; omega
    have HSL := Lib.hid hsl
    have HE4 : Hid (Env w4) := HE.out.below (Nat.le_refl _) HB4.out
    clear hb4 hown hsl HB3 HST HRS
    go_wp2_with fail
    go_loopw [9] (fun i wr => ∃ k : Nat, k ≤ L.length ∧ i = .int .i64 k ∧ Hid (Below w4.heap.size w4 wr)) (fun i _ => L.length - (intOf i).toNat)
    case atStart => exact ⟨0, Nat.zero_le _, rfl, Below.refl _ _⟩
    case round =>
      obtain ⟨k, hk, rfl, HBR⟩ := hrel
      by_cases hlt : k < L.length
      · have hcx : wr.cell? ⟨bx, k, none⟩ = some (.string ⟨(L.getD k []).toArray⟩) := (HST4.out.below hbx HBR.out) k hlt
        obtain ⟨g, o, rfl, hcy⟩ : ∃ g o, p = some ⟨g, o, none⟩ ∧ wr.cell? ⟨g, o + k, none⟩ = some (.string ⟨(L.getD k []).toArray⟩) := by
          rcases HSL.out.below HBR.out with ⟨_, h0⟩ | ⟨g, o, c', h1, _, _, _, h2⟩
          · exfalso
            have h1 : L.length = 0 := by
              have h2 : (strVs L).length = 0 := by rw [h0]; rfl
              simpa [strVs] using h2
            omega
          · refine ⟨g, o, by simpa using (Value.slice.inj h1).1, h2 k _ ?_⟩
            simp [strVs, strV, List.getD, hlt]
        generalize L.getD k [] = x at *
        go_wp2_with fail
        go_quiet (fail)
        go_wp2_with fail
        go_roundw
        case rel => exact ⟨k + 1, by omega, by go_num, below_drewN HBR.out _⟩
        case measure => simp [intOf]; omega
      · obtain rfl : k = L.length := by omega
        go_wp2_with fail
        refine (HAL.out _ (HE4.out.below (Nat.le_refl _) HBR.out)).mono ?_
        rintro e w5 ⟨rfl, hb5⟩
        have HB5 : Hid (Below w.heap.size w w5) := (HB4.out.trans (HBR.out.mono HB4.out.size)).trans (hb5.mono (Nat.le_trans HB4.out.size HBR.out.size))
        clear hb5
        go_wp2_with fail
        go_ret
        exact ⟨rfl, HB5.out⟩

end Go.Proofs.YtbcepdacfmbekaaDoor
