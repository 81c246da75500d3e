/-
  The walk of the closure of sheet.Row: a row out of a line.
-/
import Derived.Test.YtbcepdacfmbekaaDoorKRead
import Derived.Test.YtbcepdacfmbekaaDoorKArr
import Derived.Test.YtbcepdacfmbekaaDoorKIdx
import Derived.Test.YtbcepdacfmbekaaDoorPw
import Derived.Test.YtbcepdacfmbekaaDoorKFields
namespace Go.Proofs.YtbcepdacfmbekaaDoor
open Go.RowKit

def RowCPost (line : ByteArray) (br : Nat) (w : World) (e : Ending) (w' : World) : Prop :=
  w.grownBy w' (some br) ∧ match Pl.row line.data.toList with
    | some (v, p) => e = .returned (.tuple #[]) ∧ Blk w' br #[.int .i64 v, .int .i64 p] 24
    | none => e = malformed ∧ ∃ cs', Blk w' br cs' 24

theorem rowC_none {line : ByteArray} {br : Nat} {w w' : World} (h : Pl.row line.data.toList = none) (hg : w.grownBy w' (some br)) {cs' : Array Value} (hb : Blk w' br cs' 24) : RowCPost line br w malformed w' := by
  unfold RowCPost
  rw [h]
  exact ⟨hg, rfl, cs', hb⟩
theorem rowC_some {line : ByteArray} {br : Nat} {w w' : World} {v p : Int} (h : Pl.row line.data.toList = some (v, p)) (hg : w.grownBy w' (some br)) (hb : Blk w' br #[.int .i64 v, .int .i64 p] 24) : RowCPost line br w (.returned (.tuple #[])) w' := by
  unfold RowCPost
  rw [h]
  exact ⟨hg, rfl, hb⟩

set_option maxHeartbeats 2000000 in
set_option maxRecDepth 100000 in
theorem row_closure (line : ByteArray) (bs br : Nat) (w : World) (hE : Env w) (hl : w.cell? ⟨bs, 0, none⟩ = some (.string line)) (hb : Blk w br #[.int .i64 0, .int .i64 0] 24) (hs : line.size < 1000000000) :
    Calls Tryd.prog 63 #[.pointer (some ⟨bs, 0, none⟩), .pointer (some ⟨br, 0, none⟩)] w (RowCPost line br w) := by
  have hE' := hE
  obtain ⟨m, hm⟩ := hE
  have HE := Lib.hid hE'
  have HB := Lib.hid hb
  have hbl := hb.lt
  clear hE' hb
  have HT := Lib.hid (Tryd.strings_TrimPrefix line ⟨#[114, 111, 119, 32]⟩ w)
  have HP := Lib.hid (fun W => Tryd.strings_HasPrefix line ⟨#[114, 111, 119, 32]⟩ W)
  have HN := Lib.hid (fun w' => @rowC_none line br w w')
  have HY := Lib.hid (fun w' => @rowC_some line br w w')
  have hrow : Pl.row line.data.toList = if Lib.hasPrefix line.data.toList [114, 111, 119, 32] then Pl.rowOf (Lib.trimPrefix line.data.toList [114, 111, 119, 32]) else none := by
    unfold Pl.row Lib.trimPrefix Lib.hasPrefix
    show (if List.isPrefixOf [114, 111, 119, 32] line.data.toList = true then _ else _) = _
    by_cases h : List.isPrefixOf [114, 111, 119, 32] line.data.toList = true
    · rw [if_pos h, if_pos h, if_pos h]; rfl
    · rw [if_neg h, if_neg h]
  have HR := Lib.hid hrow
  clear hrow
  have htl : (Lib.trimPrefix line.data.toList [114, 111, 119, 32]).length ≤ line.size := by rw [Lib.size_eq]; exact Lib.trimPrefix_le _ _
  have HC := Lib.hid (Tryd.strings_Cut ⟨(Lib.trimPrefix line.data.toList [114, 111, 119, 32]).toArray⟩ ⟨#[32]⟩ m w (by rw [Lib.size_eq]; simp; omega) hm)
  go_enter Tryd.func63, Tryd.ntmps63
  go_wp2_with fail
  refine HT.out.mono ?_
  rintro e w1 ⟨rfl, rfl⟩
  clear HT
  go_wp2_with fail
  refine HC.out.mono ?_
  rintro e w2 ⟨rfl, n, rfl⟩
  clear HC
  simp only [Pl.cut_one]
  have hrd := Pl.rowOf_def (Lib.trimPrefix line.data.toList [114, 111, 119, 32])
  have hcl := Pl.cutC_le 32 (Lib.trimPrefix line.data.toList [114, 111, 119, 32])
  generalize Lib.trimPrefix line.data.toList [114, 111, 119, 32] = t at *
  generalize Pl.rowOf t = ro at *
  generalize Lib.hasPrefix line.data.toList [114, 111, 119, 32] = pfx at *
  generalize Pl.cutC 32 t = r at *
  obtain ⟨at_, ph, is⟩ := r
  simp only at hrd hcl
  have HRD := Lib.hid hrd
  clear hrd
  cases is
  · have HRN := Lib.hid (show Pl.row line.data.toList = none from by rw [HR.out, HRD.out]; split <;> rfl)
    go_wp2_with (go_at_call 66; refine (sheet_must_false _).mono ?_; rintro e w' ⟨rfl, rfl⟩; unfold malformed)
    exact ⟨rfl, HN.out _ HRN.out (grownBy_drewN (grownBy_refl _ _) _) HB.out⟩
  cases pfx
  · have HRN := Lib.hid (show Pl.row line.data.toList = none from by rw [HR.out]; rfl)
    go_wp2_with (first | (go_at_call 67; refine (HP.out _).mono ?_; rintro e w' ⟨rfl, rfl⟩) | (go_at_call 66; refine (sheet_must_false _).mono ?_; rintro e w' ⟨rfl, rfl⟩; unfold malformed))
    exact ⟨rfl, HN.out _ HRN.out (grownBy_drewN (grownBy_refl _ _) _) HB.out⟩
  · simp only [if_true] at HRD HR
    go_wp2_with (first | (go_at_call 67; refine (HP.out _).mono ?_; rintro e w' ⟨rfl, rfl⟩) | (go_at_call 66; refine (sheet_must_true _).mono ?_; rintro e w' ⟨rfl, rfl⟩))
    refine (sheet_longs _ 1 [(br, 0)] _ (by simp) (by simp) (fun j hj => ?_)).mono ?_
    · obtain rfl : j = 0 := by simp at hj; omega
      exact World.cell?_alloc_new (w1.drewN n) _ _ _
    rintro e w3 ⟨v, rfl, hown, hb3⟩
    obtain ⟨p, rfl, hpn, hpx, hpo⟩ := numRow_of hown (by simp) (by simp [longCells, ptr, Value.oneCell'])
    have hown2 := hown.lt
    obtain ⟨g, pn, pc, px⟩ := p
    simp only at hpn hpx
    subst hpn hpx
    unfold Piece.val
    have hgl : w1.heap.size < g := by have := (hown2 g rfl).1; simp at this; omega
    have hg2 : g < w3.heap.size := (hown2 g rfl).2
    have hW3 : Hid (w1.grownBy w3 (some br)) := ((grownBy_drewN (grownBy_refl _ _) _).trans (World.grownBy_alloc _ _ _)).trans (grownBy_of_below' hb3 _)
    have hB3 : Blk w3 br #[.int .i64 0, .int .i64 0] 24 := HB.out.grown (r := none) (by simp) (((grownBy_drewN (grownBy_refl w1 none) n).trans (World.grownBy_alloc _ _ _)).trans (grownBy_of_below' hb3 _))
    have hE3 : Env w3 := HE.out.below (Nat.le_refl _) ((((below_drewN (Below.refl _ _) n)).alloc (by simp) _).trans (hb3.mono (by simp)))
    have hdat : (({ data := #[114, 111, 119, 32] } : ByteArray) ++ { data := at_.toArray }).data.toList = Pl.rowHead ++ at_ := by simp [Pl.rowHead]
    have hread := part_read Pl.rowWord (({ data := #[114, 111, 119, 32] } : ByteArray) ++ { data := at_.toArray }) br g pc [(false, 0)] _ 24 w3 hE3 hB3 (by omega) hg2 hpo.cell (by intro t ht; simp at ht; subst ht; exact ⟨0, rfl⟩) (by rw [Lib.size_eq, hdat]; simp [Pl.rowHead]; omega) (by simp) (by rw [Lib.toList_data, hdat]; rfl)
    unfold ReadPost at hread
    rw [hdat] at hread
    have HREAD := Lib.hid hread
    clear hread hdat hpo hown hown2 hb3
    go_wp2_with fail
    refine HREAD.out.mono ?_
    rintro e w4 ⟨hg4, hcase⟩
    have hW4 : Hid (w1.grownBy w4 (some br)) := hW3.out.trans hg4
    clear HREAD
    change (match Pl.readNums Pl.rowWord 1 (Pl.split (Pl.rowHead ++ at_)) with
      | some vs => e = .returned (.tuple #[]) ∧ Blk w4 br (setAll #[.int .i64 0, .int .i64 0] [(false, 0)] vs) 24
      | none => e = malformed ∧ ∃ cs', Blk w4 br cs' 24) at hcase
    have HRD2 := HRD.out
    cases hrn : Pl.readNums Pl.rowWord 1 (Pl.split (Pl.rowHead ++ at_)) with
    | none =>
      rw [hrn] at hcase HRD2
      obtain ⟨rfl, cs', hbk⟩ := hcase
      exact ⟨rfl, HN.out _ (by rw [HR.out, HRD2]) hW4.out hbk⟩
    | some vs =>
      have hvl := Pl.readNums_length hrn
      obtain ⟨v, rfl⟩ : ∃ v, vs = [v] := by
        match vs, hvl with
        | [v], _ => exact ⟨v, rfl⟩
      rw [hrn] at hcase HRD2
      obtain ⟨rfl, hbk⟩ := hcase
      have HBK : Hid (Blk w4 br #[.int .i64 v, .int .i64 0] 24) := hbk
      have HRO := Lib.hid HRD2
      clear HRD2 hbk hrn hvl hg4 HRD hW3
      go_wp2_with fail
      refine (sheet_phases w4).mono ?_
      rintro e w5 ⟨rfl, hb5⟩
      have hW5 : Hid (w1.grownBy w5 (some br)) := hW4.out.trans (grownBy_of_below' hb5 _)
      have hB5 : Hid (Blk w5 br #[.int .i64 v, .int .i64 0] 24) := HBK.out.grown (r := none) (by simp) (grownBy_of_below' hb5 _)
      clear hb5 hW4 HBK
      have hc1 : w5.cell? ⟨br, 1, none⟩ = some (.int .i64 0) := hB5.out.cell 1
      have hz1 : w5.frozen? ⟨br, 1, none⟩ = false := hB5.out.frozen 1
      have hb5 : br < w5.heap.size := hB5.out.lt
      go_wp2_with fail
      have HIX := Lib.hid (slices_Index_some w5.heap.size 3 phaseWords ⟨ph.toArray⟩ _ (strs_phases w5 103) (by simp [phaseWords]))
      refine HIX.out.mono ?_
      rintro e w6 ⟨rfl, rfl⟩
      clear HIX
      have hix : Pl.indexOf ({ data := ph.toArray } : ByteArray).data.toList phaseWords = Pl.indexOf ph Pl.phases3 := by simp [phaseWords, Pl.phases3]
      rw [hix]
      have hge := Pl.indexOf_ge ph Pl.phases3
      have hlt := Pl.indexOf_lt ph Pl.phases3
      have hl3 : Pl.phases3.length = 3 := rfl
      rw [hl3] at hlt
      clear hix hl3
      generalize Pl.indexOf ph Pl.phases3 = ix at *
      obtain ⟨W6, hW6⟩ : ∃ W6, W6 = (w5.alloc (.cells #[.string ⟨#[99, 108, 111, 115, 101, 100]⟩, .string ⟨#[111, 112, 101, 110, 105, 110, 103]⟩, .string ⟨#[99, 111, 110, 116, 105, 110, 117, 111, 117, 115]⟩] 103)) := ⟨_, rfl⟩
      have hG6 : Hid (w1.grownBy W6 (some br)) := by rw [hW6]; exact hW5.out.trans (World.grownBy_alloc _ _ _)
      have hB6 : Hid (Blk W6 br #[.int .i64 v, .int .i64 0] 24) := by rw [hW6]; exact hB5.out.grown (r := none) (by simp) (World.grownBy_alloc _ _ _)
      rw [← hW6]
      clear hW6 hc1 hz1 hb5
      have hc1 : W6.cell? ⟨br, 1, none⟩ = some (.int .i64 0) := hB6.out.cell 1
      have hz1 : W6.frozen? ⟨br, 1, none⟩ = false := hB6.out.frozen 1
      have hG7 : Hid (w1.grownBy (W6.setCell ⟨br, 1, none⟩ (.int .i64 ix)) (some br)) := hG6.out.trans (grownBy_setCell _ _ _ _)
      have hB7 : Hid (Blk (W6.setCell ⟨br, 1, none⟩ (.int .i64 ix)) br #[.int .i64 v, .int .i64 ix] 24) := hB6.out.set 1 _
      by_cases h0 : 0 ≤ ix
      · have hd : decide (0 ≤ ix) = true := by simpa using h0
        have HFIN := Lib.hid (HY.out _ (by rw [HR.out, HRO.out, if_pos h0]) hG7.out hB7.out)
        go_wp2_with (go_at_call 66; refine (sheet_must_true _).mono ?_; rintro e w' ⟨rfl, rfl⟩)
        go_end0
        exact HFIN.out
      · have hd : decide (0 ≤ ix) = false := by simpa using h0
        have HFIN := Lib.hid (HN.out _ (by rw [HR.out, HRO.out, if_neg h0]) hG7.out hB7.out)
        go_wp2_with (go_at_call 66; refine (sheet_must_false _).mono ?_; rintro e w' ⟨rfl, rfl⟩; unfold malformed)
        exact ⟨rfl, HFIN.out⟩

end Go.Proofs.YtbcepdacfmbekaaDoor
