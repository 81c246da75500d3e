/-
  The walk of the law SheetFields.
-/
import Derived.Test.YtbcepdacfmbekaaDoorKAlive
import Derived.Test.YtbcepdacfmbekaaDoorKRArr
import Derived.Test.YtbcepdacfmbekaaDoorKReg2
namespace Go.Proofs.YtbcepdacfmbekaaDoor
open Go.RowKit

/-- The field that the first k names tell. -/
def Pl.fieldUpto (vs : List Int) (name : List UInt8) : Nat → Int × Bool
  | 0 => (0, false)
  | k + 1 => if nameWords.getD k [] = name then (vs.getD k 0, true) else Pl.fieldUpto vs name k

theorem Pl.index_name : ∀ k, k < 16 → Pl.indexOf (nameWords.getD k []) nameWords = k := by decide +kernel
theorem Pl.field_at (vs : List Int) (k : Nat) (hk : k < 16) : Pl.field vs (nameWords.getD k []) = (vs.getD k 0, true) := by
  unfold Pl.field
  rw [Pl.index_name k hk, if_pos (by omega)]; rfl

theorem Pl.upto_at (vs : List Int) (k : Nat) (hk : k < 16) : ∀ m, m ≤ 16 → Pl.fieldUpto vs (nameWords.getD k []) m = if k < m then (vs.getD k 0, true) else (0, false)
  | 0, _ => by simp [Pl.fieldUpto]
  | m + 1, hm => by
    unfold Pl.fieldUpto
    rw [Pl.upto_at vs k hk m (by omega)]
    by_cases h : nameWords.getD m [] = nameWords.getD k []
    · have h1 := Pl.index_name m (by omega)
      rw [h, Pl.index_name k hk] at h1
      obtain rfl : k = m := by omega
      rw [if_pos rfl, if_pos (by omega)]
    · rw [if_neg h]
      have : k ≠ m := fun e => h (by rw [e])
      by_cases h2 : k < m
      · rw [if_pos h2, if_pos (by omega)]
      · rw [if_neg h2, if_neg (by omega)]

theorem Pl.upto_none (vs : List Int) (name : List UInt8) (h : ∀ j, j < 16 → nameWords.getD j [] ≠ name) : ∀ m, m ≤ 16 → Pl.fieldUpto vs name m = (0, false)
  | 0, _ => rfl
  | m + 1, hm => by
    unfold Pl.fieldUpto
    rw [if_neg (h m (by omega)), Pl.upto_none vs name h m (by omega)]

theorem Pl.upto_all (vs : List Int) (name : List UInt8) : Pl.fieldUpto vs name 16 = Pl.field vs name := by
  by_cases h : ∃ k, k < 16 ∧ nameWords.getD k [] = name
  · obtain ⟨k, hk, rfl⟩ := h
    rw [Pl.upto_at vs k hk 16 (by omega), if_pos hk, Pl.field_at vs k hk]
  · have h' : ∀ j, j < 16 → nameWords.getD j [] ≠ name := fun j hj e => h ⟨j, hj, e⟩
    rw [Pl.upto_none vs name h' 16 (by omega)]
    unfold Pl.field
    rw [Pl.indexOf_miss (l := nameWords) (fun j hj e => h' j hj e.symm), if_neg (by omega)]

theorem symSize {vs : List Int} (h16 : vs.length = 16) : (Tryd.prog.info? 29).map (·.size) = some (symArr vs).size := by
  rw [show (symArr vs).size = 16 from by simp [symArr, h16]]
  kernel_rfl

/-- Slots of the region that compares two lists' names. -/
def sfV (b c k : Nat) (x : List UInt8) (d : Nat) : Value → World → Prop :=
  match d with
  | 27 => fun v _ => v = .slice (some ⟨b, 0, none⟩) 16 c
  | 28 => fun v _ => v = .int .i64 k
  | 29 => fun v _ => v = .pointer (some ⟨b, k, none⟩)
  | 30 => fun v _ => v = .string ⟨x.toArray⟩
  | 31 => fun v w => ∃ b cc, v = .slice (some ⟨b, 0, none⟩) 16 cc ∧ b < w.heap.size ∧ Strs w b nameWords
  | 32 => fun v _ => v = .int .i64 k
  | 33 => fun v w => ∃ b, v = .pointer (some ⟨b, k, none⟩) ∧ b < w.heap.size ∧ Strs w b nameWords
  | 34 => fun v _ => v = .string ⟨x.toArray⟩
  | 35 => fun v _ => v = .bool false
  | _ => fun _ _ => True
theorem sfV_mono (b c k : Nat) (x : List UInt8) (d : Nat) (v : Value) (w w' : World) (hb : Below w.heap.size w w') (h : sfV b c k x d v w) : sfV b c k x d v w' := by
  unfold sfV at h ⊢
  split at h
  all_goals first | exact h | (obtain ⟨b, cc, h1, h2, h3⟩ := h; exact ⟨b, cc, h1, Nat.lt_of_lt_of_le h2 hb.size, h3.below h2 hb⟩) | (obtain ⟨b, h1, h2, h3⟩ := h; exact ⟨b, h1, Nat.lt_of_lt_of_le h2 hb.size, h3.below h2 hb⟩)

/-- Slots of the region that asks for the field of a name. -/
def sgV (b c k : Nat) (x : List UInt8) (vs : List Int) (y : Int) (d : Nat) : Value → World → Prop :=
  match d with
  | 37 => fun v _ => v = .agg (symArr vs)
  | 38 => fun v _ => v = .slice (some ⟨b, 0, none⟩) 16 c
  | 39 => fun v _ => v = .int .i64 k
  | 40 => fun v _ => v = .pointer (some ⟨b, k, none⟩)
  | 41 => fun v _ => v = .string ⟨x.toArray⟩
  | 42 => fun v _ => v = .tuple #[.int .i64 y, .bool true]
  | 36 => fun v _ => v = .tuple #[.int .i64 y, .bool true]
  | 43 => fun v _ => v = .int .i64 y
  | 44 => fun v _ => v = .bool true
  | 11 => fun v _ => v = .int .i64 y
  | 12 => fun v _ => v = .bool true
  | _ => fun _ _ => True
theorem sgV_mono (b c k : Nat) (x : List UInt8) (vs : List Int) (y : Int) (d : Nat) (v : Value) (w w' : World) (_ : Below w.heap.size w w') (h : sgV b c k x vs y d v w) : sgV b c k x vs y d v w' := by
  unfold sgV at h ⊢
  split at h
  all_goals exact h

theorem wp_load_row_k {P : Program} {o : Oper} {a : Act} {w : World} {K : Act → World → Prop} {Q : Exit → Act → World → Prop} (ty : TypeId) (x : Operand) (ho : o.op = .load ty x)
    (g : Nat) (hx : a.eval x = .pointer (some ⟨g, 0, none⟩)) (t : TypeId) (cs : Array Value) (d : TypeDesc) (hg : Blk w g cs t)
    (hu : P.underlying ty = some d) (hd : (match d with | .struct _ | .array _ _ => true | _ => false) = true) (hi : (P.info? ty).map (·.size) = some cs.size)
    (h : K (a.put o.dst (.agg cs)) w) : o.wp P a w K Q := wp_load_row ty x ho g hx t cs (0, 0) d hg hu hd hi h

set_option maxHeartbeats 4000000 in
set_option maxRecDepth 100000 in
theorem law_SheetFields (vs : List Int) (h16 : vs.length = 16) (name : ByteArray) (w : World) (hE : Env w) : Calls Tryd.prog 4 #[.agg (symArr vs), .string name] w (AlivePost w) := by
  have H16 := Lib.hid h16
  clear h16
  have HB := Lib.hid (Blk.alloc (w := w) (symArr vs) 29)
  have HBL : Hid (Below w.heap.size w (w.alloc (.cells (symArr vs) 29))) := (Below.refl _ _).alloc (Nat.le_refl _) _
  have hsz : (w.alloc (.cells (symArr vs) 29)).heap.size = w.heap.size + 1 := World.size_alloc _ _
  go_enter Tryd.func4, Tryd.ntmps4
  have HE := Lib.hid hE
  clear hE
  go_wp2_with fail
  generalize w.alloc (.cells (symArr vs) 29) = w0 at *
  refine (sheet_Names w0).mono ?_
  rintro e w1 ⟨v, rfl, hna, hb1⟩
  obtain ⟨b, c, rfl, hbb, hbl, hst⟩ := hna
  have HST := Lib.hid hst
  have HB1 : Hid (Below w.heap.size w w1) := HBL.out.trans (hb1.mono (by omega))
  have HK1 : Hid (Blk w1 w.heap.size (symArr vs) 29) := HB.out.below (by omega) hb1
  have hs1 : w.heap.size < w1.heap.size := by have := hb1.size; omega
  clear hst hb1 HB HBL
  go_wp2_with (first | (refine wpList_load_row rfl 29 _ rfl w.heap.size rfl 29 (symArr vs) (0, 0) _ HK1.out Tryd.underlying29 rfl (symSize H16.out) ?_) | fail)
  refine (sheet_Field vs H16.out name _).mono ?_
  rintro e w2 ⟨rfl, hb2⟩
  have HB2 : Hid (Below w.heap.size w w2) := HB1.out.trans (hb2.mono (by omega))
  have HK2 : Hid (Blk w2 w.heap.size (symArr vs) 29) := HK1.out.below hs1 hb2
  have hs2 : w.heap.size < w2.heap.size := by have := hb2.size; omega
  have hbl2 : b < w2.heap.size := Nat.lt_of_lt_of_le hbl hb2.size
  have HS2 : Hid (Strs w2 b nameWords) := HST.out.below hbl hb2
  clear hb2 HB1 HK1 HST hbl hs1
  go_wp2_with fail
  go_loopw [8, 9, 10] (fun m was i wr => ∃ k : Nat, k ≤ 16 ∧ i = .int .i64 k ∧ m = .int .i64 (Pl.fieldUpto vs name.data.toList k).1 ∧ was = .bool (Pl.fieldUpto vs name.data.toList k).2 ∧ Hid (Below w2.heap.size w2 wr)) (fun _ _ i _ => 16 - (intOf i).toNat)
  case atStart => exact ⟨0, Nat.zero_le _, rfl, rfl, rfl, Below.refl _ _⟩
  case round =>
    obtain ⟨k, hk, rfl, rfl, rfl, HBR⟩ := hrel
    have hsr := HBR.out.size
    have BR : Hid (Below w.heap.size w wr) := HB2.out.trans (HBR.out.mono (by omega))
    have KR : Hid (Blk wr w.heap.size (symArr vs) 29) := HK2.out.below hs2 HBR.out
    have SR : Hid (Strs wr b nameWords) := HS2.out.below hbl2 HBR.out
    have hbr : b < wr.heap.size := by omega
    by_cases hlt : k < 16
    · have HF := Lib.hid (Pl.field_at vs k hlt)
      have HU := Lib.hid (show Pl.fieldUpto vs name.data.toList (k + 1) = if nameWords.getD k [] = name.data.toList then (vs.getD k 0, true) else Pl.fieldUpto vs name.data.toList k from rfl)
      have HC := Lib.hid (SR.out k hlt)
      generalize Pl.fieldUpto vs name.data.toList k = fu at *
      obtain ⟨m, was⟩ := fu
      obtain ⟨x, hx⟩ : ∃ x, x = nameWords.getD k [] := ⟨_, rfl⟩
      obtain ⟨y, hy⟩ : ∃ y, y = vs.getD k 0 := ⟨_, rfl⟩
      have HX := Lib.hid hx
      rw [← hx] at HF HU HC
      rw [← hy] at HF HU
      have HY := Lib.hid hy
      clear hx hy
      have hk16 : ((k : Int) < 16) = True := eq_true (by omega)
      go_wp2_with fail
      refine wp_region_vals (by kernel_rfl) (n := 74) rfl (by kernel_rfl) (by kernel_rfl) [[], [], [27, 28], [29], [], [], [31, 32], [33], [30, 34]] (by kernel_rfl) [27, 28, 29, 30, 31, 32, 33, 34, 35] (by kernel_rfl) [5, 10] (by kernel_rfl) (sfV b c k x) (fun w' => Below wr.heap.size wr w') (fun w w' => Below w.heap.size w w') (sfV_mono b c k x) (Below.refl _ _).drew ?_ ?_
      · simp only [AllSteps]
        refine ⟨?_, ?_, ?_, ?_, ?_, ?_, ?_, ?_, ?_, trivial⟩
        all_goals (intro a' w' hI hd0 hnw hds K hK; clear hd0)
        all_goals (have h5 : a'.tmps.getD 5 undef = .slice (some ⟨b, 0, none⟩) 16 c := hnw 5 (by simp); have h10 : a'.tmps.getD 10 undef = .int .i64 k := hnw 10 (by simp); clear hnw)
        · go_simp; exact hK _ _ (fun d hd => by cases hd; rfl) hI (Below.refl _ _)
        · go_simp; exact hK _ _ (fun d hd => by cases hd; rfl) hI (Below.refl _ _)
        · have h27 := getD_form (show a'.tmps.getD 27 undef = .slice (some ⟨b, 0, none⟩) 16 c from hds 27 (by simp))
          have h28 := getD_form (show a'.tmps.getD 28 undef = .int .i64 k from hds 28 (by simp))
          go_simp
          exact hK _ _ (fun d hd => by cases hd; rfl) hI (Below.refl _ _)
        · have h29 := getD_form (show a'.tmps.getD 29 undef = .pointer (some ⟨b, k, none⟩) from hds 29 (by simp))
          have hcl : w'.cell? ⟨b, k, none⟩ = some (.string ⟨x.toArray⟩) := (hI.cell (p := ⟨b, k, none⟩) hbr).trans HC.out
          go_simp
          exact hK _ _ (fun d hd => by cases hd; rfl) hI (Below.refl _ _)
        · go_simp
          refine (ref_Names w').mono ?_
          rintro e w5 ⟨b, cc, rfl, hbl, hst, hb5⟩
          exact hK _ w5 (fun d hd => by cases hd; exact ⟨b, cc, rfl, hbl, hst⟩) (hI.trans (hb5.mono hI.size)) hb5
        · go_simp; exact hK _ _ (fun d hd => by cases hd; rfl) hI (Below.refl _ _)
        · obtain ⟨b, cc, h31, hbl, hst⟩ := (show sfV b c k x 31 _ _ from hds 31 (by simp))
          have h31 := getD_form h31
          have h32 := getD_form (show a'.tmps.getD 32 undef = .int .i64 k from hds 32 (by simp))
          have HST := Lib.hid hst
          clear hst
          go_simp
          exact hK _ _ (fun d hd => by cases hd; exact ⟨b, rfl, hbl, HST.out⟩) hI (Below.refl _ _)
        · obtain ⟨b, h33, hbl, hst⟩ := (show sfV b c k x 33 _ _ from hds 33 (by simp))
          have h33 := getD_form h33
          have hcl : w'.cell? ⟨b, k, none⟩ = some (.string ⟨x.toArray⟩) := by rw [HX.out]; exact hst k hlt
          clear hst
          go_simp
          exact hK _ _ (fun d hd => by cases hd; rfl) hI (Below.refl _ _)
        · have h30 := getD_form (show a'.tmps.getD 30 undef = .string ⟨x.toArray⟩ from hds 30 (by simp))
          have h34 := getD_form (show a'.tmps.getD 34 undef = .string ⟨x.toArray⟩ from hds 34 (by simp))
          go_simp
          exact hK _ _ (fun d hd => by cases hd; rfl) hI (Below.refl _ _)
      · intro f w3 hI hv
        have f35 : f 35 = .bool false := hv 35 (by simp)
        have BR3 : Hid (Below w2.heap.size w2 w3) := HBR.out.trans (hI.mono hsr)
        have HI3 := Lib.hid hI
        clear hv hI
        simp only [putMany]
        go_simp
        go_wp2_with fail
        have hs3 := HI3.out.size
        have KR3 : Hid (Blk w3 w.heap.size (symArr vs) 29) := KR.out.below (by omega) HI3.out
        have hcl3 : w3.cell? ⟨b, k, none⟩ = some (.string ⟨x.toArray⟩) := (HI3.out.cell (p := ⟨b, k, none⟩) hbr).trans HC.out
        clear f35 HI3 HC
        have hbr3 : b < w3.heap.size := by omega
        have hw3 : w.heap.size < w3.heap.size := by omega
        refine wp_region_vals (by kernel_rfl) (n := 74) rfl (by kernel_rfl) (by kernel_rfl) [[], [], [], [38, 39], [40], [37, 41], [42], [36], [36], [43, 42, 37, 38, 39, 40, 41, 42, 36, 43], [44, 11, 37, 38, 39, 40, 41, 42, 36, 43, 44, 11]] (by kernel_rfl) [37, 38, 39, 40, 41, 42, 36, 43, 44, 11, 12] (by kernel_rfl) [2, 5, 10] (by kernel_rfl) (sgV b c k x vs y) (fun w' => Below w3.heap.size w3 w') (fun w w' => Below w.heap.size w w') (sgV_mono b c k x vs y) (Below.refl _ _).drew ?_ ?_
        · simp only [AllSteps]
          refine ⟨?_, ?_, ?_, ?_, ?_, ?_, ?_, ?_, ?_, ?_, ?_, trivial⟩
          all_goals (intro a' w' hI hd0 hnw hds K hK; clear hd0)
          all_goals (have h2 : a'.tmps.getD 2 undef = .pointer (some ⟨w.heap.size, 0, none⟩) := hnw 2 (by simp); have h5 : a'.tmps.getD 5 undef = .slice (some ⟨b, 0, none⟩) 16 c := hnw 5 (by simp); have h10 : a'.tmps.getD 10 undef = .int .i64 k := hnw 10 (by simp); clear hnw)
          · refine wp_load_row_k 29 (.tmp 2) rfl w.heap.size (by go_simp) 29 (symArr vs) _ (KR3.out.below hw3 hI) Tryd.underlying29 rfl (symSize H16.out) ?_
            exact hK _ _ (fun d hd => by cases hd; rfl) hI (Below.refl _ _)
          · go_simp; exact hK _ _ (fun d hd => by cases hd; rfl) hI (Below.refl _ _)
          · go_simp; exact hK _ _ (fun d hd => by cases hd; rfl) hI (Below.refl _ _)
          · have h38 := getD_form (show a'.tmps.getD 38 undef = .slice (some ⟨b, 0, none⟩) 16 c from hds 38 (by simp))
            have h39 := getD_form (show a'.tmps.getD 39 undef = .int .i64 k from hds 39 (by simp))
            go_simp
            exact hK _ _ (fun d hd => by cases hd; rfl) hI (Below.refl _ _)
          · have h40 := getD_form (show a'.tmps.getD 40 undef = .pointer (some ⟨b, k, none⟩) from hds 40 (by simp))
            have hcl : w'.cell? ⟨b, k, none⟩ = some (.string ⟨x.toArray⟩) := (hI.cell (p := ⟨b, k, none⟩) hbr3).trans hcl3
            go_simp
            exact hK _ _ (fun d hd => by cases hd; rfl) hI (Below.refl _ _)
          · have h37 := getD_form (show a'.tmps.getD 37 undef = .agg (symArr vs) from hds 37 (by simp))
            have h41 := getD_form (show a'.tmps.getD 41 undef = .string ⟨x.toArray⟩ from hds 41 (by simp))
            go_simp
            refine (sheet_Field vs H16.out ⟨x.toArray⟩ w').mono ?_
            rintro e w5 ⟨rfl, hb5⟩
            rw [HF.out]
            exact hK _ w5 (fun d hd => by cases hd; rfl) (hI.trans (hb5.mono hI.size)) hb5
          · have h42 := getD_form (show a'.tmps.getD 42 undef = .tuple #[.int .i64 y, .bool true] from hds 42 (by simp))
            go_simp
            exact hK _ _ (fun d hd => by cases hd; rfl) hI (Below.refl _ _)
          · have h36 := getD_form (show a'.tmps.getD 36 undef = .tuple #[.int .i64 y, .bool true] from hds 36 (by simp))
            go_simp
            exact hK _ _ (fun d hd => by cases hd; rfl) hI (Below.refl _ _)
          · have h36 := getD_form (show a'.tmps.getD 36 undef = .tuple #[.int .i64 y, .bool true] from hds 36 (by simp))
            go_simp
            exact hK _ _ (fun d hd => by cases hd; rfl) hI (Below.refl _ _)
          · have h43 := getD_form (show a'.tmps.getD 43 undef = .int .i64 y from hds 43 (by simp))
            go_simp
            exact hK _ _ (fun d hd => by cases hd; rfl) hI (Below.refl _ _)
          · have h44 := getD_form (show a'.tmps.getD 44 undef = .bool true from hds 44 (by simp))
            go_simp
            exact hK _ _ (fun d hd => by cases hd; rfl) hI (Below.refl _ _)
        · intro f2 w4 hI hv
          have f11 : f2 11 = .int .i64 y := hv 11 (by simp)
          have f12 : f2 12 = .bool true := hv 12 (by simp)
          have BR4 : Hid (Below w2.heap.size w2 w4) := BR3.out.trans (hI.mono (by omega))
          have KR4 : Hid (Blk w4 w.heap.size (symArr vs) 29) := KR3.out.below hw3 hI
          have hs4 := hI.size
          have hcl4 : w4.cell? ⟨b, k, none⟩ = some (.string ⟨x.toArray⟩) := (hI.cell (p := ⟨b, k, none⟩) hbr3).trans hcl3
          clear hv hI hcl3 KR3 BR3
          simp only [putMany]
          go_simp
          clear f11 f12
          have hcl4' := Lib.hid hcl4
          clear hcl4
          go_wp2_with (first | (refine wpList_load_row_w (by simp [Region.wanted, yielded, go_sem]) 29 _ rfl w.heap.size rfl 29 (symArr vs) (0, 0) _ KR4.out Tryd.underlying29 rfl (symSize H16.out) ?_) | fail)
          refine (ref_Fields vs H16.out w4).mono ?_
          rintro e w5 ⟨b5, c5, rfl, hb5l, hc5, hb5⟩
          have hc5k : w5.cell? ⟨b5, k, none⟩ = some (.int .i64 y) := by rw [HY.out]; exact hc5 k hlt
          have hcl5 : w5.cell? ⟨b, k, none⟩ = some (.string ⟨x.toArray⟩) := (hb5.cell (p := ⟨b, k, none⟩) (by show b < _; omega)).trans hcl4'.out
          have BR5 : Hid (Below w2.heap.size w2 w5) := BR4.out.trans (hb5.mono (by have := BR4.out.size; omega))
          clear hc5 hb5 hcl4' BR4 KR4
          by_cases hxn : x = name.data.toList
          · have HUU := Lib.hid (show Pl.fieldUpto vs name.data.toList (k + 1) = (y, true) by rw [HU.out, if_pos hxn])
            have hb : (x == name.toList) = true := by rw [beq_iff_eq, Lib.toList_data]; exact hxn
            clear hxn HU
            go_wp2_with fail
            go_roundw
            case rel => exact ⟨k + 1, by omega, by go_num, by rw [HUU.out], by rw [HUU.out], BR5.out⟩
            case measure => simp [intOf]; omega
          · have HUU := Lib.hid (show Pl.fieldUpto vs name.data.toList (k + 1) = (m, was) by rw [HU.out, if_neg hxn])
            have hb : (x == name.toList) = false := by rw [beq_eq_false_iff_ne, Lib.toList_data]; exact hxn
            clear hxn HU
            go_wp2_with fail
            go_roundw
            case rel => exact ⟨k + 1, by omega, by go_num, by rw [HUU.out], by rw [HUU.out], BR5.out⟩
            case measure => simp [intOf]; omega
    · obtain rfl : k = 16 := by omega
      rw [Pl.upto_all]
      have HAL := Lib.hid (law_alive wr (HE.out.below (Nat.le_refl _) BR.out))
      generalize Pl.field vs name.data.toList = fd at *
      obtain ⟨n, is⟩ := fd
      go_wp2_with fail
      refine HAL.out.mono ?_
      rintro e w5 ⟨rfl, hb5⟩
      have BR5 : Hid (Below w.heap.size w w5) := BR.out.trans (hb5.mono (by omega))
      clear hb5
      go_wp2_with fail
      go_ret
      exact ⟨rfl, BR5.out⟩

end Go.Proofs.YtbcepdacfmbekaaDoor
