/-
  The walk of damperref35.Split.
-/
import Derived.Test.YtbcepdacfmbekaaDoorKReg
import Derived.Test.YtbcepdacfmbekaaDoorKLongs
import Derived.Test.YtbcepdacfmbekaaDoorKFields
import Derived.Test.YtbcepdacfmbekaaDoorPc
import Derived.Test.YtbcepdacfmbekaaDoorKDec
import Derived.Deep.AppendLies
import Derived.Laws.OwnMore
namespace Go.Proofs.YtbcepdacfmbekaaDoor
open Go.RowKit

def strV (p : List UInt8) : Value := .string ⟨p.toArray⟩
def strVs (L : List (List UInt8)) : List Value := L.map strV
theorem strVs_append (A B : List (List UInt8)) : strVs (A ++ B) = strVs A ++ strVs B := by simp [strVs]

theorem stringInfo : (Tryd.prog.info? 9).map (fun i => (i.zero, i.size, i.bytes)) = some (some (.string ⟨#[]⟩), 1, 16) := by kernel_rfl

/-- What Split's result is: nothing, or a row of words of its own. -/
def SplitPost (l : List UInt8) (w : World) (e : Ending) (w' : World) : Prop := ∃ v, e = .returned v ∧ Below w.heap.size w w' ∧ w'.ownsRow w.heap.size 9 1 v (Pl.split l).length (strVs (Pl.split l))

/-- Slots of the region that puts one byte behind the last word. -/
def splV (s : ByteArray) (g m c k : Nat) (last : List UInt8) (x : UInt8) (d : Nat) : Value → World → Prop :=
  match d with
  | 21 => fun v _ => v = .slice (some ⟨g, 0, none⟩) (m + 1) c
  | 22 => fun v _ => v = .slice (some ⟨g, 0, none⟩) (m + 1) c
  | 25 => fun v _ => v = .slice (some ⟨g, 0, none⟩) (m + 1) c
  | 26 => fun v _ => v = .slice (some ⟨g, 0, none⟩) (m + 1) c
  | 23 => fun v _ => v = .int .i64 ((m : Int) + 1)
  | 27 => fun v _ => v = .int .i64 ((m : Int) + 1)
  | 24 => fun v _ => v = .int .i64 m
  | 28 => fun v _ => v = .int .i64 m
  | 29 => fun v _ => v = .pointer (some ⟨g, m, none⟩)
  | 37 => fun v _ => v = .pointer (some ⟨g, m, none⟩)
  | 30 => fun v _ => v = .string ⟨last.toArray⟩
  | 31 => fun v _ => v = .string s
  | 32 => fun v _ => v = .int .i64 k
  | 33 => fun v _ => v = .int .i64 k
  | 34 => fun v _ => v = .int .i64 ((k : Int) + 1)
  | 35 => fun v _ => v = .string ⟨[x].toArray⟩
  | 36 => fun v _ => v = .string ⟨(last ++ [x]).toArray⟩
  | _ => fun _ _ => True

theorem arr_of {a b : Array Value} (h : a.size = b.size) (h2 : ∀ i, i < b.size → a.getD i undef = b.getD i undef) : a = b := by
  apply Array.ext h
  intro i h1 h3
  have := h2 i h3
  simpa [Array.getD_eq_getD_getElem?, h1, h3] using this

theorem set_last {α : Type} (L : List α) (y : α) (h : L ≠ []) : L.dropLast ++ [y] = L.set (L.length - 1) y := by
  rcases List.eq_nil_or_concat L with rfl | ⟨A, z, rfl⟩
  · exact absurd rfl h
  · simp
theorem last_at {α : Type} (L : List α) (d : α) (h : L ≠ []) : L[L.length - 1]? = some (L.getLastD d) := by
  rcases List.eq_nil_or_concat L with rfl | ⟨A, z, rfl⟩
  · exact absurd rfl h
  · simp [List.getLastD_eq_getLast?]

set_option maxHeartbeats 4000000 in
set_option maxRecDepth 100000 in
theorem ref_Split (l : List UInt8) (w : World) (hs : l.length ≤ 1000000000) : Calls Tryd.prog 32 #[.string ⟨l.toArray⟩] w (SplitPost l w) := by
  obtain ⟨inf, hinf, hinf2⟩ := Option.map_eq_some_iff.1 stringInfo
  simp only [Prod.mk.injEq] at hinf2
  obtain ⟨hz, hsi, hby⟩ := hinf2
  have HI := Lib.hid hinf
  have HZ := Lib.hid hz
  have HS := Lib.hid hsi
  have HB := Lib.hid hby
  clear hinf hz hsi hby
  obtain ⟨s, hse⟩ : ∃ s : ByteArray, s = ⟨l.toArray⟩ := ⟨_, rfl⟩
  have hsz : s.size = l.length := by rw [hse, Lib.size_eq]
  have HG := Lib.hid (show ∀ k (h : k < s.size), s[k]'h = l.getD k 0 from fun k h => by subst hse; exact ba_get l k h)
  have htl : s.toList = l := by rw [hse, Lib.toList_data]
  have HSE := Lib.hid hse
  rw [← hse]
  clear hse
  go_enter Tryd.func32, Tryd.ntmps32
  by_cases hl : l = []
  · subst hl
    have hem : (s.toList == []) = true := by rw [htl]; rfl
    clear htl
    go_wp2_with fail
    all_goals go_ret
    all_goals exact ⟨_, rfl, Below.refl _ _, World.ownsRow_nil w w.heap.size _ _⟩
  · have hl0 : 0 < l.length := List.length_pos_iff.2 hl
    have hem : (s.toList == []) = false := by rw [htl]; simpa using hl
    have HSP := Lib.hid (show Pl.split l = Pl.splitC 32 l by unfold Pl.split; rw [if_neg (by simpa using hl)])
    clear htl hl
    go_wp2_with fail
    go_loopw [3, 4] (fun v i wr => ∃ k : Nat, k ≤ l.length ∧ i = .int .i64 k ∧ wr.ownsRow w.heap.size 9 1 v (Pl.splitC 32 (l.take k)).length (strVs (Pl.splitC 32 (l.take k))) ∧ Below w.heap.size w wr) (fun _ i _ => l.length - (intOf i).toNat)
    case atStart => exact ⟨0, Nat.zero_le _, rfl, by
      have := World.ownsRow_lit (base := w.heap.size) (e := 9) (size := 1) w #[.string ⟨#[]⟩] 1 (Nat.le_refl _) (by unfold maxLen; omega) rfl
      exact this, (Below.refl _ _).alloc (Nat.le_refl _) _⟩
    case round =>
      obtain ⟨k, hk, rfl, hown, hbel⟩ := hrel
      by_cases hlt : k < l.length
      · have hks : k < s.size := by omega
        have hxk := HG.out k hks
        have hts := take_snoc l k 0 hlt
        have hne := Pl.splitC_ne 32 (l.take k)
        have hlen := Pl.splitC_length 32 (l.take k)
        have hcnt : (l.take k).count 32 ≤ k := Nat.le_trans List.count_le_length (by simp; omega)
        have hle := Pl.splitC_take_le 32 l k
        have hsn := Pl.splitC_snoc 32 (l.getD k 0) (l.take k)
        rw [← hts] at hsn
        have HSN := Lib.hid hsn
        have hex : s.extract k (k + 1) = ⟨#[l.getD k 0]⟩ := by
          rw [HSE.out]
          apply ByteArray.ext
          rw [ByteArray.data_extract]
          show l.toArray.extract k (k + 1) = #[l.getD k 0]
          rw [List.extract_toArray, List.extract_eq_take_drop, List.drop_eq_getElem_cons hlt, Nat.add_sub_cancel_left, List.take_succ_cons, List.take_zero, List.getD_eq_getElem?_getD, List.getElem?_eq_getElem hlt]
          rfl
        clear hts hsn
        generalize l.getD k 0 = x at *
        generalize Pl.splitC 32 (l.take k) = L at *
        have hn0 : 0 < L.length := by omega
        have hsw := hbel.size
        obtain ⟨g, c, rfl, hg1, hg2⟩ := World.ownsRow.form hown hn0
        by_cases hx : x = 32
        · subst hx
          have HSN2 := Lib.hid (show Pl.splitC 32 (l.take (k + 1)) = L ++ [[]] from HSN.out)
          clear HSN
          go_wp2_with (at_builtin; go_must (refine wpList_append_own _ rfl (.tmp 18) (.tmp 19) 33 rfl w.heap.size 9 inf (.string ⟨#[]⟩) 1 16 Tryd.underlying33 HI.out HZ.out HS.out HB.out rfl (by decide) _ L.length _ rfl (World.ownsRow.alloc hown _) ⟨wr.heap.size, 0, none⟩ 1 1 [.string ⟨#[]⟩] rfl rfl (fun j u hj => by cases j <;> simp at hj; subst hj; exact World.cell?_alloc_new _ _ _ _) (by intro u hu; simp at hu; subst hu; rfl) (by unfold maxLen; omega) (by omega) (by simp; omega) ?_); intro v' w' hown' hgrow' hnn)
          go_roundw
          case rel => exact ⟨k + 1, by omega, by go_num, by rw [HSN2.out, strVs_append, List.length_append]; exact hown', (hbel.alloc hsw _).grown hgrow' (by simp; omega) (fun k hk => (hown.lt k hk).1)⟩
          case measure => simp [intOf]; omega
        · have hxb : ((x.toNat : Int) == 32) = false := by
            rw [beq_eq_false_iff_ne]; intro e; exact hx (by apply UInt8.toNat_inj.1; rw [show (32 : UInt8).toNat = 32 from rfl]; omega)
          have hxq : (x == 32) = false := by simpa using hx
          have HSN2 := Lib.hid (show Pl.splitC 32 (l.take (k + 1)) = L.set (L.length - 1) (L.getLastD [] ++ [x]) by rw [HSN.out, if_neg (by rw [hxq]; simp), set_last _ _ hne])
          have hcell : wr.cell? ⟨g, L.length - 1, none⟩ = some (.string ⟨(L.getLastD []).toArray⟩) := by
            rw [World.ownsRow.cellAt hown (L.length - 1) (by omega)]
            unfold strVs
            rw [List.getElem?_map, last_at L [] hne]
            rfl
          have hfz : wr.frozen? ⟨g, L.length - 1, none⟩ = false := World.ownsRow.frozenAt hown _
          have HST := Lib.hid (World.ownsRow.stored hown (L.length - 1) (.string ⟨(L.getLastD [] ++ [x]).toArray⟩))
          have hll : (L.getLastD []).length ≤ l.length := hle _ (List.mem_of_getElem? (last_at L [] hne))
          obtain ⟨m, hm⟩ : ∃ m, L.length = m + 1 := ⟨L.length - 1, by omega⟩
          have HSL := Lib.hid (show strVs (L.set (L.length - 1) (L.getLastD [] ++ [x])) = (strVs L).set (L.length - 1) (.string ⟨(L.getLastD [] ++ [x]).toArray⟩) by unfold strVs; rw [List.map_set]; rfl)
          have HLL := Lib.hid (show (L.set (L.length - 1) (L.getLastD [] ++ [x])).length = m + 1 by rw [List.length_set, hm])
          generalize L.getLastD [] = last at *
          simp only [hm, Nat.add_sub_cancel] at hown hfz hcell HST HSN2 HSL HLL
          rw [hm]
          clear HSN hle hne
          go_wp2_with fail
          refine wp_region_last (by kernel_rfl) (n := 39) rfl (by kernel_rfl) 17 rfl (by kernel_rfl) [[], [], [22], [23], [], [], [26], [27], [25, 28], [29], [], [], [], [33], [31, 32, 34], [30, 35], [21, 24, 21, 22, 23, 24, 25, 26, 27, 28, 29, 30, 31, 32, 33, 34, 35, 36]] (by kernel_rfl) [0, 1, 2, 3, 4, 5, 6, 7, 8, 9, 10, 11, 12, 13, 14, 15, 16, 17, 18, 19, 20, 38] (by kernel_rfl) [21, 22, 23, 24, 25, 26, 27, 28, 29, 30, 31, 32, 33, 34, 35, 36, 37] (by kernel_rfl) _ rfl (splV s g m c k last x) (fun w' => w' = wr.drew) (fun a b => a = b) (fun _ _ _ _ h hv => h ▸ hv) rfl ?_ ?_
          · simp only [List.take_succ_cons, List.take_zero, AllSteps]
            have hcd : wr.drew.cell? ⟨g, m, none⟩ = some (.string ⟨last.toArray⟩) := hcell
            have hm1 : ((m : Int) < (m : Int) + 1) = True := eq_true (by omega)
            have hk1 : (0 ≤ (k : Int) + 1 ∧ (k : Int) + 1 ≤ (l.length : Int)) = True := eq_true (by omega)
            have hk2 : ((k : Int) ≤ (k : Int) + 1) = True := eq_true (by omega)
            have hln : (9223372036854775807 < last.length + 1) = False := eq_false (by omega)
            have hap : (⟨last.toArray⟩ : ByteArray) ++ ⟨#[x]⟩ = ⟨(last ++ [x]).toArray⟩ := ba_append last [x]
            have hwm : IntKind.i64.wrap (m : Int) = m := by rw [IntKind.wrap_i64]; omega
            have hwk : IntKind.i64.wrap ((k : Int) + 1) = (k : Int) + 1 := by rw [IntKind.wrap_i64]; omega
            refine ⟨?_, ?_, ?_, ?_, ?_, ?_, ?_, ?_, ?_, ?_, ?_, ?_, ?_, ?_, ?_, ?_, ?_, trivial⟩
            all_goals (intro a' w' hI hd0 hnw hds K hK; clear hd0; subst hI)
            all_goals (have h0 : a'.tmps.getD 0 undef = .string s := hnw 0 (by simp); have h3 : a'.tmps.getD 3 undef = .slice (some ⟨g, 0, none⟩) (m + 1) c := hnw 3 (by simp); have h4 : a'.tmps.getD 4 undef = .int .i64 k := hnw 4 (by simp); clear hnw)
            · go_simp; exact hK _ _ (fun d hd => by cases hd; rfl) rfl rfl
            · go_simp; exact hK _ _ (fun d hd => by cases hd; rfl) rfl rfl
            · have h22 := getD_form (show a'.tmps.getD 22 undef = .slice (some ⟨g, 0, none⟩) (m + 1) c from hds 22 (by simp))
              go_simp; exact hK _ _ (fun d hd => by cases hd; rfl) rfl rfl
            · have h23 := getD_form (show a'.tmps.getD 23 undef = .int .i64 ((m : Int) + 1) from hds 23 (by simp))
              go_simp
              exact hK _ _ (fun d hd => by cases hd; rfl) rfl rfl
            · go_simp; exact hK _ _ (fun d hd => by cases hd; rfl) rfl rfl
            · go_simp; exact hK _ _ (fun d hd => by cases hd; rfl) rfl rfl
            · have h26 := getD_form (show a'.tmps.getD 26 undef = .slice (some ⟨g, 0, none⟩) (m + 1) c from hds 26 (by simp))
              go_simp; exact hK _ _ (fun d hd => by cases hd; rfl) rfl rfl
            · have h27 := getD_form (show a'.tmps.getD 27 undef = .int .i64 ((m : Int) + 1) from hds 27 (by simp))
              go_simp
              exact hK _ _ (fun d hd => by cases hd; rfl) rfl rfl
            · have h25 := getD_form (show a'.tmps.getD 25 undef = .slice (some ⟨g, 0, none⟩) (m + 1) c from hds 25 (by simp))
              have h28 := getD_form (show a'.tmps.getD 28 undef = .int .i64 (m : Int) from hds 28 (by simp))
              go_simp
              exact hK _ _ (fun d hd => by cases hd; rfl) rfl rfl
            · have h29 := getD_form (show a'.tmps.getD 29 undef = .pointer (some ⟨g, m, none⟩) from hds 29 (by simp))
              go_simp
              exact hK _ _ (fun d hd => by cases hd; rfl) rfl rfl
            · go_simp; exact hK _ _ (fun d hd => by cases hd; rfl) rfl rfl
            · go_simp; exact hK _ _ (fun d hd => by cases hd; rfl) rfl rfl
            · go_simp; exact hK _ _ (fun d hd => by cases hd; rfl) rfl rfl
            · have h33 := getD_form (show a'.tmps.getD 33 undef = .int .i64 (k : Int) from hds 33 (by simp))
              go_simp
              exact hK _ _ (fun d hd => by cases hd; rfl) rfl rfl
            · have h31 := getD_form (show a'.tmps.getD 31 undef = .string s from hds 31 (by simp))
              have h32 := getD_form (show a'.tmps.getD 32 undef = .int .i64 (k : Int) from hds 32 (by simp))
              have h34 := getD_form (show a'.tmps.getD 34 undef = .int .i64 ((k : Int) + 1) from hds 34 (by simp))
              go_simp
              exact hK _ _ (fun d hd => by cases hd; rfl) rfl rfl
            · have h30 := getD_form (show a'.tmps.getD 30 undef = .string ⟨last.toArray⟩ from hds 30 (by simp))
              have h35 := getD_form (show a'.tmps.getD 35 undef = .string ⟨[x].toArray⟩ from hds 35 (by simp))
              go_simp
              exact hK _ _ (fun d hd => by cases hd; rfl) rfl rfl
            · have h21 := getD_form (show a'.tmps.getD 21 undef = .slice (some ⟨g, 0, none⟩) (m + 1) c from hds 21 (by simp))
              have h24 := getD_form (show a'.tmps.getD 24 undef = .int .i64 (m : Int) from hds 24 (by simp))
              go_simp
              exact hK _ _ (fun d hd => by cases hd; rfl) rfl rfl
          · intro a' w' hI hsz2 hd hnw hds
            subst hI
            obtain ⟨tm, df⟩ := a'
            simp only at hsz2 hd
            subst hd
            have e : tm = #[.string s, undef, .slice none 0 0, .slice (some ⟨g, 0, none⟩) (m + 1) c, .int .i64 k, .string s, .bool false, .slice (some ⟨w.heap.size, 0, none⟩) 1 1, .int .i64 k, .string s, .int .i64 l.length, .bool true, u12, u13, .string s, .int .i64 k, .int .u8 x.toNat, .bool false, u18, u19, u20, .slice (some ⟨g, 0, none⟩) (m + 1) c, .slice (some ⟨g, 0, none⟩) (m + 1) c, .int .i64 ((m : Int) + 1), .int .i64 m, .slice (some ⟨g, 0, none⟩) (m + 1) c, .slice (some ⟨g, 0, none⟩) (m + 1) c, .int .i64 ((m : Int) + 1), .int .i64 m, .pointer (some ⟨g, m, none⟩), .string ⟨last.toArray⟩, .string s, .int .i64 k, .int .i64 k, .int .i64 ((k : Int) + 1), .string ⟨[x].toArray⟩, .string ⟨(last ++ [x]).toArray⟩, .pointer (some ⟨g, m, none⟩), undef] := by
              refine arr_of hsz2 (fun i hi => ?_)
              match i, hi with
                | 0, _ => exact hnw 0 (by simp)
                | 1, _ => exact hnw 1 (by simp)
                | 2, _ => exact hnw 2 (by simp)
                | 3, _ => exact hnw 3 (by simp)
                | 4, _ => exact hnw 4 (by simp)
                | 5, _ => exact hnw 5 (by simp)
                | 6, _ => exact hnw 6 (by simp)
                | 7, _ => exact hnw 7 (by simp)
                | 8, _ => exact hnw 8 (by simp)
                | 9, _ => exact hnw 9 (by simp)
                | 10, _ => exact hnw 10 (by simp)
                | 11, _ => exact hnw 11 (by simp)
                | 12, _ => exact hnw 12 (by simp)
                | 13, _ => exact hnw 13 (by simp)
                | 14, _ => exact hnw 14 (by simp)
                | 15, _ => exact hnw 15 (by simp)
                | 16, _ => exact hnw 16 (by simp)
                | 17, _ => exact hnw 17 (by simp)
                | 18, _ => exact hnw 18 (by simp)
                | 19, _ => exact hnw 19 (by simp)
                | 20, _ => exact hnw 20 (by simp)
                | 21, _ => exact hds 21 (by simp)
                | 22, _ => exact hds 22 (by simp)
                | 23, _ => exact hds 23 (by simp)
                | 24, _ => exact hds 24 (by simp)
                | 25, _ => exact hds 25 (by simp)
                | 26, _ => exact hds 26 (by simp)
                | 27, _ => exact hds 27 (by simp)
                | 28, _ => exact hds 28 (by simp)
                | 29, _ => exact hds 29 (by simp)
                | 30, _ => exact hds 30 (by simp)
                | 31, _ => exact hds 31 (by simp)
                | 32, _ => exact hds 32 (by simp)
                | 33, _ => exact hds 33 (by simp)
                | 34, _ => exact hds 34 (by simp)
                | 35, _ => exact hds 35 (by simp)
                | 36, _ => exact hds 36 (by simp)
                | 37, _ => exact hds 37 (by simp)
                | 38, _ => exact hnw 38 (by simp)
                | i + 39, hi => exact absurd hi (by simp)
            subst e
            clear hds hnw
            have hfd : wr.drew.frozen? ⟨g, m, none⟩ = false := hfz
            have hcd : wr.drew.cell? ⟨g, m, none⟩ = some (.string ⟨last.toArray⟩) := hcell
            go_simp
            go_wp2_with fail
            go_roundw
            case rel => exact ⟨k + 1, by omega, by go_num, by rw [HSN2.out, HLL.out, HSL.out]; exact HST.out.1, hbel.drew.setCell (p := ⟨g, m, none⟩) hg1 _⟩
            case measure => simp [intOf]; omega
      · obtain rfl : k = l.length := by omega
        rw [List.take_length, ← HSP.out] at hown
        go_wp2_with fail
        go_ret
        exact ⟨_, rfl, hbel, hown⟩

end Go.Proofs.YtbcepdacfmbekaaDoor
