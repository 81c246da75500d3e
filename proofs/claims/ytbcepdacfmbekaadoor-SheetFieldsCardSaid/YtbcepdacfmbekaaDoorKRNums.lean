/-
  The walk of damperref40.numbers.
-/
import Derived.Test.YtbcepdacfmbekaaDoorKRNum
import Derived.Test.YtbcepdacfmbekaaDoorKRSplit
import Derived.Test.YtbcepdacfmbekaaDoorPw
namespace Go.Proofs.YtbcepdacfmbekaaDoor
open Go.RowKit

def intVs (vs : List Int) : List Value := vs.map (Value.int .i64)
theorem intVs_append (A B : List Int) : intVs (A ++ B) = intVs A ++ intVs B := by simp [intVs]

theorem intInfo : (Tryd.prog.info? 2).map (fun i => (i.zero, i.size, i.bytes)) = some (some (.int .i64 0), 1, 8) := by kernel_rfl

/-- The numbers of a line, or that it is none. -/
def NumsPost (word line : List UInt8) (n : Nat) (w : World) (e : Ending) (w' : World) : Prop := Below w.heap.size w w' ∧ match Pl.readNums word n (Pl.split line) with
  | some vs => ∃ v, e = .returned (.tuple #[v, .bool true]) ∧ w'.ownsRow w.heap.size 2 1 v n (intVs vs)
  | none => e = .returned (.tuple #[.slice none 0 0, .bool false])

theorem nums_none {word line : List UInt8} {n : Nat} {w w' : World} (h : Pl.readNums word n (Pl.split line) = none) (hb : Below w.heap.size w w') : NumsPost word line n w (.returned (.tuple #[.slice none 0 0, .bool false])) w' := by
  unfold NumsPost
  rw [h]
  exact ⟨hb, rfl⟩
theorem nums_some {word line : List UInt8} {n : Nat} {w w' : World} {vs : List Int} {v : Value} (h : Pl.readNums word n (Pl.split line) = some vs) (hb : Below w.heap.size w w') (ho : w'.ownsRow w.heap.size 2 1 v n (intVs vs)) : NumsPost word line n w (.returned (.tuple #[v, .bool true])) w' := by
  unfold NumsPost
  rw [h]
  exact ⟨hb, v, rfl, ho⟩

set_option maxHeartbeats 4000000 in
set_option maxRecDepth 100000 in
theorem ref_numbers (word line : List UInt8) (n : Nat) (hn : n ≤ 1000) (w : World) (hs : line.length ≤ 1000000) : Calls Tryd.prog 75 #[.string ⟨line.toArray⟩, .string ⟨word.toArray⟩, .int .i64 n] w (NumsPost word line n w) := by
  obtain ⟨inf, hinf, hinf2⟩ := Option.map_eq_some_iff.1 intInfo
  simp only [Prod.mk.injEq] at hinf2
  obtain ⟨hz, hsi, hby⟩ := hinf2
  have HI := Lib.hid hinf
  have HZ := Lib.hid hz
  have HS := Lib.hid hsi
  have HB := Lib.hid hby
  clear hinf hz hsi hby
  have HNO := Lib.hid (fun w' => @nums_none word line n w w')
  have HYES := Lib.hid (fun w' => @nums_some word line n w w')
  have hle := Pl.split_getD_le line
  have HSPL := Lib.hid (ref_Split line w (by omega))
  go_enter Tryd.func75, Tryd.ntmps75
  go_wp2_with fail
  refine HSPL.out.mono ?_
  rintro e w1 ⟨v, rfl, hb1, hown1⟩
  clear HSPL
  have hrn : Pl.readNums word n (Pl.split line) = if (Pl.split line).length = n + 1 ∧ (Pl.split line).getD 0 [] = word then Pl.nonnegs ((Pl.split line).drop 1) else none := rfl
  have hlen : (Pl.split line).length ≤ line.length + 1 := by
    unfold Pl.split
    split
    · simp
    · rw [Pl.splitC_length]; have := List.count_le_length (a := (32 : UInt8)) (l := line); omega
  generalize Pl.split line = ws at *
  have HRN := Lib.hid hrn
  clear hrn
  by_cases hwl : ws.length = n + 1
  · obtain ⟨g, c, rfl, hg1, hg2⟩ := World.ownsRow.form hown1 (by omega)
    have hcell : ∀ j, j < n + 1 → w1.cell? ⟨g, j, none⟩ = some (.string ⟨(ws.getD j []).toArray⟩) := fun j hj => by
      rw [World.ownsRow.cellAt hown1 j (by omega)]
      unfold strVs
      rw [List.getElem?_map, List.getD_eq_getElem?_getD, List.getElem?_eq_getElem (by omega)]
      rfl
    have HC := Lib.hid hcell
    have hc0 := hcell 0 (by omega)
    have hwn : IntKind.i64.wrap ((n : Int) + 1) = (n : Int) + 1 := by rw [IntKind.wrap_i64]; omega
    clear hcell hown1
    rw [hwl]
    by_cases h0 : ws.getD 0 [] = word
    · have HRN2 := Lib.hid (show Pl.readNums word n ws = Pl.nonnegs (ws.drop 1) by rw [HRN.out, if_pos ⟨hwl, h0⟩])
      rw [h0] at hc0
      clear h0
      have hdl : (ws.drop 1).length = n := by simp; omega
      go_wp2_with fail
      go_loopw [9, 10] (fun v i wr => ∃ (k : Nat) (vs : List Int), k ≤ n ∧ i = .int .i64 ((k : Int) + 1) ∧ wr.ownsRow w1.heap.size 2 1 v k (intVs vs) ∧ Below w1.heap.size w1 wr ∧ Hid (Pl.nonnegs ((ws.drop 1).take k) = some vs)) (fun _ i _ => n + 1 - (intOf i).toNat)
      case atStart => exact ⟨0, [], Nat.zero_le _, rfl, World.ownsRow_nil w1 w1.heap.size _ _, Below.refl _ _, rfl⟩
      case round =>
        obtain ⟨k, vs, hk, rfl, hown, hbel, HV⟩ := hrel
        have hsw := hbel.size
        by_cases hlt : k < n
        · have hcell : wr.cell? ⟨g, k + 1, none⟩ = _ := (hbel.cell (p := ⟨g, k + 1, none⟩) hg2).trans (HC.out (k + 1) (by omega))
          have hxl : (ws.getD (k + 1) []).length ≤ 140737488355328 := by have := hle (k + 1); omega
          have hdr := Lib.hid (show (ws.drop 1).getD k [] = ws.getD (k + 1) [] by simp [List.getD])
          generalize ws.getD (k + 1) [] = x at *
          have HNUM := Lib.hid (ref_Number x wr hxl)
          have hk1 : ((k : Int) + 1 < (n : Int) + 1) = True := eq_true (by omega)
          go_wp2_with fail
          refine HNUM.out.mono ?_
          rintro e w3 ⟨rfl, hb3⟩
          have hw3 := hb3.size
          have hrg := Pl.number_range x
          cases hnn : Pl.nonneg x with
          | none =>
            have HRN3 := Lib.hid (show Pl.readNums word n ws = none by rw [HRN2.out]; exact Pl.nonnegs_take_none (k := k) (by omega) (by rw [hdr.out]; exact hnn))
            unfold Pl.nonneg at hnn
            generalize Pl.number x = r at *
            obtain ⟨v, is⟩ := r
            cases is
            · clear hnn
              go_wp2_with fail
              go_ret2
              exact HNO.out _ HRN3.out (hb1.trans ((hbel.trans (hb3.mono hsw)).mono hb1.size))
            · have hneg : decide (v < 0) = true := by simp at hnn ⊢; omega
              clear hnn
              go_wp2_with fail
              go_ret2
              exact HNO.out _ HRN3.out (hb1.trans ((hbel.trans (hb3.mono hsw)).mono hb1.size))
          | some v =>
            have HV2 := Lib.hid (Pl.nonnegs_take_succ (k := k) (by omega) HV.out (by rw [hdr.out]; exact hnn))
            unfold Pl.nonneg at hnn
            generalize Pl.number x = r at *
            obtain ⟨m, is⟩ := r
            split at hnn
            · rename_i hc
              obtain ⟨rfl, hc2⟩ := hc
              obtain rfl := Option.some.inj hnn
              have hneg : decide (m < 0) = false := by simp at hc2 ⊢; omega
              have hown3 := ownsRow_below hown hb3
              clear hnn
              go_wp2_with (at_builtin; go_must (refine wpList_append_own _ rfl (.tmp 47) (.tmp 49) 37 rfl w1.heap.size 2 inf (.int .i64 0) 1 8 Tryd.underlying37 HI.out HZ.out HS.out HB.out rfl (by decide) _ k _ rfl (World.ownsRow.alloc hown3 _) ⟨w3.heap.size, 0, none⟩ 1 1 [.int .i64 m] rfl rfl (fun j u hj => by cases j <;> simp at hj; subst hj; exact World.cell?_alloc_new _ _ _ _) (by intro u hu; simp at hu; subst hu; rfl) (by unfold maxLen; omega) (by omega) (by simp; omega) ?_); intro v' w' hown' hgrow' hnn)
              go_roundw
              case rel => exact ⟨k + 1, vs ++ [m], by omega, by go_num, by rw [intVs_append]; exact hown', ((hbel.trans (hb3.mono hsw)).alloc (by omega) _).grown hgrow' (by simp; omega) (fun k hk => (hown3.lt k hk).1), HV2.out⟩
              case measure => simp [intOf]; omega
            · cases hnn
        · obtain rfl : k = n := by omega
          have HRN3 := Lib.hid (show Pl.readNums word k ws = some vs by rw [HRN2.out, ← HV.out, List.take_of_length_le (by omega)])
          go_wp2_with fail
          go_ret2
          exact HYES.out _ HRN3.out (hb1.trans (hbel.mono hb1.size)) (ownsRow_base hb1.size hown)
    · have HRN2 := Lib.hid (show Pl.readNums word n ws = none by rw [HRN.out, if_neg (fun h => h0 h.2)])
      have hne : (ws.getD 0 [] == word) = false := by simpa using h0
      generalize ws.getD 0 [] = x0 at *
      go_wp2_with fail
      go_ret2
      exact HNO.out _ HRN2.out hb1
  · have HRN2 := Lib.hid (show Pl.readNums word n ws = none by rw [HRN.out, if_neg (fun h => hwl h.1)])
    have hwn : IntKind.i64.wrap ((n : Int) + 1) = (n : Int) + 1 := by rw [IntKind.wrap_i64]; omega
    have hq : ((ws.length : Int) == (n : Int) + 1) = false := by rw [beq_eq_false_iff_ne]; omega
    rcases hown1.2 with ⟨rfl, h0⟩ | ⟨g, c, cur, rfl, _⟩
    · have hq : ((0 : Int) == (n : Int) + 1) = false := by rw [beq_eq_false_iff_ne]; omega
      go_wp2_with fail
      all_goals go_ret2
      all_goals exact HNO.out _ HRN2.out hb1
    · go_wp2_with fail
      all_goals go_ret2
      all_goals exact HNO.out _ HRN2.out hb1

end Go.Proofs.YtbcepdacfmbekaaDoor
