/-
  The walk of damperref40.Row.
-/
import Derived.Test.YtbcepdacfmbekaaDoorKRNums
import Derived.Test.YtbcepdacfmbekaaDoorKRArr
import Derived.Test.YtbcepdacfmbekaaDoorKRow
import Derived.Test.YtbcepdacfmbekaaDoorPr
namespace Go.Proofs.YtbcepdacfmbekaaDoor
open Go.RowKit

theorem rowInfo : (Tryd.prog.info? 24).map (·.size) = some 2 := by kernel_rfl
/-- What a function of two results, a row in a block and one in a slot, returns. -/
theorem results_row {fn : Func} (h : fn.results = #[.cell 2 24, .tmp 3]) (tmps : Array Value) (w : World) (b : Nat) (cs : Array Value) (u : Value)
    (hp : tmps.getD 2 undef = .pointer (some ⟨b, 0, none⟩)) (ht : tmps.getD 3 undef = u) (hb : Blk w b cs 24) (h2 : cs.size = 2) :
    (results fn tmps).run Tryd.prog w = .ok (.tuple #[.agg cs, u]) w := by
  subst ht
  have hl := run_loadVar_row (P := Tryd.prog) w b 24 24 cs (0, 0) ((Tryd.prog.underlying 24).get (by kernel_rfl)) hb (by simp) (by kernel_rfl) (by rw [h2]; exact rowInfo)
  have hp' : tmps[2]?.getD undef = .pointer (some ⟨b, 0, none⟩) := by simpa using hp
  simp [results, h, hp', asAddr, hl]

def RRowPost (line : List UInt8) (w : World) (e : Ending) (w' : World) : Prop := e = .returned (rowRes line) ∧ Below w.heap.size w w'

theorem rrow_none {line : List UInt8} {w w' : World} (h : Pl.refRow line = none) (hb : Below w.heap.size w w') : RRowPost line w (.returned (.tuple #[.agg #[.int .i64 0, .int .i64 0], .int .i64 4])) w' := by
  unfold RRowPost rowRes
  rw [← Pl.refRow_eq, h]
  exact ⟨rfl, hb⟩
theorem rrow_some {line : List UInt8} {w w' : World} {v p : Int} (h : Pl.refRow line = some (v, p)) (hb : Below w.heap.size w w') : RRowPost line w (.returned (.tuple #[.agg #[.int .i64 v, .int .i64 p], .int .i64 0])) w' := by
  unfold RRowPost rowRes
  rw [← Pl.refRow_eq, h]
  exact ⟨rfl, hb⟩

/-- Slots of the region that compares a phase's word. -/
def rrV (g c k : Nat) (p x2 : List UInt8) (d : Nat) : Value → World → Prop :=
  match d with
  | 38 => fun v w => ∃ b cc, v = .slice (some ⟨b, 0, none⟩) 3 cc ∧ b < w.heap.size ∧ Strs w b phaseWords
  | 39 => fun v _ => v = .int .i64 k
  | 40 => fun v w => ∃ b, v = .pointer (some ⟨b, k, none⟩) ∧ b < w.heap.size ∧ Strs w b phaseWords
  | 41 => fun v _ => v = .string ⟨p.toArray⟩
  | 42 => fun v _ => v = .slice (some ⟨g, 0, none⟩) 3 c
  | 43 => fun v _ => v = .pointer (some ⟨g, 2, none⟩)
  | 44 => fun v _ => v = .string ⟨x2.toArray⟩
  | _ => fun _ _ => True
theorem rrV_mono (g c k : Nat) (p x2 : List UInt8) (d : Nat) (v : Value) (w w' : World) (hb : Below w.heap.size w w') (h : rrV g c k p x2 d v w) : rrV g c k p x2 d v w' := by
  unfold rrV at h ⊢
  split at h
  all_goals first | exact h | (obtain ⟨b, cc, h1, h2, h3⟩ := h; exact ⟨b, cc, h1, Nat.lt_of_lt_of_le h2 hb.size, h3.below h2 hb⟩) | (obtain ⟨b, h1, h2, h3⟩ := h; exact ⟨b, h1, Nat.lt_of_lt_of_le h2 hb.size, h3.below h2 hb⟩)

set_option maxHeartbeats 4000000 in
set_option maxRecDepth 100000 in
theorem ref_Row (line : List UInt8) (w : World) (hs : line.length ≤ 1000000) : Calls Tryd.prog 18 #[.string ⟨line.toArray⟩] w (RRowPost line w) := by
  have HNO := Lib.hid (fun w' => @rrow_none line w w')
  have HYES := Lib.hid (fun w' => @rrow_some line w w')
  have hle := Pl.split_getD_le line
  obtain ⟨W0, hW0⟩ : ∃ W0, W0 = w.alloc (.cells #[.int .i64 0, .int .i64 0] 24) := ⟨_, rfl⟩
  have hbW : Below w.heap.size w W0 := by rw [hW0]; exact (Below.refl _ _).alloc (Nat.le_refl _) _
  have hsW : W0.heap.size = w.heap.size + 1 := by rw [hW0, World.size_alloc]
  have hkW : Blk W0 w.heap.size #[.int .i64 0, .int .i64 0] 24 := by rw [hW0]; exact Blk.alloc _ _
  have HSPL := Lib.hid (ref_Split line W0 (by omega))
  go_enter Tryd.func18, Tryd.ntmps18
  go_wp2_with fail
  rw [← hW0]
  clear hW0
  refine HSPL.out.mono ?_
  rintro e w1 ⟨v, rfl, hb1, hown1⟩
  clear HSPL
  have hrn : Pl.refRow line = if (Pl.split line).length = 3 ∧ (Pl.split line).getD 0 [] = Pl.rowWord then
    match Pl.nonneg ((Pl.split line).getD 1 []) with
    | none => none
    | some v => if 0 ≤ Pl.indexOf ((Pl.split line).getD 2 []) Pl.phases3 then some (v, Pl.indexOf ((Pl.split line).getD 2 []) Pl.phases3) else none
  else none := rfl
  have hbw1 : Below w.heap.size w w1 := hbW.trans (hb1.mono (by omega))
  have hk1 : Blk w1 w.heap.size #[.int .i64 0, .int .i64 0] 24 := hkW.below (by omega) hb1
  have hs1 := hb1.size
  have HBW := Lib.hid hbw1
  have HK := Lib.hid hk1
  have hbk0 : Hid (Blk ((w1.setCell ⟨w.heap.size, 0, none⟩ (.int .i64 0)).setCell ⟨w.heap.size, 1, none⟩ (.int .i64 0)) w.heap.size #[.int .i64 0, .int .i64 0] 24) := (hk1.set 0 (.int .i64 0)).set 1 (.int .i64 0)
  have hbl0 : Hid (Below w.heap.size w ((w1.setCell ⟨w.heap.size, 0, none⟩ (.int .i64 0)).setCell ⟨w.heap.size, 1, none⟩ (.int .i64 0))) := (hbw1.setCell (p := ⟨w.heap.size, 0, none⟩) (Nat.le_refl _) _).setCell (p := ⟨w.heap.size, 1, none⟩) (Nat.le_refl _) _
  have hq0 : w1.cell? ⟨w.heap.size, 0, none⟩ = some (.int .i64 0) := hk1.cell 0
  have hq1 : w1.cell? ⟨w.heap.size, 1, none⟩ = some (.int .i64 0) := hk1.cell 1
  have hz0 : w1.frozen? ⟨w.heap.size, 0, none⟩ = false := hk1.frozen 0
  have hz1 : w1.frozen? ⟨w.heap.size, 1, none⟩ = false := hk1.frozen 1
  clear hbw1 hk1 hbW hkW hb1
  generalize Pl.split line = ws at *
  have HRN := Lib.hid hrn
  clear hrn
  by_cases hwl : ws.length = 3
  · obtain ⟨g, c, rfl, hg1, hg2⟩ := World.ownsRow.form hown1 (by omega)
    have hcell : ∀ j, j < 3 → w1.cell? ⟨g, j, none⟩ = some (.string ⟨(ws.getD j []).toArray⟩) := fun j hj => by
      rw [World.ownsRow.cellAt hown1 j (by omega)]
      unfold strVs
      rw [List.getElem?_map, List.getD_eq_getElem?_getD, List.getElem?_eq_getElem (by omega)]
      rfl
    have HC := Lib.hid hcell
    have hc0 := hcell 0 (by omega)
    have hc1 := hcell 1 (by omega)
    clear hcell hown1
    rw [hwl]
    by_cases h0 : ws.getD 0 [] = Pl.rowWord
    · have HRN2 := Lib.hid (show Pl.refRow line = match Pl.nonneg (ws.getD 1 []) with
        | none => none
        | some v => if 0 ≤ Pl.indexOf (ws.getD 2 []) Pl.phases3 then some (v, Pl.indexOf (ws.getD 2 []) Pl.phases3) else none by rw [HRN.out, if_pos ⟨hwl, h0⟩])
      rw [h0] at hc0
      unfold Pl.rowWord at hc0
      have hx1 : (ws.getD 1 []).length ≤ 140737488355328 := by have := hle 1; omega
      have hc2 := HC.out 2 (by omega)
      clear HRN HC h0 hle
      generalize ws.getD 1 [] = x1 at *
      generalize ws.getD 2 [] = x2 at *
      have HC2 := Lib.hid hc2
      clear hc2
      have HNUM := Lib.hid (ref_Number x1 w1 hx1)
      go_wp2_with fail
      refine HNUM.out.mono ?_
      rintro e w3 ⟨rfl, hb3⟩
      have hs3 := hb3.size
      have B3 : Hid (Below w.heap.size w w3) := HBW.out.trans (hb3.mono (by omega))
      have K3 : Hid (Blk w3 w.heap.size #[.int .i64 0, .int .i64 0] 24) := HK.out.below (by omega) hb3
      have c2 : Hid (w3.cell? ⟨g, 2, none⟩ = some (.string ⟨x2.toArray⟩)) := (hb3.cell (p := ⟨g, 2, none⟩) hg2).trans HC2.out
      clear hq0 hq1 hz0 hz1 hc0 hc1 HC2 hbk0 hbl0 HBW HK HNUM hb3
      have hrg := Pl.number_range x1
      cases hnn : Pl.nonneg x1 with
      | none =>
        have HRN3 := Lib.hid (show Pl.refRow line = none by rw [HRN2.out, hnn])
        unfold Pl.nonneg at hnn
        generalize Pl.number x1 = r at *
        obtain ⟨m, is⟩ := r
        have q0 : w3.cell? ⟨w.heap.size, 0, none⟩ = some (.int .i64 0) := K3.out.cell 0
        have q1 : w3.cell? ⟨w.heap.size, 1, none⟩ = some (.int .i64 0) := K3.out.cell 1
        have z0 : w3.frozen? ⟨w.heap.size, 0, none⟩ = false := K3.out.frozen 0
        have z1 : w3.frozen? ⟨w.heap.size, 1, none⟩ = false := K3.out.frozen 1
        have KN : Hid (Blk ((w3.setCell ⟨w.heap.size, 0, none⟩ (.int .i64 0)).setCell ⟨w.heap.size, 1, none⟩ (.int .i64 0)) w.heap.size #[.int .i64 0, .int .i64 0] 24) := (K3.out.set 0 (.int .i64 0)).set 1 (.int .i64 0)
        have BN : Hid (Below w.heap.size w ((w3.setCell ⟨w.heap.size, 0, none⟩ (.int .i64 0)).setCell ⟨w.heap.size, 1, none⟩ (.int .i64 0))) := (B3.out.setCell (p := ⟨w.heap.size, 0, none⟩) (Nat.le_refl _) _).setCell (p := ⟨w.heap.size, 1, none⟩) (Nat.le_refl _) _
        cases is
        · clear hnn
          go_wp2_with fail
          exact bodyPost_ret (v := .tuple #[.agg #[.int .i64 0, .int .i64 0], .int .i64 4]) (results_row rfl _ _ w.heap.size #[.int .i64 0, .int .i64 0] (.int .i64 4) rfl rfl KN.out rfl) rfl (HNO.out _ HRN3.out BN.out)
        · have hneg : decide (m < 0) = true := by simp at hnn ⊢; omega
          clear hnn
          go_wp2_with fail
          exact bodyPost_ret (v := .tuple #[.agg #[.int .i64 0, .int .i64 0], .int .i64 4]) (results_row rfl _ _ w.heap.size #[.int .i64 0, .int .i64 0] (.int .i64 4) rfl rfl KN.out rfl) rfl (HNO.out _ HRN3.out BN.out)
      | some v =>
        have HRN4 := Lib.hid (show Pl.refRow line = if 0 ≤ Pl.indexOf x2 Pl.phases3 then some (v, Pl.indexOf x2 Pl.phases3) else none by rw [HRN2.out, hnn])
        unfold Pl.nonneg at hnn
        generalize Pl.number x1 = r at *
        obtain ⟨m, is⟩ := r
        split at hnn
        · rename_i hc
          obtain ⟨rfl, hcc⟩ := hc
          obtain rfl := Option.some.inj hnn
          have hneg : decide (m < 0) = false := by simp at hcc ⊢; omega
          clear hnn hcc HRN2
          go_wp2_with fail
          go_loopw [7] (fun i wr => ∃ k : Nat, k ≤ 3 ∧ i = .int .i64 k ∧ Below w3.heap.size w3 wr ∧ Hid (∀ j, j < k → ¬ x2 = Pl.phases3.getD j [])) (fun i _ => 3 - (intOf i).toNat)
          case atStart => exact ⟨0, by omega, rfl, Below.refl _ _, fun j hj => absurd hj (by omega)⟩
          case round =>
            obtain ⟨k, hk, rfl, hbel, HN⟩ := hrel
            have hsr := hbel.size
            have BR : Hid (Below w.heap.size w wr) := B3.out.trans (hbel.mono (by omega))
            have KR : Hid (Blk wr w.heap.size #[.int .i64 0, .int .i64 0] 24) := K3.out.below (by omega) hbel
            have cr : Hid (wr.cell? ⟨g, 2, none⟩ = some (.string ⟨x2.toArray⟩)) := (hbel.cell (p := ⟨g, 2, none⟩) (by show g < _; omega)).trans c2.out
            by_cases hlt : k < 3
            · go_wp2_with fail
              have hph := Lib.hid (show phaseWords = Pl.phases3 from rfl)
              obtain ⟨p, hp⟩ : ∃ p, p = Pl.phases3.getD k [] := ⟨_, rfl⟩
              have HP := Lib.hid hp
              clear hp
              refine wp_region_last (by kernel_rfl) (n := 50) rfl (by kernel_rfl) 7 rfl (by kernel_rfl) [[], [], [38, 39], [40], [], [42], [43]] (by kernel_rfl) [0, 1, 2, 3, 4, 5, 6, 7, 8, 9, 10, 11, 12, 13, 14, 15, 16, 17, 18, 19, 20, 21, 22, 23, 24, 25, 26, 27, 28, 29, 30, 31, 32, 33, 34, 35, 36, 37, 46, 47, 48, 49] (by kernel_rfl) [38, 39, 40, 41, 42, 43, 44] (by kernel_rfl) _ rfl (rrV g c k p x2) (fun w' => Below wr.heap.size wr w') (fun w w' => Below w.heap.size w w') (rrV_mono g c k p x2) (Below.refl _ _).drew ?_ ?_
              · simp only [List.take_succ_cons, List.take_zero, AllSteps]
                have hk3 : ((k : Int) < 3) = True := eq_true (by omega)
                refine ⟨?_, ?_, ?_, ?_, ?_, ?_, ?_, trivial⟩
                all_goals (intro a' w' hI hd0 hnw hds K hK; clear hd0)
                all_goals (have h4 : a'.tmps.getD 4 undef = .slice (some ⟨g, 0, none⟩) 3 c := hnw 4 (by simp); have h7 : a'.tmps.getD 7 undef = .int .i64 k := hnw 7 (by simp); clear hnw)
                · go_simp
                  refine (ref_phases w').mono ?_
                  rintro e w5 ⟨b, cc, rfl, hbl, hst, hb5⟩
                  exact hK _ w5 (fun d hd => by cases hd; exact ⟨b, cc, rfl, hbl, hst⟩) (hI.trans (hb5.mono hI.size)) hb5
                · go_simp; exact hK _ _ (fun d hd => by cases hd; rfl) hI (Below.refl _ _)
                · obtain ⟨b, cc, h38, hbl, hst⟩ := (show rrV g c k p x2 38 _ _ from hds 38 (by simp))
                  have h38 := getD_form h38
                  have h39 := getD_form (show a'.tmps.getD 39 undef = .int .i64 k from hds 39 (by simp))
                  have HST := Lib.hid hst
                  clear hst
                  go_simp
                  exact hK _ _ (fun d hd => by cases hd; exact ⟨b, rfl, hbl, HST.out⟩) hI (Below.refl _ _)
                · obtain ⟨b, h40, hbl, hst⟩ := (show rrV g c k p x2 40 _ _ from hds 40 (by simp))
                  have h40 := getD_form h40
                  have hcl : w'.cell? ⟨b, k, none⟩ = some (.string ⟨p.toArray⟩) := by rw [HP.out, ← hph.out]; exact hst k (by show k < 3; exact hlt)
                  clear hst
                  go_simp
                  exact hK _ _ (fun d hd => by cases hd; rfl) hI (Below.refl _ _)
                · go_simp; exact hK _ _ (fun d hd => by cases hd; rfl) hI (Below.refl _ _)
                · have h42 := getD_form (show a'.tmps.getD 42 undef = .slice (some ⟨g, 0, none⟩) 3 c from hds 42 (by simp))
                  go_simp
                  exact hK _ _ (fun d hd => by cases hd; rfl) hI (Below.refl _ _)
                · have h43 := getD_form (show a'.tmps.getD 43 undef = .pointer (some ⟨g, 2, none⟩) from hds 43 (by simp))
                  have hcl : w'.cell? ⟨g, 2, none⟩ = some (.string ⟨x2.toArray⟩) := (hI.cell (p := ⟨g, 2, none⟩) (by show g < _; omega)).trans cr.out
                  go_simp
                  exact hK _ _ (fun d hd => by cases hd; rfl) hI (Below.refl _ _)
              · intro a' w' hI hsz2 hd hnw hds
                obtain ⟨tm, df⟩ := a'
                simp only at hsz2 hd
                subst hd
                have hsz3 : tm.size = 50 := hsz2
                have e : tm = #[.string ⟨line.toArray⟩, undef, .pointer (some ⟨w.heap.size, 0, none⟩), u3, .slice (some ⟨g, 0, none⟩) 3 c, .int .i64 m, .bool true, .int .i64 k, .string ⟨line.toArray⟩, .slice (some ⟨g, 0, none⟩) 3 c, .slice (some ⟨g, 0, none⟩) 3 c, .int .i64 3, .bool false, .bool false, .slice (some ⟨g, 0, none⟩) 3 c, .pointer (some ⟨g, 0, none⟩), .string ⟨#[114, 111, 119]⟩, .bool false, .bool false, undef, .tuple #[.int .i64 m, .bool true], .slice (some ⟨g, 0, none⟩) 3 c, .pointer (some ⟨g, 1, none⟩), .string ⟨x1.toArray⟩, .tuple #[.int .i64 m, .bool true], .int .i64 m, .bool true, .bool true, .bool false, .bool false, .int .i64 m, .bool false, .bool false, undef, .int .i64 k, .bool (decide ((k : Int) < 3)), u36, u37, tm.getD 38 undef, .int .i64 k, tm.getD 40 undef, .string ⟨p.toArray⟩, .slice (some ⟨g, 0, none⟩) 3 c, .pointer (some ⟨g, 2, none⟩), .string ⟨x2.toArray⟩, tm.getD 45 undef, u46, u47, u48, undef] := by
                  refine arr_of hsz2 (fun i hi => ?_)
                  match i, hi with
                  | 0, _ => exact hnw 0 (by simp)
                  | 1, _ => exact hnw 1 (by simp)
                  | 2, _ => exact hnw 2 (by simp)
                  | 3, _ => exact hnw 3 (by simp)
                  | 4, _ => exact hnw 4 (by simp)
                  | 5, _ => exact hnw 5 (by simp)
                  | 6, _ => exact hnw 6 (by simp)
                  | 7, _ => exact hnw 7 (by simp)
                  | 8, _ => exact hnw 8 (by simp)
                  | 9, _ => exact hnw 9 (by simp)
                  | 10, _ => exact hnw 10 (by simp)
                  | 11, _ => exact hnw 11 (by simp)
                  | 12, _ => exact hnw 12 (by simp)
                  | 13, _ => exact hnw 13 (by simp)
                  | 14, _ => exact hnw 14 (by simp)
                  | 15, _ => exact hnw 15 (by simp)
                  | 16, _ => exact hnw 16 (by simp)
                  | 17, _ => exact hnw 17 (by simp)
                  | 18, _ => exact hnw 18 (by simp)
                  | 19, _ => exact hnw 19 (by simp)
                  | 20, _ => exact hnw 20 (by simp)
                  | 21, _ => exact hnw 21 (by simp)
                  | 22, _ => exact hnw 22 (by simp)
                  | 23, _ => exact hnw 23 (by simp)
                  | 24, _ => exact hnw 24 (by simp)
                  | 25, _ => exact hnw 25 (by simp)
                  | 26, _ => exact hnw 26 (by simp)
                  | 27, _ => exact hnw 27 (by simp)
                  | 28, _ => exact hnw 28 (by simp)
                  | 29, _ => exact hnw 29 (by simp)
                  | 30, _ => exact hnw 30 (by simp)
                  | 31, _ => exact hnw 31 (by simp)
                  | 32, _ => exact hnw 32 (by simp)
                  | 33, _ => exact hnw 33 (by simp)
                  | 34, _ => exact hnw 34 (by simp)
                  | 35, _ => exact hnw 35 (by simp)
                  | 36, _ => exact hnw 36 (by simp)
                  | 37, _ => exact hnw 37 (by simp)
                  | 38, _ => exact rfl
                  | 39, _ => exact hds 39 (by simp)
                  | 40, _ => exact rfl
                  | 41, _ => exact hds 41 (by simp)
                  | 42, _ => exact hds 42 (by simp)
                  | 43, _ => exact hds 43 (by simp)
                  | 44, _ => exact hds 44 (by simp)
                  | 45, _ => exact rfl
                  | 46, _ => exact hnw 46 (by simp)
                  | 47, _ => exact hnw 47 (by simp)
                  | 48, _ => exact hnw 48 (by simp)
                  | 49, _ => exact hnw 49 (by simp)
                  | i + 50, hi => exact absurd hi (by simp)
                clear hds hnw hsz2 hsz3
                generalize tm.getD 38 undef = v38 at e
                generalize tm.getD 40 undef = v40 at e
                generalize tm.getD 45 undef = v45 at e
                subst e
                have hs5 := hI.size
                have B5 : Hid (Below w.heap.size w w') := BR.out.trans (hI.mono (by omega))
                have K5 : Hid (Blk w' w.heap.size #[.int .i64 0, .int .i64 0] 24) := KR.out.below (by omega) hI
                have hbw : Hid (Below w3.heap.size w3 w') := hbel.trans (hI.mono hsr)
                clear hI hbel
                by_cases hpx : p = x2
                · subst hpx
                  have hix : Pl.indexOf p Pl.phases3 = k := Pl.indexOf_hit hlt HN.out HP.out
                  have HRN5 := Lib.hid (show Pl.refRow line = some (m, (k : Int)) by rw [HRN4.out, hix, if_pos (by omega)])
                  clear hix
                  have q0 : w'.cell? ⟨w.heap.size, 0, none⟩ = some (.int .i64 0) := K5.out.cell 0
                  have q1 : w'.cell? ⟨w.heap.size, 1, none⟩ = some (.int .i64 0) := K5.out.cell 1
                  have z0 : w'.frozen? ⟨w.heap.size, 0, none⟩ = false := K5.out.frozen 0
                  have z1 : w'.frozen? ⟨w.heap.size, 1, none⟩ = false := K5.out.frozen 1
                  have KN : Hid (Blk ((w'.setCell ⟨w.heap.size, 0, none⟩ (.int .i64 m)).setCell ⟨w.heap.size, 1, none⟩ (.int .i64 k)) w.heap.size #[.int .i64 m, .int .i64 k] 24) := (K5.out.set 0 (.int .i64 m)).set 1 (.int .i64 k)
                  have BN : Hid (Below w.heap.size w ((w'.setCell ⟨w.heap.size, 0, none⟩ (.int .i64 m)).setCell ⟨w.heap.size, 1, none⟩ (.int .i64 k))) := (B5.out.setCell (p := ⟨w.heap.size, 0, none⟩) (Nat.le_refl _) _).setCell (p := ⟨w.heap.size, 1, none⟩) (Nat.le_refl _) _
                  go_simp
                  go_wp2_with fail
                  exact bodyPost_ret (v := .tuple #[.agg #[.int .i64 m, .int .i64 k], .int .i64 0]) (results_row rfl _ _ w.heap.size #[.int .i64 m, .int .i64 k] (.int .i64 0) rfl rfl KN.out rfl) rfl (HYES.out _ HRN5.out BN.out)
                · have hpq : (p == x2) = false := by simpa using hpx
                  have HPX := Lib.hid hpx
                  clear hpx
                  go_simp
                  go_wp2_with fail
                  go_roundw
                  case rel => exact ⟨k + 1, by omega, by go_num, hbw.out, fun j hj => by
                    rcases Nat.lt_or_ge j k with h1 | h1
                    · exact HN.out j h1
                    · obtain rfl : j = k := by omega
                      rw [← HP.out]; exact fun e => HPX.out e.symm⟩
                  case measure => simp [intOf]; omega
            · obtain rfl : k = 3 := by omega
              have hix : Pl.indexOf x2 Pl.phases3 = -1 := Pl.indexOf_miss HN.out
              have HRN3 := Lib.hid (show Pl.refRow line = none by rw [HRN4.out, hix, if_neg (by omega)])
              clear hix HN
              have q0 : wr.cell? ⟨w.heap.size, 0, none⟩ = some (.int .i64 0) := KR.out.cell 0
              have q1 : wr.cell? ⟨w.heap.size, 1, none⟩ = some (.int .i64 0) := KR.out.cell 1
              have z0 : wr.frozen? ⟨w.heap.size, 0, none⟩ = false := KR.out.frozen 0
              have z1 : wr.frozen? ⟨w.heap.size, 1, none⟩ = false := KR.out.frozen 1
              have KN : Hid (Blk ((wr.setCell ⟨w.heap.size, 0, none⟩ (.int .i64 0)).setCell ⟨w.heap.size, 1, none⟩ (.int .i64 0)) w.heap.size #[.int .i64 0, .int .i64 0] 24) := (KR.out.set 0 (.int .i64 0)).set 1 (.int .i64 0)
              have BN : Hid (Below w.heap.size w ((wr.setCell ⟨w.heap.size, 0, none⟩ (.int .i64 0)).setCell ⟨w.heap.size, 1, none⟩ (.int .i64 0))) := (BR.out.setCell (p := ⟨w.heap.size, 0, none⟩) (Nat.le_refl _) _).setCell (p := ⟨w.heap.size, 1, none⟩) (Nat.le_refl _) _
              go_wp2_with fail
              exact bodyPost_ret (v := .tuple #[.agg #[.int .i64 0, .int .i64 0], .int .i64 4]) (results_row rfl _ _ w.heap.size #[.int .i64 0, .int .i64 0] (.int .i64 4) rfl rfl KN.out rfl) rfl (HNO.out _ HRN3.out BN.out)
        · cases hnn
    · have HRN2 := Lib.hid (show Pl.refRow line = none by rw [HRN.out, if_neg (fun h => h0 h.2)])
      have hne : (ws.getD 0 [] == [114, 111, 119]) = false := by simpa [Pl.rowWord] using h0
      generalize ws.getD 0 [] = x0 at *
      go_wp2_with fail
      exact bodyPost_ret (v := .tuple #[.agg #[.int .i64 0, .int .i64 0], .int .i64 4]) (results_row rfl _ _ w.heap.size #[.int .i64 0, .int .i64 0] (.int .i64 4) rfl rfl hbk0.out rfl) rfl (HNO.out _ HRN2.out hbl0.out)
  · have HRN2 := Lib.hid (show Pl.refRow line = none by rw [HRN.out, if_neg (fun h => hwl h.1)])
    have hq : ((ws.length : Int) == 3) = false := by rw [beq_eq_false_iff_ne]; omega
    rcases hown1.2 with ⟨rfl, h0⟩ | ⟨g, c, cur, rfl, _⟩
    · go_wp2_with fail
      all_goals exact bodyPost_ret (v := .tuple #[.agg #[.int .i64 0, .int .i64 0], .int .i64 4]) (results_row rfl _ _ w.heap.size #[.int .i64 0, .int .i64 0] (.int .i64 4) rfl rfl hbk0.out rfl) rfl (HNO.out _ HRN2.out hbl0.out)
    · go_wp2_with fail
      all_goals exact bodyPost_ret (v := .tuple #[.agg #[.int .i64 0, .int .i64 0], .int .i64 4]) (results_row rfl _ _ w.heap.size #[.int .i64 0, .int .i64 0] (.int .i64 4) rfl rfl hbk0.out rfl) rfl (HNO.out _ HRN2.out hbl0.out)

end Go.Proofs.YtbcepdacfmbekaaDoor
