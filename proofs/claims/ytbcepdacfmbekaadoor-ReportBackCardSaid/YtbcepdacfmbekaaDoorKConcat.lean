/-
  The walks of slices.Grow and slices.Concat at the fields of package sheet.
-/
import Derived.Test.YtbcepdacfmbekaaDoorKLongs
import Derived.Lib.AppendZerosOnto
import Derived.Lib.SliceRun
namespace Go.Proofs.YtbcepdacfmbekaaDoor
open Go.RowKit

theorem numberInfo' : ∃ inf, Tryd.prog.info? 115 = some inf ∧ inf.zero = some (.agg #[.pointer none, .pointer none]) ∧ inf.size = 2 ∧ inf.bytes = 16 := by
  obtain ⟨inf, hinf, hinf2⟩ := Option.map_eq_some_iff.1 numberInfo
  simp only [Prod.mk.injEq] at hinf2
  exact ⟨inf, hinf, hinf2⟩

set_option maxRecDepth 100000 in
theorem slices_Grow_nil (n : Nat) (h0 : 0 < n) (h1 : n ≤ 1000) (w : World) :
    Calls Tryd.prog 182 #[.slice none 0 0, .int .i64 n] w (RowPost 115 2 0 [] w) := by
  obtain ⟨inf, hi, hz, hs, hb⟩ := numberInfo'
  have hold : (Builtin.firstCells inf.size 0 (.slice none 0 0)).run Tryd.prog w.drew = .ok ([] : List Value).toArray w.drew := run_firstCells_none w.drew inf.size 0 0 0
  have hb2 : n * inf.bytes ≤ 281474976710656 := by rw [hb]; omega
  have hrz := fun ty => Lib.run_append_grow_zeros w 97 3 ty 115 inf (.agg #[.pointer none, .pointer none]) .i64 .i64 Tryd.underlying97 Tryd.underlying3 hi hz none 0 0 [] hold n (by omega) (by omega) (by omega) (by omega) hb2 (growslice_fits (by omega) (by rw [hb]; omega))
  have hGn : n ≤ grownCap w (0 + n) 0 115 := by have := grownCap_ge w (0 + n) 0 115; omega
  have hG63 : grownCap w (0 + n) 0 115 ≤ maxLen := grownCap_le_maxLen w (0 + n) 0 _ (by unfold maxLen; omega)
  have hown : (w.drew.alloc (.cells (([] : List Value).toArray ++ Builtin.zeroCells (Value.agg #[.pointer none, .pointer none]).cells n ++ Builtin.zeroCells (Value.agg #[.pointer none, .pointer none]).cells (grownCap w (0 + n) 0 115 - (0 + n))) 115)).ownsRow w.heap.size 115 2 (.slice (some ⟨w.heap.size, 0, none⟩) 0 (grownCap w (0 + n) 0 115)) 0 [] := by
    refine World.ownsRow_made w.drew _ _ (Nat.le_refl _) hG63 ?_
    simp only [Array.size_append, size_zeroCells, List.size_toArray, List.length_nil, Value.cells]
    simp only [List.length_cons, List.length_nil]
    omega
  have hbel := ((Below.refl w.heap.size w).drew).alloc (w := w.drew) (Nat.le_refl _) (.cells (([] : List Value).toArray ++ Builtin.zeroCells (Value.agg #[.pointer none, .pointer none]).cells n ++ Builtin.zeroCells (Value.agg #[.pointer none, .pointer none]).cells (grownCap w (0 + n) 0 115 - (0 + n))) 115)
  have HP := Lib.hid (show RowPost 115 2 0 [] w _ _ from ⟨_, rfl, hown, hbel⟩)
  have hG1 : grownCap w (0 + n) 0 115 ≤ 9223372036854775807 := by unfold maxLen at hG63; omega
  clear hold hown hbel hG63
  generalize grownCap w (0 + n) 0 115 = G at *
  go_enter Tryd.func182, Tryd.ntmps182
  go_wp2_with (at_builtin; refine Lib.wpList_append_run _ rfl _ _ _ _ rfl _ _ rfl rfl _ _ (hrz _) ?_)
  all_goals (go_ret; have hp := HP.out; simp only [Nat.zero_add, Value.cells, Array.empty_append] at hp; exact hp)

/-- One of the lists that are joined: a row of n fields at the head of block b. -/
structure Piece where
  b : Nat
  n : Nat
  c : Nat
  xs : List Value

def Piece.val (p : Piece) : Value := .slice (some ⟨p.b, 0, none⟩) p.n p.c
structure Piece.ok (w : World) (p : Piece) : Prop where
  len : p.xs.length = p.n * 2
  lt : p.b < w.heap.size
  cell : ∀ j u, p.xs[j]? = some u → w.cell? ⟨p.b, j, none⟩ = some u
  one : ∀ u ∈ p.xs, u.oneCell' = true
def total (ps : List Piece) : Nat := (ps.map Piece.n).sum
def flat (ps : List Piece) : List Value := ps.flatMap Piece.xs
theorem total_snoc (ps : List Piece) (p : Piece) : total (ps ++ [p]) = total ps + p.n := by simp [total]
theorem flat_snoc (ps : List Piece) (p : Piece) : flat (ps ++ [p]) = flat ps ++ p.xs := by simp [flat]
theorem total_take (ps : List Piece) (k : Nat) : total (ps.take k) ≤ total ps := by
  have h : total ps = total (ps.take k) + total (ps.drop k) := by
    conv => lhs; rw [← List.take_append_drop k ps]
    unfold total
    rw [List.map_append, List.sum_append]
  omega

set_option maxHeartbeats 1000000 in
set_option maxRecDepth 100000 in
theorem slices_Concat (g c : Nat) (ps : List Piece) (d : Piece) (w : World) (hg : g < w.heap.size) (hl : ps.length ≤ 1000) (ht : total ps ≤ 1000) (ht0 : 0 < total ps)
    (hok : ∀ j, j < ps.length → (ps.getD j d).ok w) (h : ∀ j, j < ps.length → w.cell? ⟨g, j, none⟩ = some (ps.getD j d).val) :
    Calls Tryd.prog 128 #[.slice (some ⟨g, 0, none⟩) ps.length c] w (RowPost 115 2 (total ps) (flat ps) w) := by
  have HH := Lib.hid h
  have HO := Lib.hid hok
  clear h hok
  obtain ⟨inf, hi, hz, hs, hby⟩ := numberInfo'
  have HI := Lib.hid hi
  have HZ := Lib.hid hz
  have HS := Lib.hid hs
  have HB := Lib.hid hby
  clear hi hz hs hby
  go_enter Tryd.func128, Tryd.ntmps128
  go_wp2
  go_loop [3, 11] (fun s i => ∃ k : Nat, k ≤ ps.length ∧ i = .int .i64 k ∧ s = .int .i64 (total (ps.take k) : Nat)) (fun _ i => ps.length - (intOf i).toNat)
  case atStart => exact ⟨0, Nat.zero_le _, rfl, rfl⟩
  case round =>
    obtain ⟨k, hk, rfl, rfl⟩ := hrel
    by_cases hlt : k < ps.length
    · have hc := HH.out k hlt
      have hts := Lib.hid (take_snoc ps k d hlt)
      have hto := total_take ps (k + 1)
      rw [hts.out, total_snoc] at hto
      generalize ps.getD k d = p at *
      unfold Piece.val at hc
      go_wp2
      go_round
      case rel => exact ⟨k + 1, by omega, by go_num, by rw [hts.out, total_snoc]; go_num⟩
      case measure => simp [intOf]; omega
    · obtain rfl : k = ps.length := by omega
      rw [List.take_length]
      go_wp2_with fail
      refine (slices_Grow_nil _ ht0 ht w).mono ?_
      rintro e w1 ⟨v1, rfl, hown1, hbel1⟩
      go_wp2_with fail
      go_loopw [6, 27] (fun v i wr => ∃ k : Nat, k ≤ ps.length ∧ i = .int .i64 k ∧ wr.ownsRow w.heap.size 115 2 v (total (ps.take k)) (flat (ps.take k)) ∧ Below w.heap.size w wr) (fun _ i _ => ps.length - (intOf i).toNat)
      case atStart => exact ⟨0, Nat.zero_le _, rfl, hown1, hbel1⟩
      case round =>
        obtain ⟨k, hk, rfl, hown, hbel⟩ := hrel
        by_cases hlt : k < ps.length
        · have hc : wr.cell? ⟨g, k, none⟩ = some (ps.getD k d).val := (hbel.cell (p := ⟨g, k, none⟩) hg).trans (HH.out k hlt)
          have hpo := Lib.hid (HO.out k hlt)
          have hts := Lib.hid (take_snoc ps k d hlt)
          have hto := total_take ps (k + 1)
          rw [hts.out, total_snoc] at hto
          have hsz := hbel.size
          generalize ps.getD k d = p at *
          unfold Piece.val at hc
          have hcell : Hid (∀ j u, p.xs[j]? = some u → wr.cell? ((⟨p.b, 0, none⟩ : Addr).add j) = some u) := fun j u hu => by
            rw [show (⟨p.b, 0, none⟩ : Addr).add j = ⟨p.b, j, none⟩ by unfold Addr.add; split <;> simp_all]
            exact (hbel.cell (p := ⟨p.b, j, none⟩) hpo.out.lt).trans (hpo.out.cell j u hu)
          go_wp2_with (at_builtin; go_must (refine wpList_append_own _ rfl (.tmp 31) (.tmp 32) 97 rfl w.heap.size 115 inf (.agg #[.pointer none, .pointer none]) 2 16 Tryd.underlying97 HI.out HZ.out HS.out HB.out rfl (by decide) _ (total (ps.take k)) _ rfl hown ⟨p.b, 0, none⟩ p.n p.c p.xs rfl hpo.out.len hcell.out hpo.out.one (by unfold maxLen; omega) (by omega) hsz ?_); intro v' w' hown' hgrow' hnn)
          go_roundw
          case rel => exact ⟨k + 1, by omega, by go_num, by rw [hts.out, total_snoc, flat_snoc]; exact hown', hbel.grown hgrow' hsz (fun k hk => (hown.lt k hk).1)⟩
          case measure => simp [intOf]; omega
        · obtain rfl : k = ps.length := by omega
          rw [List.take_length] at hown
          go_wp2
          go_ret
          exact ⟨_, rfl, hown, hbel⟩

end Go.Proofs.YtbcepdacfmbekaaDoor
