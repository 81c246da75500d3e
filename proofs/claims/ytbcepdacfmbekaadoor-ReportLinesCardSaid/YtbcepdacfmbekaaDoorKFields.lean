/-
  The walk of sheet.fields: pointers to the sixteen fields of a symbol, in their order. The region draws its order: KReg's rule.
-/
import Derived.Test.YtbcepdacfmbekaaDoorKConcat
import Derived.Test.YtbcepdacfmbekaaDoorKReg
namespace Go.Proofs.YtbcepdacfmbekaaDoor
open Go.RowKit

def PtrRow (ps : List (Nat × Nat)) (v : Value) (w : World) : Prop := ∃ g, v = .slice (some ⟨g, 0, none⟩) ps.length ps.length ∧ g < w.heap.size ∧ ∀ j, j < ps.length → w.cell? ⟨g, j, none⟩ = some (ptr (ps.getD j (0, 0)))
def NumRow (n : Nat) (xs : List Value) (v : Value) (w : World) : Prop := ∃ p : Piece, v = p.val ∧ p.n = n ∧ p.xs = xs ∧ p.ok w
def PieceRow (m n : Nat) (xs : List Value) (v : Value) (w : World) : Prop := ∃ (g : Nat) (ps : List Piece), v = .slice (some ⟨g, 0, none⟩) m m ∧ ps.length = m ∧ g < w.heap.size ∧ total ps = n ∧ flat ps = xs ∧ (∀ j, j < ps.length → w.cell? ⟨g, j, none⟩ = some (ps.getD j ⟨0, 0, 0, []⟩).val) ∧ ∀ j, j < ps.length → (ps.getD j ⟨0, 0, 0, []⟩).ok w
def OwnRow (B n : Nat) (xs : List Value) (v : Value) (w : World) : Prop := w.ownsRow B 115 2 v n xs

theorem Piece.ok.below {p : Piece} {w w' : World} (h : p.ok w) (hb : Below w.heap.size w w') : p.ok w' :=
  ⟨h.len, Nat.lt_of_lt_of_le h.lt hb.size, fun j u hu => (hb.cell (p := ⟨p.b, j, none⟩) h.lt).trans (h.cell j u hu), h.one⟩
theorem PtrRow.below {ps : List (Nat × Nat)} {v : Value} {w w' : World} (hb : Below w.heap.size w w') (h : PtrRow ps v w) : PtrRow ps v w' := by
  obtain ⟨g, hv, hg, hc⟩ := h
  exact ⟨g, hv, Nat.lt_of_lt_of_le hg hb.size, fun j hj => (hb.cell (p := ⟨g, j, none⟩) hg).trans (hc j hj)⟩
theorem NumRow.below {n : Nat} {xs : List Value} {v : Value} {w w' : World} (hb : Below w.heap.size w w') (h : NumRow n xs v w) : NumRow n xs v w' := by
  obtain ⟨p, hv, hn, hx, hp⟩ := h
  exact ⟨p, hv, hn, hx, hp.below hb⟩
theorem PieceRow.below {m n : Nat} {xs : List Value} {v : Value} {w w' : World} (hb : Below w.heap.size w w') (h : PieceRow m n xs v w) : PieceRow m n xs v w' := by
  obtain ⟨g, ps, hv, hl, hg, hn, hx, hc, hp⟩ := h
  exact ⟨g, ps, hv, hl, Nat.lt_of_lt_of_le hg hb.size, hn, hx, fun j hj => (hb.cell (p := ⟨g, j, none⟩) hg).trans (hc j hj), fun j hj => (hp j hj).below hb⟩
theorem grownBy_of_below {w w1 : World} (h : Below w.heap.size w w1) (row : Option Nat) : w.grownBy w1 row := ⟨h.os, h.tape, h.output, h.size, fun i hi _ => h.block i hi⟩
theorem ownsRow_below {w w1 : World} {base : Nat} {e : TypeId} {size n : Nat} {v : Value} {xs : List Value} (h : w.ownsRow base e size v n xs) (hb : Below w.heap.size w w1) : w1.ownsRow base e size v n xs :=
  h.kept (grownBy_of_below hb none) (by cases v.ownBlock <;> simp)
theorem OwnRow.below {B n : Nat} {xs : List Value} {v : Value} {w w' : World} (hb : Below w.heap.size w w') (h : OwnRow B n xs v w) : OwnRow B n xs v w' := ownsRow_below h hb

def fieldCells (b : Nat) : List Value := longCells [(b, 0), (b, 1)] ++ (shortCells [(b, 2), (b, 3)] ++ (longCells [(b, 4)] ++ (shortCells [(b, 5)] ++ (longCells [(b, 6), (b, 7), (b, 8)] ++ shortCells [(b, 9), (b, 10), (b, 11), (b, 12), (b, 13), (b, 14), (b, 15)]))))

/-- What each slot of the statement holds. -/
def fieldsV (B b : Nat) (d : Nat) : Value → World → Prop :=
  match d with
  | 5 => fun v _ => v = ptr (b, 0) | 8 => fun v _ => v = ptr (b, 1) | 13 => fun v _ => v = ptr (b, 2) | 16 => fun v _ => v = ptr (b, 3)
  | 21 => fun v _ => v = ptr (b, 4) | 26 => fun v _ => v = ptr (b, 5) | 31 => fun v _ => v = ptr (b, 6) | 34 => fun v _ => v = ptr (b, 7)
  | 37 => fun v _ => v = ptr (b, 8) | 42 => fun v _ => v = ptr (b, 9) | 45 => fun v _ => v = ptr (b, 10) | 48 => fun v _ => v = ptr (b, 11)
  | 51 => fun v _ => v = ptr (b, 12) | 54 => fun v _ => v = ptr (b, 13) | 57 => fun v _ => v = ptr (b, 14) | 60 => fun v _ => v = ptr (b, 15)
  | 9 => PtrRow [(b, 0), (b, 1)] | 17 => PtrRow [(b, 2), (b, 3)] | 22 => PtrRow [(b, 4)] | 27 => PtrRow [(b, 5)] | 38 => PtrRow [(b, 6), (b, 7), (b, 8)]
  | 61 => PtrRow [(b, 9), (b, 10), (b, 11), (b, 12), (b, 13), (b, 14), (b, 15)]
  | 10 => NumRow 2 (longCells [(b, 0), (b, 1)]) | 18 => NumRow 2 (shortCells [(b, 2), (b, 3)]) | 23 => NumRow 1 (longCells [(b, 4)]) | 28 => NumRow 1 (shortCells [(b, 5)])
  | 39 => NumRow 3 (longCells [(b, 6), (b, 7), (b, 8)]) | 62 => NumRow 7 (shortCells [(b, 9), (b, 10), (b, 11), (b, 12), (b, 13), (b, 14), (b, 15)])
  | 63 => PieceRow 6 16 (fieldCells b) | 64 => OwnRow B 16 (fieldCells b) | 2 => OwnRow B 16 (fieldCells b)
  | _ => fun v _ => v = ptr (b, 0)

theorem fieldsV_mono (B b d : Nat) (v : Value) (w w' : World) (hb : Below w.heap.size w w') (h : fieldsV B b d v w) : fieldsV B b d v w' := by
  unfold fieldsV at h ⊢
  split at h <;> first | exact h | exact PtrRow.below hb h | exact NumRow.below hb h | exact PieceRow.below hb h | exact OwnRow.below hb h

theorem getD_form {a : Array Value} {i : Nat} {v : Value} (h : a.getD i undef = v) : a[i]?.getD undef = v := by rw [← Array.getD_eq_getD_getElem?]; exact h

theorem bThen {w w1 w2 : World} (h : Below w.heap.size w w1) (k : Below w1.heap.size w1 w2) : Below w.heap.size w w2 := h.trans (k.mono h.size)

theorem ptrRow_new (w : World) (ps : List (Nat × Nat)) (cs : Array Value) (T : TypeId) (h : cs.toList = ps.map ptr) : PtrRow ps (.slice (some ⟨w.heap.size, 0, none⟩) ps.length ps.length) (w.alloc (.cells cs T)) := by
  refine ⟨w.heap.size, rfl, by simp, fun j hj => ?_⟩
  rw [World.cell?_alloc_new, ← Array.getElem?_toList, h]
  simp [List.getD, hj]

theorem ownsRow_base {w : World} {b b' : Nat} {e : TypeId} {size n : Nat} {v : Value} {xs : List Value} (hb : b' ≤ b) (h : w.ownsRow b e size v n xs) : w.ownsRow b' e size v n xs := by
  obtain ⟨h1, h2⟩ := h
  refine ⟨h1, ?_⟩
  rcases h2 with h2 | ⟨g, cap, cur, hv, hg, r⟩
  · exact .inl h2
  · exact .inr ⟨g, cap, cur, hv, by omega, r⟩

theorem numRow_of {w : World} {B n : Nat} {v : Value} {xs : List Value} (h : w.ownsRow B 115 2 v n xs) (h0 : 0 < n) (h1 : ∀ u ∈ xs, u.oneCell' = true) : NumRow n xs v w := by
  have hl := h.lt
  have hlen := h.1
  have hcells := fun (g : Nat) (hg : v.ownBlock = some g) => h.cells (g := g) hg
  rcases h.2 with ⟨_, hn⟩ | ⟨g, cap, cur, rfl, _⟩
  · omega
  · refine ⟨⟨g, n, cap, xs⟩, rfl, rfl, rfl, ⟨hlen, (hl g rfl).2, fun j u hu => ?_, h1⟩⟩
    have := hcells g rfl j u hu
    rw [show (⟨g, 0, none⟩ : Addr).add j = ⟨g, j, none⟩ by unfold Addr.add; split <;> simp_all] at this
    exact this

theorem pieceRow_new (w : World) {p0 p1 p2 p3 p4 p5 : Piece} {c0 c1 c2 c3 c4 c5 : List Value} {T : TypeId} {m0 m1 m2 m3 m4 m5 : Nat} (n0 : p0.n = m0) (n1 : p1.n = m1) (n2 : p2.n = m2) (n3 : p3.n = m3) (n4 : p4.n = m4) (n5 : p5.n = m5)
    (x0 : p0.xs = c0) (x1 : p1.xs = c1) (x2 : p2.xs = c2) (x3 : p3.xs = c3) (x4 : p4.xs = c4) (x5 : p5.xs = c5) (o0 : p0.ok w) (o1 : p1.ok w) (o2 : p2.ok w) (o3 : p3.ok w) (o4 : p4.ok w) (o5 : p5.ok w) :
    PieceRow 6 (m0 + (m1 + (m2 + (m3 + (m4 + m5))))) (c0 ++ (c1 ++ (c2 ++ (c3 ++ (c4 ++ c5))))) (.slice (some ⟨w.heap.size, 0, none⟩) 6 6) (w.alloc (.cells #[.slice (some ⟨p0.b, 0, none⟩) p0.n p0.c, .slice (some ⟨p1.b, 0, none⟩) p1.n p1.c, .slice (some ⟨p2.b, 0, none⟩) p2.n p2.c, .slice (some ⟨p3.b, 0, none⟩) p3.n p3.c, .slice (some ⟨p4.b, 0, none⟩) p4.n p4.c, .slice (some ⟨p5.b, 0, none⟩) p5.n p5.c] T)) := by
  subst n0 n1 n2 n3 n4 n5 x0 x1 x2 x3 x4 x5
  have hb := (Below.refl w.heap.size w).alloc (Nat.le_refl _) (.cells #[.slice (some ⟨p0.b, 0, none⟩) p0.n p0.c, .slice (some ⟨p1.b, 0, none⟩) p1.n p1.c, .slice (some ⟨p2.b, 0, none⟩) p2.n p2.c, .slice (some ⟨p3.b, 0, none⟩) p3.n p3.c, .slice (some ⟨p4.b, 0, none⟩) p4.n p4.c, .slice (some ⟨p5.b, 0, none⟩) p5.n p5.c] T)
  refine ⟨w.heap.size, [p0, p1, p2, p3, p4, p5], rfl, rfl, by simp, by simp [total], by simp [flat], fun j hj => ?_, fun j hj => ?_⟩
  · rw [World.cell?_alloc_new]
    match j, hj with
    | 0, _ => rfl
    | 1, _ => rfl
    | 2, _ => rfl
    | 3, _ => rfl
    | 4, _ => rfl
    | 5, _ => rfl
    | j + 6, h => simp at h; omega
  · match j, hj with
    | 0, _ => exact o0.below hb
    | 1, _ => exact o1.below hb
    | 2, _ => exact o2.below hb
    | 3, _ => exact o3.below hb
    | 4, _ => exact o4.below hb
    | 5, _ => exact o5.below hb
    | j + 6, h => simp at h; omega

set_option maxHeartbeats 8000000 in
set_option maxRecDepth 100000 in
theorem sheet_fields (b : Nat) (w : World) :
    Calls Tryd.prog 74 #[ptr (b, 0)] w (RowPost 115 2 16 (fieldCells b) w) := by
  unfold ptr
  go_enter Tryd.func74, Tryd.ntmps74
  go_wp2
  rename_i K1 hK1
  refine wp_region_list (by kernel_rfl) (n := 65) rfl (by kernel_rfl) (by kernel_rfl) [[], [3], [4], [], [6], [7], [5, 8], [9], [], [11], [12], [], [14], [15], [13, 16], [17, 10], [], [19], [20], [21], [22, 18], [], [24], [25], [26], [27, 23], [], [29], [30], [], [32], [33], [], [35], [36], [31, 34, 37], [38, 28], [], [40], [41], [], [43], [44], [], [46], [47], [], [49], [50], [], [52], [53], [], [55], [56], [], [58], [59], [42, 45, 48, 51, 54, 57, 60], [61, 39], [10, 18, 23, 28, 39, 62], [63, 62], [64, 64, 3, 4, 5, 6, 7, 8, 9, 10, 11, 12, 13, 14, 15, 16, 17, 18, 19, 20, 21, 22, 23, 24, 25, 26, 27, 28, 29, 30, 31, 32, 33, 34, 35, 36, 37, 38, 39, 40, 41, 42, 43, 44, 45, 46, 47, 48, 49, 50, 51, 52, 53, 54, 55, 56, 57, 58, 59, 60, 61, 62, 63, 64]] (by kernel_rfl) [0] (by kernel_rfl) (fieldsV w.heap.size b) (fun w' => Below w.heap.size w w') (fun w w' => Below w.heap.size w w') (fieldsV_mono w.heap.size b) (Below.refl _ _).drew ?_ ?_
  · simp only [AllSteps]
    refine ⟨?_, ?_, ?_, ?_, ?_, ?_, ?_, ?_, ?_, ?_, ?_, ?_, ?_, ?_, ?_, ?_, ?_, ?_, ?_, ?_, ?_, ?_, ?_, ?_, ?_, ?_, ?_, ?_, ?_, ?_, ?_, ?_, ?_, ?_, ?_, ?_, ?_, ?_, ?_, ?_, ?_, ?_, ?_, ?_, ?_, ?_, ?_, ?_, ?_, ?_, ?_, ?_, ?_, ?_, ?_, ?_, ?_, ?_, ?_, ?_, ?_, ?_, ?_, trivial⟩
    all_goals (intro a' w' hI hd0 hnw hds K hK; clear hd0)
    all_goals (have h0 : a'.tmps.getD 0 undef = .pointer (some ⟨b, 0, none⟩) := hnw 0 (by simp))
    all_goals clear hnw
    · go_simp; exact hK _ _ (fun d hd => by cases hd; exact rfl) hI (Below.refl _ _)
    · have h1 : a'.tmps.getD 3 undef = ptr (b, 0) := hds 3 (by simp)
      unfold ptr at h1; go_simp; exact hK _ _ (fun d hd => by cases hd; exact rfl) hI (Below.refl _ _)
    · have h1 : a'.tmps.getD 4 undef = ptr (b, 0) := hds 4 (by simp)
      unfold ptr at h1; go_simp; exact hK _ _ (fun d hd => by cases hd; exact rfl) hI (Below.refl _ _)
    · go_simp; exact hK _ _ (fun d hd => by cases hd; exact rfl) hI (Below.refl _ _)
    · have h1 : a'.tmps.getD 6 undef = ptr (b, 0) := hds 6 (by simp)
      unfold ptr at h1; go_simp; exact hK _ _ (fun d hd => by cases hd; exact rfl) hI (Below.refl _ _)
    · have h1 : a'.tmps.getD 7 undef = ptr (b, 0) := hds 7 (by simp)
      unfold ptr at h1; go_simp; exact hK _ _ (fun d hd => by cases hd; exact rfl) hI (Below.refl _ _)
    · have h5 := getD_form (show a'.tmps.getD 5 undef = _ from hds 5 (by simp))
      have h8 := getD_form (show a'.tmps.getD 8 undef = _ from hds 8 (by simp))
      unfold ptr at h5 h8
      go_simp
      refine hK _ _ ?_ ?_ ?_
      · intro d hd; cases hd; exact ptrRow_new w' [(b, 0), (b, 1)] _ _ rfl
      · exact hI.alloc hI.size _
      · exact (Below.refl _ _).alloc (Nat.le_refl _) _
    · obtain ⟨g, hv, hg, hc⟩ := (show PtrRow _ _ _ from hds 9 (by simp))
      go_simp
      refine (sheet_longs g _ _ w' hg (by simp) hc).mono ?_
      rintro e w1 ⟨v, rfl, hown, hbel⟩
      exact hK v w1 (fun d hd => by cases hd; exact numRow_of hown (by simp) (by simp [longCells, ptr, Value.oneCell'])) (bThen hI hbel) hbel
    · go_simp; exact hK _ _ (fun d hd => by cases hd; exact rfl) hI (Below.refl _ _)
    · have h1 : a'.tmps.getD 11 undef = ptr (b, 0) := hds 11 (by simp)
      unfold ptr at h1; go_simp; exact hK _ _ (fun d hd => by cases hd; exact rfl) hI (Below.refl _ _)
    · have h1 : a'.tmps.getD 12 undef = ptr (b, 0) := hds 12 (by simp)
      unfold ptr at h1; go_simp; exact hK _ _ (fun d hd => by cases hd; exact rfl) hI (Below.refl _ _)
    · go_simp; exact hK _ _ (fun d hd => by cases hd; exact rfl) hI (Below.refl _ _)
    · have h1 : a'.tmps.getD 14 undef = ptr (b, 0) := hds 14 (by simp)
      unfold ptr at h1; go_simp; exact hK _ _ (fun d hd => by cases hd; exact rfl) hI (Below.refl _ _)
    · have h1 : a'.tmps.getD 15 undef = ptr (b, 0) := hds 15 (by simp)
      unfold ptr at h1; go_simp; exact hK _ _ (fun d hd => by cases hd; exact rfl) hI (Below.refl _ _)
    · have h13 := getD_form (show a'.tmps.getD 13 undef = _ from hds 13 (by simp))
      have h16 := getD_form (show a'.tmps.getD 16 undef = _ from hds 16 (by simp))
      unfold ptr at h13 h16
      go_simp
      refine hK _ _ ?_ ?_ ?_
      · intro d hd; cases hd; exact ptrRow_new w' [(b, 2), (b, 3)] _ _ rfl
      · exact hI.alloc hI.size _
      · exact (Below.refl _ _).alloc (Nat.le_refl _) _
    · obtain ⟨g, hv, hg, hc⟩ := (show PtrRow _ _ _ from hds 17 (by simp))
      go_simp
      refine (sheet_shorts g _ _ w' hg (by simp) hc).mono ?_
      rintro e w1 ⟨v, rfl, hown, hbel⟩
      exact hK v w1 (fun d hd => by cases hd; exact numRow_of hown (by simp) (by simp [shortCells, ptr, Value.oneCell'])) (bThen hI hbel) hbel
    · go_simp; exact hK _ _ (fun d hd => by cases hd; exact rfl) hI (Below.refl _ _)
    · have h1 : a'.tmps.getD 19 undef = ptr (b, 0) := hds 19 (by simp)
      unfold ptr at h1; go_simp; exact hK _ _ (fun d hd => by cases hd; exact rfl) hI (Below.refl _ _)
    · have h1 : a'.tmps.getD 20 undef = ptr (b, 0) := hds 20 (by simp)
      unfold ptr at h1; go_simp; exact hK _ _ (fun d hd => by cases hd; exact rfl) hI (Below.refl _ _)
    · have h21 := getD_form (show a'.tmps.getD 21 undef = _ from hds 21 (by simp))
      unfold ptr at h21
      go_simp
      refine hK _ _ ?_ ?_ ?_
      · intro d hd; cases hd; exact ptrRow_new w' [(b, 4)] _ _ rfl
      · exact hI.alloc hI.size _
      · exact (Below.refl _ _).alloc (Nat.le_refl _) _
    · obtain ⟨g, hv, hg, hc⟩ := (show PtrRow _ _ _ from hds 22 (by simp))
      go_simp
      refine (sheet_longs g _ _ w' hg (by simp) hc).mono ?_
      rintro e w1 ⟨v, rfl, hown, hbel⟩
      exact hK v w1 (fun d hd => by cases hd; exact numRow_of hown (by simp) (by simp [longCells, ptr, Value.oneCell'])) (bThen hI hbel) hbel
    · go_simp; exact hK _ _ (fun d hd => by cases hd; exact rfl) hI (Below.refl _ _)
    · have h1 : a'.tmps.getD 24 undef = ptr (b, 0) := hds 24 (by simp)
      unfold ptr at h1; go_simp; exact hK _ _ (fun d hd => by cases hd; exact rfl) hI (Below.refl _ _)
    · have h1 : a'.tmps.getD 25 undef = ptr (b, 0) := hds 25 (by simp)
      unfold ptr at h1; go_simp; exact hK _ _ (fun d hd => by cases hd; exact rfl) hI (Below.refl _ _)
    · have h26 := getD_form (show a'.tmps.getD 26 undef = _ from hds 26 (by simp))
      unfold ptr at h26
      go_simp
      refine hK _ _ ?_ ?_ ?_
      · intro d hd; cases hd; exact ptrRow_new w' [(b, 5)] _ _ rfl
      · exact hI.alloc hI.size _
      · exact (Below.refl _ _).alloc (Nat.le_refl _) _
    · obtain ⟨g, hv, hg, hc⟩ := (show PtrRow _ _ _ from hds 27 (by simp))
      go_simp
      refine (sheet_shorts g _ _ w' hg (by simp) hc).mono ?_
      rintro e w1 ⟨v, rfl, hown, hbel⟩
      exact hK v w1 (fun d hd => by cases hd; exact numRow_of hown (by simp) (by simp [shortCells, ptr, Value.oneCell'])) (bThen hI hbel) hbel
    · go_simp; exact hK _ _ (fun d hd => by cases hd; exact rfl) hI (Below.refl _ _)
    · have h1 : a'.tmps.getD 29 undef = ptr (b, 0) := hds 29 (by simp)
      unfold ptr at h1; go_simp; exact hK _ _ (fun d hd => by cases hd; exact rfl) hI (Below.refl _ _)
    · have h1 : a'.tmps.getD 30 undef = ptr (b, 0) := hds 30 (by simp)
      unfold ptr at h1; go_simp; exact hK _ _ (fun d hd => by cases hd; exact rfl) hI (Below.refl _ _)
    · go_simp; exact hK _ _ (fun d hd => by cases hd; exact rfl) hI (Below.refl _ _)
    · have h1 : a'.tmps.getD 32 undef = ptr (b, 0) := hds 32 (by simp)
      unfold ptr at h1; go_simp; exact hK _ _ (fun d hd => by cases hd; exact rfl) hI (Below.refl _ _)
    · have h1 : a'.tmps.getD 33 undef = ptr (b, 0) := hds 33 (by simp)
      unfold ptr at h1; go_simp; exact hK _ _ (fun d hd => by cases hd; exact rfl) hI (Below.refl _ _)
    · go_simp; exact hK _ _ (fun d hd => by cases hd; exact rfl) hI (Below.refl _ _)
    · have h1 : a'.tmps.getD 35 undef = ptr (b, 0) := hds 35 (by simp)
      unfold ptr at h1; go_simp; exact hK _ _ (fun d hd => by cases hd; exact rfl) hI (Below.refl _ _)
    · have h1 : a'.tmps.getD 36 undef = ptr (b, 0) := hds 36 (by simp)
      unfold ptr at h1; go_simp; exact hK _ _ (fun d hd => by cases hd; exact rfl) hI (Below.refl _ _)
    · have h31 := getD_form (show a'.tmps.getD 31 undef = _ from hds 31 (by simp))
      have h34 := getD_form (show a'.tmps.getD 34 undef = _ from hds 34 (by simp))
      have h37 := getD_form (show a'.tmps.getD 37 undef = _ from hds 37 (by simp))
      unfold ptr at h31 h34 h37
      go_simp
      refine hK _ _ ?_ ?_ ?_
      · intro d hd; cases hd; exact ptrRow_new w' [(b, 6), (b, 7), (b, 8)] _ _ rfl
      · exact hI.alloc hI.size _
      · exact (Below.refl _ _).alloc (Nat.le_refl _) _
    · obtain ⟨g, hv, hg, hc⟩ := (show PtrRow _ _ _ from hds 38 (by simp))
      go_simp
      refine (sheet_longs g _ _ w' hg (by simp) hc).mono ?_
      rintro e w1 ⟨v, rfl, hown, hbel⟩
      exact hK v w1 (fun d hd => by cases hd; exact numRow_of hown (by simp) (by simp [longCells, ptr, Value.oneCell'])) (bThen hI hbel) hbel
    · go_simp; exact hK _ _ (fun d hd => by cases hd; exact rfl) hI (Below.refl _ _)
    · have h1 : a'.tmps.getD 40 undef = ptr (b, 0) := hds 40 (by simp)
      unfold ptr at h1; go_simp; exact hK _ _ (fun d hd => by cases hd; exact rfl) hI (Below.refl _ _)
    · have h1 : a'.tmps.getD 41 undef = ptr (b, 0) := hds 41 (by simp)
      unfold ptr at h1; go_simp; exact hK _ _ (fun d hd => by cases hd; exact rfl) hI (Below.refl _ _)
    · go_simp; exact hK _ _ (fun d hd => by cases hd; exact rfl) hI (Below.refl _ _)
    · have h1 : a'.tmps.getD 43 undef = ptr (b, 0) := hds 43 (by simp)
      unfold ptr at h1; go_simp; exact hK _ _ (fun d hd => by cases hd; exact rfl) hI (Below.refl _ _)
    · have h1 : a'.tmps.getD 44 undef = ptr (b, 0) := hds 44 (by simp)
      unfold ptr at h1; go_simp; exact hK _ _ (fun d hd => by cases hd; exact rfl) hI (Below.refl _ _)
    · go_simp; exact hK _ _ (fun d hd => by cases hd; exact rfl) hI (Below.refl _ _)
    · have h1 : a'.tmps.getD 46 undef = ptr (b, 0) := hds 46 (by simp)
      unfold ptr at h1; go_simp; exact hK _ _ (fun d hd => by cases hd; exact rfl) hI (Below.refl _ _)
    · have h1 : a'.tmps.getD 47 undef = ptr (b, 0) := hds 47 (by simp)
      unfold ptr at h1; go_simp; exact hK _ _ (fun d hd => by cases hd; exact rfl) hI (Below.refl _ _)
    · go_simp; exact hK _ _ (fun d hd => by cases hd; exact rfl) hI (Below.refl _ _)
    · have h1 : a'.tmps.getD 49 undef = ptr (b, 0) := hds 49 (by simp)
      unfold ptr at h1; go_simp; exact hK _ _ (fun d hd => by cases hd; exact rfl) hI (Below.refl _ _)
    · have h1 : a'.tmps.getD 50 undef = ptr (b, 0) := hds 50 (by simp)
      unfold ptr at h1; go_simp; exact hK _ _ (fun d hd => by cases hd; exact rfl) hI (Below.refl _ _)
    · go_simp; exact hK _ _ (fun d hd => by cases hd; exact rfl) hI (Below.refl _ _)
    · have h1 : a'.tmps.getD 52 undef = ptr (b, 0) := hds 52 (by simp)
      unfold ptr at h1; go_simp; exact hK _ _ (fun d hd => by cases hd; exact rfl) hI (Below.refl _ _)
    · have h1 : a'.tmps.getD 53 undef = ptr (b, 0) := hds 53 (by simp)
      unfold ptr at h1; go_simp; exact hK _ _ (fun d hd => by cases hd; exact rfl) hI (Below.refl _ _)
    · go_simp; exact hK _ _ (fun d hd => by cases hd; exact rfl) hI (Below.refl _ _)
    · have h1 : a'.tmps.getD 55 undef = ptr (b, 0) := hds 55 (by simp)
      unfold ptr at h1; go_simp; exact hK _ _ (fun d hd => by cases hd; exact rfl) hI (Below.refl _ _)
    · have h1 : a'.tmps.getD 56 undef = ptr (b, 0) := hds 56 (by simp)
      unfold ptr at h1; go_simp; exact hK _ _ (fun d hd => by cases hd; exact rfl) hI (Below.refl _ _)
    · go_simp; exact hK _ _ (fun d hd => by cases hd; exact rfl) hI (Below.refl _ _)
    · have h1 : a'.tmps.getD 58 undef = ptr (b, 0) := hds 58 (by simp)
      unfold ptr at h1; go_simp; exact hK _ _ (fun d hd => by cases hd; exact rfl) hI (Below.refl _ _)
    · have h1 : a'.tmps.getD 59 undef = ptr (b, 0) := hds 59 (by simp)
      unfold ptr at h1; go_simp; exact hK _ _ (fun d hd => by cases hd; exact rfl) hI (Below.refl _ _)
    · have h42 := getD_form (show a'.tmps.getD 42 undef = _ from hds 42 (by simp))
      have h45 := getD_form (show a'.tmps.getD 45 undef = _ from hds 45 (by simp))
      have h48 := getD_form (show a'.tmps.getD 48 undef = _ from hds 48 (by simp))
      have h51 := getD_form (show a'.tmps.getD 51 undef = _ from hds 51 (by simp))
      have h54 := getD_form (show a'.tmps.getD 54 undef = _ from hds 54 (by simp))
      have h57 := getD_form (show a'.tmps.getD 57 undef = _ from hds 57 (by simp))
      have h60 := getD_form (show a'.tmps.getD 60 undef = _ from hds 60 (by simp))
      unfold ptr at h42 h45 h48 h51 h54 h57 h60
      go_simp
      refine hK _ _ ?_ ?_ ?_
      · intro d hd; cases hd; exact ptrRow_new w' [(b, 9), (b, 10), (b, 11), (b, 12), (b, 13), (b, 14), (b, 15)] _ _ rfl
      · exact hI.alloc hI.size _
      · exact (Below.refl _ _).alloc (Nat.le_refl _) _
    · obtain ⟨g, hv, hg, hc⟩ := (show PtrRow _ _ _ from hds 61 (by simp))
      go_simp
      refine (sheet_shorts g _ _ w' hg (by simp) hc).mono ?_
      rintro e w1 ⟨v, rfl, hown, hbel⟩
      exact hK v w1 (fun d hd => by cases hd; exact numRow_of hown (by simp) (by simp [shortCells, ptr, Value.oneCell'])) (bThen hI hbel) hbel
    · obtain ⟨p0, v0, n0, x0, o0⟩ := (show NumRow _ _ _ _ from hds 10 (by simp))
      obtain ⟨p1, v1, n1, x1, o1⟩ := (show NumRow _ _ _ _ from hds 18 (by simp))
      obtain ⟨p2, v2, n2, x2, o2⟩ := (show NumRow _ _ _ _ from hds 23 (by simp))
      obtain ⟨p3, v3, n3, x3, o3⟩ := (show NumRow _ _ _ _ from hds 28 (by simp))
      obtain ⟨p4, v4, n4, x4, o4⟩ := (show NumRow _ _ _ _ from hds 39 (by simp))
      obtain ⟨p5, v5, n5, x5, o5⟩ := (show NumRow _ _ _ _ from hds 62 (by simp))
      have N0 := Lib.hid n0; have N1 := Lib.hid n1; have N2 := Lib.hid n2; have N3 := Lib.hid n3; have N4 := Lib.hid n4; have N5 := Lib.hid n5; clear n0 n1 n2 n3 n4 n5
      unfold Piece.val at v0 v1 v2 v3 v4 v5
      replace v0 := getD_form v0; replace v1 := getD_form v1; replace v2 := getD_form v2; replace v3 := getD_form v3; replace v4 := getD_form v4; replace v5 := getD_form v5
      go_simp
      refine hK _ _ ?_ ?_ ?_
      · intro d hd; cases hd; exact pieceRow_new w' N0.out N1.out N2.out N3.out N4.out N5.out x0 x1 x2 x3 x4 x5 o0 o1 o2 o3 o4 o5
      · exact hI.alloc hI.size _
      · exact (Below.refl _ _).alloc (Nat.le_refl _) _
    · obtain ⟨g, ps, hv, hlen, hg, hn, hx, hc, ho⟩ := (show PieceRow _ _ _ _ _ from hds 63 (by simp))
      have hcon := slices_Concat g 6 ps _ w' hg (by omega) (by omega) (by omega) ho hc
      rw [hlen, hn, hx] at hcon
      have HC := Lib.hid hcon
      clear hcon hlen hn hx hc ho
      go_simp
      refine HC.out.mono ?_
      rintro e w1 ⟨v, rfl, hown, hbel⟩
      exact hK v w1 (fun d hd => by cases hd; exact ownsRow_base hI.size hown) (bThen hI hbel) hbel
    · have h1 : fieldsV w.heap.size b 64 (a'.tmps.getD 64 undef) w' := hds 64 (by simp)
      rw [Array.getD_eq_getD_getElem?] at h1
      go_simp; exact hK _ _ (fun d hd => by cases hd; exact h1) hI (Below.refl _ _)
  · intro a' w' hs hd hI hv hr
    have h2 : fieldsV w.heap.size b 2 (a'.tmps.getD 2 undef) w' := hv 62 _ 2 rfl rfl
    have HP : RowPost 115 2 16 (fieldCells b) w (.returned (a'.tmps.getD 2 undef)) w' := ⟨_, rfl, h2, hI⟩
    have hd' : a'.defers = [] := hd
    clear hv hr hs hd
    obtain ⟨tmps, dfs⟩ := a'
    simp only at hd' HP
    subst hd'
    have HH := Lib.hid HP
    clear h2 HP hI
    refine hK1 _ _ ?_
    go_wp2
    go_ret
    exact HH.out

end Go.Proofs.YtbcepdacfmbekaaDoor
