/-
  A slice of structs of whole numbers that comes in: its cells.
-/
import Derived.Test.YtbcepdacfmbekaaDoorOp
namespace Go.Proofs.YtbcepdacfmbekaaDoor
open Go.RowKit Go.ChangeShapes Go.WideShapes Go.Deep
variable {H : Type} {enc : TypeId × Value → H} {P : Program} {w : World} {base : Nat} {spare : Nat → Bool} {held : Bool}

/-- The cells of rows of numbers. -/
def rowsCells (vss : List (List Int)) : List Value := vss.flatten.map (Value.int .i64)
theorem rowsCells_append (a b : List (List Int)) : rowsCells (a ++ b) = rowsCells a ++ rowsCells b := by simp [rowsCells]
theorem rowsCells_length {k : Nat} : ∀ (vss : List (List Int)), (∀ vs ∈ vss, vs.length = k) → (rowsCells vss).length = vss.length * k := by
  intro vss
  induction vss with
  | nil => intro _; simp [rowsCells]
  | cons v r ih =>
    intro h
    have h1 := ih (fun vs hvs => h vs (List.mem_cons_of_mem _ hvs))
    have h2 := h v (by simp)
    simp only [rowsCells, List.flatten_cons, List.map_append, List.length_append, List.length_map, List.length_cons] at h1 ⊢
    rw [h1, h2, Nat.add_mul]
    omega

theorem open_structs {r : Reach} {b0 : Nat} {t e : TypeId} {fs : Array Field} {v : Value} {d : DataW H} {p : List MemPlace} (ht : P.underlying t = some (.slice e)) (he : P.underlying e = some (.struct fs)) (hone : oneCellFields P fs = true) (hi : allInts P fs = true) (hC : P.cellsOf e = fs.size) (hpos : 0 < fs.size)
    (hv : Value.okWide P w r b0 t v) (h : DataW.Trod enc P w base spare held t v d p) :
    ∃ vss : List (List Int), vss.length ≤ 9223372036854775807 ∧ (∀ vs ∈ vss, vs.length = fs.size ∧ ∀ x ∈ vs, (Lit.int .i64 x).wf = true) ∧ ((∃ q c, v = .slice q 0 c ∧ vss = []) ∨ ∃ g o c, v = .slice (some ⟨g, o, none⟩) vss.length c ∧ ∀ j x, (rowsCells vss)[j]? = some x → w.cell? ⟨g, o + j, none⟩ = some x) := by
  obtain ⟨fuel, hf⟩ := h
  obtain ⟨a0, len, cap, rfl⟩ := okWide_slice ht hv
  rcases open_slice ht hf with ⟨hcs, _⟩ | ⟨a, len', cap', m, n, D, Pl, hcs, _, hl, hcm, hm, _, hel⟩
  · simp [Value.cells] at hcs
    obtain ⟨rfl, rfl, rfl⟩ := hcs
    exact ⟨[], by simp, by simp, .inl ⟨_, _, rfl, rfl⟩⟩
  · simp [Value.cells] at hcs
    obtain ⟨rfl, rfl, rfl⟩ := hcs
    have hlm : len ≤ m := by rw [hm]; split <;> omega
    have main : ∀ k, k ≤ len → ∃ vss : List (List Int), vss.length = k ∧ (∀ vs ∈ vss, vs.length = fs.size ∧ ∀ x ∈ vs, (Lit.int .i64 x).wf = true) ∧ ∀ j x, (rowsCells vss)[j]? = some x → w.cell? (a.add j) = some x := by
      intro k
      induction k with
      | zero => intro _; exact ⟨[], rfl, by simp, fun j x hx => by simp [rowsCells] at hx⟩
      | succ k ih =>
        intro hk
        obtain ⟨vss, h1, h2, h3⟩ := ih (by omega)
        obtain ⟨cs', hc, ht'⟩ := hel k (by omega)
        obtain ⟨xs, n', _, hx, hl', hlen, hg⟩ := DataW.trod_struct he ht'
        obtain ⟨vs, g1, g2, g3⟩ := ints_of_cells hone hi (by rw [hl', hC]) hg hlen
        obtain ⟨_, hcl, hat⟩ := World.cells?_some hc
        refine ⟨vss ++ [vs], by simp [h1], fun u hu => ?_, fun j x hx => ?_⟩
        · rw [List.mem_append, List.mem_singleton] at hu
          rcases hu with hu | rfl
          · exact h2 u hu
          · exact ⟨g1, g3⟩
        · rw [rowsCells_append] at hx
          have hL := rowsCells_length (k := fs.size) vss (fun u hu => (h2 u hu).1)
          rw [h1] at hL
          by_cases hj : j < k * fs.size
          · rw [List.getElem?_append_left (by rw [hL]; exact hj)] at hx
            exact h3 j x hx
          · rw [List.getElem?_append_right (by rw [hL]; omega), hL] at hx
            have hx2 : cs'[j - k * fs.size]? = some x := by
              rw [g2]
              simpa [rowsCells] using hx
            have hjl : j - k * fs.size < cs'.length := (List.getElem?_eq_some_iff.1 hx2).1
            have := hat (j - k * fs.size) (by omega)
            rw [hC, add_add, show k * fs.size + (j - k * fs.size) = j by omega] at this
            rw [this, hx2]
    obtain ⟨vss, h1, h2, h3⟩ := main len (Nat.le_refl _)
    unfold maxLen at hcm
    refine ⟨vss, by omega, h2, ?_⟩
    by_cases h0 : len = 0
    · subst h0
      exact .inl ⟨_, _, rfl, List.length_eq_zero_iff.1 h1⟩
    · right
      obtain ⟨b, off, spot⟩ := a
      have hL := rowsCells_length (k := fs.size) vss (fun u hu => (h2 u hu).1)
      have hpl : 0 < (rowsCells vss).length := by rw [hL, h1]; exact Nat.mul_pos (by omega) hpos
      have hsp : spot = none := by
        have := h3 0 _ (List.getElem?_eq_getElem hpl)
        simpa [Addr.add] using World.cell?_spot this
      subst hsp
      refine ⟨b, off, cap, by rw [h1], fun j x hx => ?_⟩
      have := h3 j x hx
      rw [show (⟨b, off, none⟩ : Addr).add j = ⟨b, off + j, none⟩ by unfold Addr.add; split <;> simp_all] at this
      exact this

/-- What such a number is. -/
theorem wf_i64 {x : Int} (h : (Lit.int .i64 x).wf = true) : -9223372036854775808 ≤ x ∧ x ≤ 9223372036854775807 := by
  have h1 : IntKind.i64.min = -9223372036854775808 := by decide
  have h2 : IntKind.i64.max = 9223372036854775807 := by decide
  simp [Lit.wf, h1, h2] at h
  omega

end Go.Proofs.YtbcepdacfmbekaaDoor
