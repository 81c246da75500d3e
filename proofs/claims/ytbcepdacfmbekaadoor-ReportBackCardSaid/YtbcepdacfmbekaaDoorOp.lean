/-
  A struct of whole numbers that comes in by value: its cells.
-/
import Derived.Test.YtbcepdacfmbekaaDoorProg
import Derived.Deep.Fields
import Derived.Deep.Slices
import Derived.Lib.SmallJoins
import Derived.ChangeArms
namespace Go.Proofs.YtbcepdacfmbekaaDoor
open Go.RowKit Go.ChangeShapes Go.WideShapes Go.Deep
variable {H : Type} {enc : TypeId × Value → H} {P : Program} {w : World} {base : Nat} {spare : Nat → Bool} {held : Bool}

def allInts (P : Program) (fs : Array Field) : Bool := fs.toList.all fun f => match P.underlying f.type with | some (.int .i64) => true | _ => false

theorem ints_of_cells {fs : Array Field} (hone : oneCellFields P fs = true) (hi : allInts P fs = true) {n : Nat} {cells : List Value} {xs : List (DataW H × List MemPlace)} (hl : cells.length = fs.size)
    (hg : ∀ (i : Nat) (f : Field), fs[i]? = some f → DataW.trod enc P w base spare held n f.type ((cells.drop f.offset).take (P.cellsOf f.type)) = xs[i]?) (hx : xs.length = fs.size) :
    ∃ vs : List Int, vs.length = fs.size ∧ cells = vs.map (Value.int .i64) ∧ ∀ v ∈ vs, (Lit.int .i64 v).wf = true := by
  have hone2 := hone_of hone
  have step : ∀ i, (h : i < cells.length) → ∃ v : Int, cells[i] = .int .i64 v ∧ (Lit.int .i64 v).wf = true := by
    intro i hi'
    have hf : fs[i]? = some fs[i] := Array.getElem?_eq_getElem (by omega)
    have h1 := hg i _ hf
    obtain ⟨ho, hk⟩ := hone2 i _ hf
    rw [ho, hk] at h1
    have h2 : (cells.drop i).take 1 = [cells[i]] := by
      rw [List.drop_eq_getElem_cons hi']; rfl
    rw [h2] at h1
    have hu := List.all_eq_true.1 hi fs[i] (List.mem_of_getElem? (show fs.toList[i]? = some fs[i] by rw [Array.getElem?_toList]; exact hf))
    have hu2 : P.underlying fs[i].type = some (.int .i64) := by
      split at hu
      · assumption
      · cases hu
    have hys : xs[i]? = some (xs[i]'(by omega)) := List.getElem?_eq_getElem (by omega)
    rw [hys] at h1
    obtain ⟨v, hv, _, hw⟩ := DataW.trod_int hu2 h1
    exact ⟨v, by simpa using hv, hw⟩
  refine ⟨cells.map (fun c => match c with | .int _ v => v | _ => 0), by simpa using hl, ?_, ?_⟩
  · refine List.ext_getElem (by simp) (fun i h1 h2 => ?_)
    obtain ⟨v, hv, _⟩ := step i h1
    simp [hv]
  · intro v hv
    obtain ⟨c, hc, rfl⟩ := List.mem_map.1 hv
    obtain ⟨i, hi', rfl⟩ := List.getElem_of_mem hc
    obtain ⟨v, hv', hw⟩ := step i hi'
    rw [hv']; exact hw

theorem open_ints_struct {r : Reach} {b0 : Nat} {t : TypeId} {fs : Array Field} {v : Value} {d : DataW H} {p : List MemPlace} (hs : P.underlying t = some (.struct fs)) (hone : oneCellFields P fs = true) (hi : allInts P fs = true) (hC : P.cellsOf t = fs.size)
    (hv : Value.okWide P w r b0 t v) (h : DataW.Trod enc P w base spare held t v d p) :
    ∃ vs : List Int, vs.length = fs.size ∧ v = .agg (vs.map (Value.int .i64)).toArray ∧ ∀ v ∈ vs, (Lit.int .i64 v).wf = true := by
  obtain ⟨cs, rfl, hsz⟩ := okWide_struct hs hv
  obtain ⟨fuel, hf⟩ := h
  obtain ⟨xs, n, _, hx, hl, hlen, hg⟩ := DataW.trod_struct hs hf
  simp only [Value.cells] at hl hg
  obtain ⟨vs, h1, h2, h3⟩ := ints_of_cells hone hi (by rw [hl, hC]) hg hlen
  refine ⟨vs, h1, ?_, h3⟩
  rw [← h2]

end Go.Proofs.YtbcepdacfmbekaaDoor
