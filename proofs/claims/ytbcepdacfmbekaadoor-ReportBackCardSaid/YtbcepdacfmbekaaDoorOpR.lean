/-
  A slice of messages that comes in, opened.
-/
import Derived.Test.YtbcepdacfmbekaaDoorOpM
import Derived.Test.YtbcepdacfmbekaaDoorKRLw
namespace Go.Proofs.YtbcepdacfmbekaaDoor
open Go.RowKit Go.ChangeShapes Go.WideShapes Go.Deep
variable {H : Type} {enc : TypeId × Value → H} {w : World} {base : Nat} {spare : Nat → Bool} {held : Bool}

def msgOfRow (vs : List Int) : Pl.Msg := ⟨vs.getD 0 0, vs.getD 1 0, vs.getD 2 0, vs.getD 3 0, vs.getD 4 0, vs.getD 5 0, vs.getD 6 0, vs.getD 7 0, vs.getD 8 0⟩
theorem msgOfRow_arr {vs : List Int} (h : vs.length = 9) : (msgOfRow vs).arr.toList = vs.map (Value.int .i64) := by
  match vs, h with
  | [a, b, c, d, e, f, g, i, j], _ => rfl
theorem msgOfRow_in {vs : List Int} (h : vs.length = 9) (hw : ∀ x ∈ vs, (Lit.int .i64 x).wf = true) : Pl.MsgIn (msgOfRow vs) := by
  match vs, h with
  | [a, b, c, d, e, f, g, i, j], _ =>
    have k : ∀ x ∈ [a, b, c, d, e, f, g, i, j], Pl.in64 x := fun x hx => wf_i64 (hw x hx)
    exact ⟨k a (by simp), k b (by simp), k c (by simp), k d (by simp), k e (by simp), k f (by simp), k g (by simp), k i (by simp), k j (by simp)⟩
theorem msgs_rows : ∀ (vss : List (List Int)), (∀ vs ∈ vss, vs.length = 9) → msgsCells (vss.map msgOfRow) = rowsCells vss := by
  intro vss
  induction vss with
  | nil => intro _; rfl
  | cons v r ih =>
    intro h
    rw [List.map_cons, show msgsCells (msgOfRow v :: r.map msgOfRow) = (msgOfRow v).arr.toList ++ msgsCells (r.map msgOfRow) from rfl, msgOfRow_arr (h v (by simp)), ih (fun vs hvs => h vs (List.mem_cons_of_mem _ hvs))]
    simp [rowsCells]

set_option maxRecDepth 100000 in
theorem open_msgs {r : Reach} {b0 : Nat} {v : Value} {d : DataW H} {p : List MemPlace} (hv : Value.okWide Tryd.prog w r b0 65 v) (h : DataW.Trod enc Tryd.prog w base spare held 65 v d p) :
    ∃ ms : List Pl.Msg, MsgsArg w v ms ∧ ms.length ≤ 9223372036854775807 := by
  obtain ⟨vss, hl, h1, h2⟩ := open_structs Tryd.underlying65 Tryd.underlying62 (by kernel_rfl) (by kernel_rfl) (by kernel_rfl) (by decide) hv h
  have h9 : ∀ vs ∈ vss, vs.length = 9 := fun vs hvs => (h1 vs hvs).1
  refine ⟨vss.map msgOfRow, ⟨?_, fun m hm => ?_⟩, by simpa using hl⟩
  · rcases h2 with ⟨q, c, e1, e2⟩ | ⟨g, o, c, e1, e2⟩
    · exact .inl ⟨q, c, e1, by rw [e2]; rfl⟩
    · by_cases h0 : vss = []
      · subst h0
        exact .inl ⟨_, c, e1, rfl⟩
      · refine .inr ⟨g, o, c, by rw [e1, List.length_map], ?_, fun j x hx => e2 j x (by rw [← msgs_rows vss h9]; exact hx)⟩
        have hp : 0 < (rowsCells vss).length := by
          rw [rowsCells_length (k := 9) vss h9]
          have := List.length_pos_iff.2 h0
          omega
        exact World.block_lt_of_cell? w _ (e2 0 _ (List.getElem?_eq_getElem hp))
  · obtain ⟨vs, hvs, rfl⟩ := List.mem_map.1 hm
    exact msgOfRow_in (h9 vs hvs) (h1 vs hvs).2

end Go.Proofs.YtbcepdacfmbekaaDoor
