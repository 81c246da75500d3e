/-
  The rules for a region that draws its order once more: behind it the frame is the old one with the region's slots written, each as its fact tells.
-/
import Derived.Test.YtbcepdacfmbekaaDoorKReg
import Derived.Laws.Rows
namespace Go.Proofs.YtbcepdacfmbekaaDoor
open Go.RowKit

def putMany (t : Array Value) (f : Nat → Value) : List Nat → Array Value
  | [] => t
  | d :: ds => putMany (t.setIfInBounds d (f d)) f ds

theorem putMany_size (f : Nat → Value) : ∀ (D : List Nat) (t : Array Value), (putMany t f D).size = t.size
  | [], _ => rfl
  | _ :: ds, _ => by unfold putMany; rw [putMany_size f ds]; simp

theorem putMany_getD (f : Nat → Value) : ∀ (D : List Nat) (t : Array Value) (i : Nat), i < t.size → (putMany t f D).getD i undef = if i ∈ D then f i else t.getD i undef
  | [], _, _, _ => by simp [putMany]
  | d :: ds, t, i, hi => by
    unfold putMany
    rw [putMany_getD f ds _ i (by simpa using hi)]
    by_cases h1 : i ∈ ds
    · simp [h1]
    · by_cases h2 : i = d
      · subst h2
        simp [h1, Array.getD_eq_getD_getElem?, hi]
      · have h3 : d ≠ i := fun e => h2 e.symm
        simp [h1, h2, h3, Array.getD_eq_getD_getElem?]

theorem arr_putMany {t t' : Array Value} (hs : t'.size = t.size) (D : List Nat) (h : ∀ i, i < t.size → i ∉ D → t'.getD i undef = t.getD i undef) : t' = putMany t (fun d => t'.getD d undef) D := by
  refine Array.ext (by rw [putMany_size, hs]) (fun i h1 h2 => ?_)
  have h3 : i < t.size := by rw [← hs]; exact h1
  have e := putMany_getD (fun d => t'.getD d undef) D t i h3
  have e1 : ∀ (x : Array Value) (h : i < x.size), x.getD i undef = x[i] := fun x h => by simp [Array.getD_eq_getD_getElem?, h]
  rw [← e1 _ h2, ← e1 _ h1, e]
  by_cases hd : i ∈ D
  · rw [if_pos hd]
  · rw [if_neg hd]; exact h i h3 hd

variable {P : Program} {ops : Array Oper} {Q : Exit → Act → World → Prop}

theorem wp_region_vals {id : Nat} {a : Act} {w : World} (hm : P.follows .mixedOrders = true) {n : Nat} (hn : a.tmps.size = n) (hok : regOk ops n = true) (hpl : regPlain ops = true)
    (L : List (List Nat)) (hL : regDeps ops = L) (D : List Nat) (hD : ops.toList.filterMap (·.dst) = D) (nw : List Nat) (hnw : nw.all (notIn ops) = true)
    (V : Nat → Value → World → Prop) (I : World → Prop) (le : World → World → Prop)
    (mono : ∀ d v w w', le w w' → V d v w → V d v w') (hI : I w.drew)
    (step : AllSteps (OpStep P Q a V I le nw) ops.toList L)
    (fin : ∀ (f : Nat → Value) (w' : World), I w' → (∀ d ∈ D, V d (f d) w') → Q .normal { a with tmps := putMany a.tmps f D } w') :
    (Code.region id ops true).wp P Q a w := by
  refine wp_region_list hm hn hok hpl L hL nw hnw V I le mono hI step (fun a' w' hs hd hi hv hr => ?_)
  have e : a' = { a with tmps := putMany a.tmps (fun d => a'.tmps.getD d undef) D } := by
    have := arr_putMany hs D (fun i _ hi2 => hr i (fun j p hp he => hi2 (by rw [← hD]; exact List.mem_filterMap.2 ⟨p, List.mem_of_getElem? (show ops.toList[j]? = some p by simpa using hp), he⟩)))
    rw [← this]
    cases a'
    simp only at hd ⊢
    rw [hd]
  rw [e]
  refine fin _ w' hi (fun d hdm => ?_)
  rw [← hD] at hdm
  obtain ⟨o, ho, hod⟩ := List.mem_filterMap.1 hdm
  obtain ⟨i, hlt, hio⟩ := List.getElem_of_mem ho
  exact hv i o d (by rw [← Array.getElem?_toList, List.getElem?_eq_getElem hlt, hio]) hod

/-- What the last operation owes, the frame written. -/
structure LastOp (P : Program) (ops : Array Oper) (Q : Exit → Act → World → Prop) (a : Act) (o : Oper) (D : List Nat) (f : Nat → Value) (w' : World) : Prop where
  out : if Region.wanted o (yielded ops (putMany a.tmps f D)) then o.wp P { a with tmps := putMany a.tmps f D } w' (fun a w => Q .normal a w) Q else Q .normal ({ a with tmps := putMany a.tmps f D }.put o.dst undef) w'

/-- The same where the last operation comes behind all others: it may panic, store or call. -/
theorem wp_region_tail {id : Nat} {a : Act} {w : World} (hmx : P.follows .mixedOrders = true) {n : Nat} (hn : a.tmps.size = n) (hok : regOk ops n = true) (m : Nat) (hm : ops.size = m + 1) (hsink : regSink ops m = true)
    (L : List (List Nat)) (hL : (regDeps ops).take m = L) (nw : List Nat) (hnw : nw.all (notIn ops) = true) (D : List Nat) (hD : (ops.toList.take m).filterMap (·.dst) = D) (o : Oper) (ho : ops[m]? = some o) (E : List Nat) (hE : o.dst.toList = E)
    (V : Nat → Value → World → Prop) (I : World → Prop) (le : World → World → Prop)
    (mono : ∀ d v w w', le w w' → V d v w → V d v w') (hI : I w.drew)
    (step : AllSteps (GStep P ops Q a V I le nw) (ops.toList.take m) L)
    (last : ∀ (f : Nat → Value) (w' : World), I w' → (∀ d ∈ D, V d (f d) w') → LastOp P ops Q a o (D ++ E) f w') :
    (Code.region id ops true).wp P Q a w := by
  have hnw2 : ((List.range n).filter (fun t => notIn ops t)).all (notIn ops) = true := by
    refine List.all_eq_true.2 fun t ht => (List.mem_filter.1 ht).2
  have hnw3 : (nw ++ (List.range n).filter (fun t => notIn ops t)).all (notIn ops) = true := by
    rw [List.all_append, hnw, hnw2]; rfl
  refine wp_region_last hmx hn hok m hm hsink L hL (nw ++ (List.range n).filter (fun t => notIn ops t)) hnw3 D hD.symm o ho V I le mono hI ?_ ?_
  · have gen : ∀ (os : List Oper) (l : List (List Nat)), AllSteps (GStep P ops Q a V I le nw) os l → AllSteps (GStep P ops Q a V I le (nw ++ (List.range n).filter (fun t => notIn ops t))) os l := by
      intro os
      induction os with
      | nil => intro l _; trivial
      | cons x r ih =>
        intro l h
        cases l with
        | nil => trivial
        | cons y t => exact ⟨fun a' w' h1 h2 h3 => h.1 a' w' h1 h2 (fun t ht => h3 t (List.mem_append_left _ ht)), ih t h.2⟩
    exact gen _ _ step
  · intro a' w' hi hs hd hnw' hv
    have e : a' = { a with tmps := putMany a.tmps (fun d => a'.tmps.getD d undef) (D ++ E) } := by
      have := arr_putMany hs (D ++ E) (fun i hi1 hi2 => hnw' i (List.mem_append_right _ (List.mem_filter.2 ⟨List.mem_range.2 (by omega), by
        refine List.all_eq_true.2 fun p hp => ?_
        rw [bne_iff_ne]
        intro he
        obtain ⟨j, hj, hjp⟩ := List.getElem_of_mem hp
        by_cases hjm : j < m
        · refine hi2 (List.mem_append_left _ ?_)
          rw [← hD]
          refine List.mem_filterMap.2 ⟨p, ?_, he⟩
          rw [List.mem_iff_getElem?]
          exact ⟨j, by rw [List.getElem?_take, if_pos hjm, List.getElem?_eq_getElem hj, hjp]⟩
        · have hjm2 : j = m := by simp at hj; omega
          subst hjm2
          have : p = o := by
            have h1 : ops[j]? = some p := by rw [← Array.getElem?_toList, List.getElem?_eq_getElem hj, hjp]
            rw [ho] at h1
            exact (Option.some.inj h1).symm
          subst this
          refine hi2 (List.mem_append_right _ ?_)
          rw [← hE, he]; simp⟩)))
      rw [← this]
      cases a'
      simp only at hd ⊢
      rw [hd]
    rw [e]
    exact (last _ w' hi (fun d hd => hv d hd)).out

/-- A whole row is loaded by an operation that bears a guard, and is wanted. -/
theorem wpList_load_row_w {rest : List Oper} {o : Oper} {a : Act} {w : World} (hw : Region.wanted o (yielded ops a.tmps) = true) (ty : TypeId) (x : Operand) (ho : o.op = .load ty x)
    (g : Nat) (hx : a.eval x = .pointer (some ⟨g, 0, none⟩)) (t : TypeId) (cs : Array Value) (fr : Nat × Nat) (d : TypeDesc) (hg : w.heap[g]? = some (.cells cs t fr))
    (hu : P.underlying ty = some d) (hd : (match d with | .struct _ | .array _ _ => true | _ => false) = true) (hi : (P.info? ty).map (·.size) = some cs.size)
    (h : wpList P ops Q rest (a.put o.dst (.agg cs)) w) : wpList P ops Q (o :: rest) a w :=
  wpList_step fun K hK => by rw [if_pos hw]; exact wp_load_row ty x ho g hx t cs fr d hg hu hd hi (hK _ _ h)

end Go.Proofs.YtbcepdacfmbekaaDoor
