/-
  A rule for a region that draws its order, when what each operation yields does not hang on the order: each operation owes one fact about what it yields (V, by the slot that it writes), under an invariant of the world (I) and a relation by which the world grows (le). The facts of the operations that it comes after are at hand. One obligation an operation, however many orders there are.
-/
import Derived.Orders
import Derived.WalkKit
namespace Go.Proofs.YtbcepdacfmbekaaDoor
open Go.RowKit

/-- What is asked of the region's text alone: each slot is written once, and lies in the frame; what comes ahead stands ahead. -/
def regOk (ops : Array Oper) (n : Nat) : Bool :=
  (List.range ops.size).all fun i => match ops[i]? with
    | none => false
    | some o => (match o.dst with | none => true | some d => decide (d < n) && (List.range ops.size).all fun j => j == i || (match ops[j]? with | none => true | some p => p.dst != some d)) &&
        o.after.toList.all fun e => !Region.binds .any e || decide (e.on < i)

def unlisted (ops : Array Oper) (listed : Array Bool) : Nat := (List.range ops.size).countP fun i => !listed.getD i true

structure RegInv (ops : Array Oper) (a : Act) (V : Nat → Value → World → Prop) (I : World → Prop) (listed : Array Bool) (a' : Act) (w' : World) : Prop where
  size : a'.tmps.size = a.tmps.size
  defers : a'.defers = a.defers
  inv : I w'
  lsize : listed.size = ops.size
  vals : ∀ (i : Nat) (o : Oper) (d : Nat), ops[i]? = some o → o.dst = some d → listed.getD i false = true → V d (a'.tmps.getD d undef) w'
  rest : ∀ t, (∀ (i : Nat) (o : Oper), ops[i]? = some o → o.dst ≠ some t) → a'.tmps.getD t undef = a.tmps.getD t undef

theorem regOk_dst {ops : Array Oper} {n : Nat} (h : regOk ops n = true) {i : Nat} {o : Oper} {d : Nat} (ho : ops[i]? = some o) (hd : o.dst = some d) :
    d < n ∧ ∀ (j : Nat) (p : Oper), ops[j]? = some p → p.dst = some d → j = i := by
  have hi : i < ops.size := (Array.getElem?_eq_some_iff.1 ho).1
  have h1 := List.all_eq_true.1 h i (List.mem_range.2 hi)
  simp only [ho, hd, Bool.and_eq_true, decide_eq_true_eq] at h1
  refine ⟨h1.1.1, fun j p hj hp => ?_⟩
  have hj' : j < ops.size := (Array.getElem?_eq_some_iff.1 hj).1
  have h2 := List.all_eq_true.1 h1.1.2 j (List.mem_range.2 hj')
  simp only [hj, hp, Bool.or_eq_true, beq_iff_eq, bne_iff_ne, ne_eq, not_true_eq_false, or_false] at h2
  exact h2

theorem regOk_after {ops : Array Oper} {n : Nat} (h : regOk ops n = true) {i : Nat} {o : Oper} (ho : ops[i]? = some o) {e : Edge} (he : e ∈ o.after) (hb : Region.binds .any e = true) : e.on < i := by
  have hi : i < ops.size := (Array.getElem?_eq_some_iff.1 ho).1
  have h1 := List.all_eq_true.1 h i (List.mem_range.2 hi)
  simp only [ho, Bool.and_eq_true] at h1
  have h2 := List.all_eq_true.1 h1.2 e (Array.mem_toList_iff.2 he)
  simpa [hb] using h2

theorem ready_mem {ops : Array Oper} {listed : Array Bool} {i : Nat} : i ∈ Region.ready .any ops listed ↔ i < ops.size ∧ listed.getD i true = false ∧ ∃ o, ops[i]? = some o ∧ ∀ e ∈ o.after, Region.binds .any e = true → listed.getD e.on false = true := by
  unfold Region.ready
  simp only [List.mem_filter, List.mem_range, Bool.and_eq_true, Bool.not_eq_true']
  constructor
  · rintro ⟨hi, hl, hr⟩
    refine ⟨hi, hl, ?_⟩
    obtain ⟨o, ho⟩ : ∃ o, ops[i]? = some o := ⟨_, Array.getElem?_eq_getElem hi⟩
    refine ⟨o, ho, fun e he hb => ?_⟩
    simp only [ho, Option.map_some, Option.getD_some] at hr
    have := Array.all_eq_true_iff_forall_mem.1 hr e he
    simpa [hb] using this
  · rintro ⟨hi, hl, o, ho, hr⟩
    refine ⟨hi, hl, ?_⟩
    simp only [ho, Option.map_some, Option.getD_some]
    refine Array.all_eq_true_iff_forall_mem.2 fun e he => ?_
    cases hb : Region.binds .any e
    · rfl
    · simp [hr e he hb]

theorem countP_lt {l : List Nat} {p q : Nat → Bool} {i : Nat} (hi : i ∈ l) (hpq : ∀ j ∈ l, q j = true → p j = true) (hp : p i = true) (hq : q i = false) : l.countP q < l.countP p := by
  induction l with
  | nil => cases hi
  | cons x r ih =>
    rw [List.countP_cons, List.countP_cons]
    have hmono : r.countP q ≤ r.countP p := List.countP_mono_left fun j hj h => hpq j (List.mem_cons_of_mem _ hj) h
    rcases List.mem_cons.1 hi with rfl | hi'
    · simp [hp, hq]; omega
    · have := ih hi' (fun j hj h => hpq j (List.mem_cons_of_mem _ hj) h)
      by_cases hqx : q x = true
      · rw [if_pos hqx, if_pos (hpq x (List.mem_cons_self) hqx)]; omega
      · rw [if_neg hqx]; omega

theorem unlisted_set {ops : Array Oper} {listed : Array Bool} {i : Nat} (hs : listed.size = ops.size) (hi : i < ops.size) (hl : listed.getD i true = false) : unlisted ops (listed.setIfInBounds i true) < unlisted ops listed := by
  refine countP_lt (List.mem_range.2 hi) (fun j hj h => ?_) (by simp [hl]) ?_
  · by_cases hij : i = j
    · subst hij; simp [hl]
    · simpa [Array.getD_eq_getD_getElem?, Array.getElem?_setIfInBounds, hij] using h
  · simp [Array.getD_eq_getD_getElem?, hs, hi]

/-- Where nothing is ready any more, all is listed. -/
theorem all_listed {ops : Array Oper} {n : Nat} (h : regOk ops n = true) {listed : Array Bool} (hs : listed.size = ops.size) (hr : Region.ready .any ops listed = []) : ∀ i, i < ops.size → listed.getD i false = true := by
  intro i
  induction i using Nat.strongRecOn with
  | _ i ih =>
    intro hi
    cases hl : listed.getD i false with
    | true => rfl
    | false =>
      have hl' : listed.getD i true = false := by
        simp only [Array.getD_eq_getD_getElem?] at hl ⊢
        rw [Array.getElem?_eq_getElem (by omega)] at hl ⊢
        simpa using hl
      have : i ∈ Region.ready .any ops listed := ready_mem.2 ⟨hi, hl', ops[i], Array.getElem?_eq_getElem hi, fun e he hb => by
        have hlt := regOk_after h (Array.getElem?_eq_getElem hi) he hb
        exact ih e.on hlt (by omega)⟩
      rw [hr] at this
      cases this

variable {P : Program} {ops : Array Oper} {Q : Exit → Act → World → Prop}

/-- What operation i owes. -/
def RegStep (P : Program) (ops : Array Oper) (Q : Exit → Act → World → Prop) (a : Act) (V : Nat → Value → World → Prop) (I : World → Prop) (le : World → World → Prop) (i : Nat) (o : Oper) : Prop :=
  ∀ (a' : Act) (w' : World), I w' → a'.tmps.size = a.tmps.size → a'.defers = a.defers →
    (∀ t, (∀ (j : Nat) (p : Oper), ops[j]? = some p → p.dst ≠ some t) → a'.tmps.getD t undef = a.tmps.getD t undef) →
    (∀ e ∈ o.after, Region.binds .any e = true → ∀ (p : Oper) (d : Nat), ops[e.on]? = some p → p.dst = some d → V d (a'.tmps.getD d undef) w') →
    ∀ K : Act → World → Prop, (∀ (v : Value) (w'' : World), (∀ d, o.dst = some d → V d v w'') → I w'' → le w' w'' → K (a'.put o.dst v) w'') → wpOp P ops Q i K a' w'

theorem wpAny_each {a : Act} {n : Nat} (hn : a.tmps.size = n) (hok : regOk ops n = true) (V : Nat → Value → World → Prop) (I : World → Prop) (le : World → World → Prop)
    (mono : ∀ d v w w', le w w' → V d v w → V d v w')
    (step : ∀ (i : Nat) (o : Oper), ops[i]? = some o → RegStep P ops Q a V I le i o)
    (fin : ∀ (a' : Act) (w' : World), a'.tmps.size = a.tmps.size → a'.defers = a.defers → I w' → (∀ (i : Nat) (o : Oper) (d : Nat), ops[i]? = some o → o.dst = some d → V d (a'.tmps.getD d undef) w') → (∀ t, (∀ (j : Nat) (p : Oper), ops[j]? = some p → p.dst ≠ some t) → a'.tmps.getD t undef = a.tmps.getD t undef) → Q .normal a' w') :
    ∀ (fuel : Nat) (listed : Array Bool) (a' : Act) (w' : World), unlisted ops listed ≤ fuel → RegInv ops a V I listed a' w' → wpAny P .any ops Q fuel listed a' w' := by
  have done : ∀ (listed : Array Bool) (a' : Act) (w' : World), RegInv ops a V I listed a' w' → Region.ready .any ops listed = [] → Q .normal a' w' := fun listed a' w' h hr =>
    fin a' w' h.size h.defers h.inv (fun i o d ho hd => h.vals i o d ho hd (all_listed hok h.lsize hr i (Array.getElem?_eq_some_iff.1 ho).1)) h.rest
  intro fuel
  induction fuel with
  | zero =>
    intro listed a' w' hu h
    have hr : Region.ready .any ops listed = [] := by
      cases hr : Region.ready .any ops listed with
      | nil => rfl
      | cons i r =>
        have hi : i ∈ Region.ready .any ops listed := by rw [hr]; exact List.mem_cons_self
        obtain ⟨hi1, hi2, _⟩ := ready_mem.1 hi
        have := unlisted_set h.lsize hi1 hi2
        omega
    exact ⟨hr, done listed a' w' h hr⟩
  | succ fuel ih =>
    intro listed a' w' hu h
    refine ⟨done listed a' w' h, fun i hi => ?_⟩
    obtain ⟨hi1, hi2, o, ho, hdeps⟩ := ready_mem.1 hi
    refine step i o ho a' w' h.inv h.size h.defers h.rest (fun e he hb p d hp hd => h.vals e.on p d hp hd (hdeps e he hb)) _ fun v w'' hv hI hle => ?_
    refine ih _ _ _ (by have := unlisted_set h.lsize hi1 hi2; omega) ⟨?_, ?_, hI, by simp [h.lsize], ?_, ?_⟩
    · cases hd : o.dst <;> simp [Act.put, h.size]
    · cases hd : o.dst <;> simp [Act.put, h.defers]
    · intro j p d hp hd hl
      by_cases hij : i = j
      · subst hij
        rw [ho] at hp
        obtain rfl := Option.some.inj hp
        have hlt := (regOk_dst hok ho hd).1
        have := hv d hd
        simpa [Act.put, hd, Array.getD_eq_getD_getElem?, Array.getElem?_setIfInBounds, h.size, hn, hlt] using this
      · have hl' : listed.getD j false = true := by
          simpa [Array.getD_eq_getD_getElem?, Array.getElem?_setIfInBounds, hij] using hl
        have hvj := mono d _ _ _ hle (h.vals j p d hp hd hl')
        have hne : o.dst ≠ some d := fun e => hij ((regOk_dst hok hp hd).2 i o ho e)
        cases hod : o.dst with
        | none => simpa [Act.put, hod] using hvj
        | some d' =>
          have hdd : d' ≠ d := fun e => hne (by rw [hod, e])
          simpa [Act.put, hod, Array.getD_eq_getD_getElem?, Array.getElem?_setIfInBounds, hdd] using hvj
    · intro t ht
      have hne : o.dst ≠ some t := ht i o ho
      rw [← h.rest t ht]
      cases hod : o.dst with
      | none => rfl
      | some d' =>
        have hdd : d' ≠ t := fun e => hne (by rw [hod, e])
        simp [Act.put, Array.getD_eq_getD_getElem?, hdd]

/-- A region that draws its order: each operation once. -/
theorem wp_region_each {id : Nat} {a : Act} {w : World} (hm : P.follows .mixedOrders = true) {n : Nat} (hn : a.tmps.size = n) (hok : regOk ops n = true) (V : Nat → Value → World → Prop) (I : World → Prop) (le : World → World → Prop)
    (mono : ∀ d v w w', le w w' → V d v w → V d v w') (hI : I w.drew)
    (step : ∀ (i : Nat) (o : Oper), ops[i]? = some o → RegStep P ops Q a V I le i o)
    (fin : ∀ (a' : Act) (w' : World), a'.tmps.size = a.tmps.size → a'.defers = a.defers → I w' → (∀ (i : Nat) (o : Oper) (d : Nat), ops[i]? = some o → o.dst = some d → V d (a'.tmps.getD d undef) w') → (∀ t, (∀ (j : Nat) (p : Oper), ops[j]? = some p → p.dst ≠ some t) → a'.tmps.getD t undef = a.tmps.getD t undef) → Q .normal a' w') :
    (Code.region id ops true).wp P Q a w := by
  refine wp_region_any hm ?_
  refine wpAny_each hn hok V I le mono step fin ops.size _ a w.drew ?_ ⟨rfl, rfl, hI, by simp, ?_, fun _ _ => rfl⟩
  · unfold unlisted
    exact Nat.le_trans (List.countP_le_length) (by simp)
  · intro i o d ho hd hl
    exfalso
    have hi : i < ops.size := (Array.getElem?_eq_some_iff.1 ho).1
    simp [Array.getD_eq_getD_getElem?, hi] at hl

/-! ### The same, with what is looked up in the region's text laid out in lists -/
def regDeps (ops : Array Oper) : List (List Nat) := ops.toList.map fun o => o.after.toList.filterMap fun e => if Region.binds .any e then (ops[e.on]?).bind (·.dst) else none
def regPlain (ops : Array Oper) : Bool := ops.toList.all fun o => o.guard.isNone
def notIn (ops : Array Oper) (t : Nat) : Bool := ops.toList.all fun o => o.dst != some t

/-- What an operation owes, its own text and the slots of those that it comes after at hand. -/
def OpStep (P : Program) (Q : Exit → Act → World → Prop) (a : Act) (V : Nat → Value → World → Prop) (I : World → Prop) (le : World → World → Prop) (nw : List Nat) (o : Oper) (ds : List Nat) : Prop :=
  ∀ (a' : Act) (w' : World), I w' → a'.defers = a.defers → (∀ t ∈ nw, a'.tmps.getD t undef = a.tmps.getD t undef) → (∀ d ∈ ds, V d (a'.tmps.getD d undef) w') →
    ∀ K : Act → World → Prop, (∀ (v : Value) (w'' : World), (∀ d, o.dst = some d → V d v w'') → I w'' → le w' w'' → K (a'.put o.dst v) w'') → o.wp P a' w' K Q

def AllSteps (S : Oper → List Nat → Prop) : List Oper → List (List Nat) → Prop
  | o :: r, ds :: l => S o ds ∧ AllSteps S r l
  | _, _ => True

theorem AllSteps.get {S : Oper → List Nat → Prop} (os : List Oper) : ∀ (l : List (List Nat)), AllSteps S os l → ∀ (i : Nat) (o : Oper) (ds : List Nat), os[i]? = some o → l[i]? = some ds → S o ds := by
  induction os with
  | nil => intro l h i o ds ho hd; simp at ho
  | cons x r ih =>
    intro l h i o ds ho hd
    cases l with
    | nil => simp at hd
    | cons y t =>
      unfold AllSteps at h
      cases i with
      | zero =>
        rw [List.getElem?_cons_zero] at ho hd
        obtain rfl := Option.some.inj ho
        obtain rfl := Option.some.inj hd
        exact h.1
      | succ i =>
        rw [List.getElem?_cons_succ] at ho hd
        exact ih t h.2 i o ds ho hd

theorem wp_region_list {id : Nat} {a : Act} {w : World} (hm : P.follows .mixedOrders = true) {n : Nat} (hn : a.tmps.size = n) (hok : regOk ops n = true) (hpl : regPlain ops = true)
    (L : List (List Nat)) (hL : regDeps ops = L) (nw : List Nat) (hnw : nw.all (notIn ops) = true)
    (V : Nat → Value → World → Prop) (I : World → Prop) (le : World → World → Prop)
    (mono : ∀ d v w w', le w w' → V d v w → V d v w') (hI : I w.drew)
    (step : AllSteps (OpStep P Q a V I le nw) ops.toList L)
    (fin : ∀ (a' : Act) (w' : World), a'.tmps.size = a.tmps.size → a'.defers = a.defers → I w' → (∀ (i : Nat) (o : Oper) (d : Nat), ops[i]? = some o → o.dst = some d → V d (a'.tmps.getD d undef) w') → (∀ t, (∀ (j : Nat) (p : Oper), ops[j]? = some p → p.dst ≠ some t) → a'.tmps.getD t undef = a.tmps.getD t undef) → Q .normal a' w') :
    (Code.region id ops true).wp P Q a w := by
  refine wp_region_each hm hn hok V I le mono hI (fun i o ho a' w' hI' hs hd hrest hdeps K hK => ?_) fin
  have hot : ops.toList[i]? = some o := by simpa using ho
  have hg : o.guard = none := by
    have := List.all_eq_true.1 hpl o (List.mem_of_getElem? hot)
    simpa using this
  have hds : L[i]? = some (o.after.toList.filterMap fun e => if Region.binds .any e then (ops[e.on]?).bind (·.dst) else none) := by
    rw [← hL]; unfold regDeps; rw [List.getElem?_map, hot]; rfl
  have h := AllSteps.get _ _ step i o _ hot hds a' w' hI' hd
    (fun t ht => hrest t fun j p hp he => by
      have h1 := List.all_eq_true.1 hnw t ht
      have h2 := List.all_eq_true.1 h1 p (List.mem_of_getElem? (show ops.toList[j]? = some p by simpa using hp))
      simp [he] at h2)
    (fun d hd => by
      obtain ⟨e, he, hed⟩ := List.mem_filterMap.1 hd
      by_cases hb : Region.binds .any e = true
      · rw [if_pos hb] at hed
        obtain ⟨p, hp, hpd⟩ := Option.bind_eq_some_iff.1 hed
        exact hdeps e (Array.mem_toList_iff.1 he) hb p d hp hpd
      · rw [if_neg hb] at hed; cases hed)
    K hK
  unfold wpOp
  rw [ho]
  simp only [Region.wanted, hg, if_true]
  exact .inl h

/-! ### A region whose last operation comes behind all others -/
/-- Each operation ahead of number n is one that a later one, up to n, comes after. -/
def regSink (ops : Array Oper) (n : Nat) : Bool :=
  (List.range n).all fun i => (List.range (n + 1)).any fun j => decide (i < j) && (match ops[j]? with | none => false | some o => o.after.toList.any fun e => Region.binds .any e && e.on == i)

theorem regSink_spec {ops : Array Oper} {n i : Nat} (h : regSink ops n = true) (hi : i < n) : ∃ j o, i < j ∧ j ≤ n ∧ ops[j]? = some o ∧ ∃ e ∈ o.after, Region.binds .any e = true ∧ e.on = i := by
  have h1 := List.all_eq_true.1 h i (List.mem_range.2 hi)
  obtain ⟨j, hj, h2⟩ := List.any_eq_true.1 h1
  simp only [Bool.and_eq_true, decide_eq_true_eq] at h2
  obtain ⟨hij, h3⟩ := h2
  have hjn := List.mem_range.1 hj
  cases ho : ops[j]? with
  | none => simp [ho] at h3
  | some o =>
    simp only [ho] at h3
    obtain ⟨e, he, h4⟩ := List.any_eq_true.1 h3
    simp only [Bool.and_eq_true, beq_iff_eq] at h4
    exact ⟨j, o, hij, by omega, ho, e, Array.mem_toList_iff.1 he, h4.1, h4.2⟩

def Closed (ops : Array Oper) (listed : Array Bool) : Prop := ∀ j o, ops[j]? = some o → listed.getD j false = true → ∀ e ∈ o.after, Region.binds .any e = true → listed.getD e.on false = true

theorem listed_set {listed : Array Bool} {i j : Nat} (h : listed.getD j false = true) : (listed.setIfInBounds i true).getD j false = true := by
  simp only [Array.getD_eq_getD_getElem?, Array.getElem?_setIfInBounds] at h ⊢
  split
  · rename_i e
    split
    · rfl
    · rename_i hs
      subst e
      rw [Array.getElem?_eq_none (by omega)] at h
      simp at h
  · exact h

theorem sink_all {ops : Array Oper} {n : Nat} (hs : regSink ops n = true) {listed : Array Bool} (hc : Closed ops listed) (hlast : ∀ e ∈ (ops.getD n default).after, Region.binds .any e = true → listed.getD e.on false = true) (hn : n < ops.size) :
    ∀ (d i : Nat), n - i = d → i < n → listed.getD i false = true := by
  intro d
  induction d using Nat.strongRecOn with
  | _ d ih =>
    intro i hd hi
    obtain ⟨j, o, hij, hjn, ho, e, he, hb, rfl⟩ := regSink_spec hs hi
    by_cases hjn' : j = n
    · subst hjn'
      have : ops.getD j default = o := by simp [Array.getD_eq_getD_getElem?, ho]
      rw [this] at hlast
      exact hlast e he hb
    · exact hc j o ho (ih (n - j) (by omega) j rfl (by omega)) e he hb

/-- What an operation owes that may be passed over by its guard. -/
def GStep (P : Program) (ops : Array Oper) (Q : Exit → Act → World → Prop) (a : Act) (V : Nat → Value → World → Prop) (I : World → Prop) (le : World → World → Prop) (nw : List Nat) (o : Oper) (ds : List Nat) : Prop :=
  ∀ (a' : Act) (w' : World), I w' → a'.defers = a.defers → (∀ t ∈ nw, a'.tmps.getD t undef = a.tmps.getD t undef) → (∀ d ∈ ds, V d (a'.tmps.getD d undef) w') →
    ∀ K : Act → World → Prop, (∀ (v : Value) (w'' : World), (∀ d, o.dst = some d → V d v w'') → I w'' → le w' w'' → K (a'.put o.dst v) w'') → if Region.wanted o (yielded ops a'.tmps) then o.wp P a' w' K Q else K (a'.put o.dst undef) w'

/-- What the last operation owes: all others have come up. -/
def LastStep (P : Program) (ops : Array Oper) (Q : Exit → Act → World → Prop) (a : Act) (V : Nat → Value → World → Prop) (I : World → Prop) (nw : List Nat) (all : List Nat) (o : Oper) : Prop :=
  ∀ (a' : Act) (w' : World), I w' → a'.tmps.size = a.tmps.size → a'.defers = a.defers → (∀ t ∈ nw, a'.tmps.getD t undef = a.tmps.getD t undef) → (∀ d ∈ all, V d (a'.tmps.getD d undef) w') →
    if Region.wanted o (yielded ops a'.tmps) then o.wp P a' w' (fun a w => Q .normal a w) Q else Q .normal (a'.put o.dst undef) w'

theorem wpAny_last {a : Act} {n : Nat} (hn : a.tmps.size = n) (hok : regOk ops n = true) (m : Nat) (hm : ops.size = m + 1) (hsink : regSink ops m = true)
    (V : Nat → Value → World → Prop) (I : World → Prop) (le : World → World → Prop) (mono : ∀ d v w w', le w w' → V d v w → V d v w')
    (step : ∀ (i : Nat) (o : Oper), i < m → ops[i]? = some o → RegStep P ops Q a V I le i o)
    (last : ∀ (o : Oper), ops[m]? = some o → ∀ (a' : Act) (w' : World), I w' → a'.tmps.size = a.tmps.size → a'.defers = a.defers → (∀ (i : Nat) (p : Oper) (d : Nat), i < m → ops[i]? = some p → p.dst = some d → V d (a'.tmps.getD d undef) w') → (∀ t, (∀ (j : Nat) (p : Oper), ops[j]? = some p → p.dst ≠ some t) → a'.tmps.getD t undef = a.tmps.getD t undef) → wpOp P ops Q m (fun a w => Q .normal a w) a' w') :
    ∀ (fuel : Nat) (listed : Array Bool) (a' : Act) (w' : World), unlisted ops listed ≤ fuel → Closed ops listed → listed.getD m true = false → RegInv ops a V I listed a' w' → wpAny P .any ops Q fuel listed a' w' := by
  intro fuel
  induction fuel with
  | zero =>
    intro listed a' w' hu hcl hml h
    exfalso
    have h1 : 0 < unlisted ops listed := by
      unfold unlisted
      refine List.countP_pos_iff.2 ⟨m, List.mem_range.2 (by omega), by simp [hml]⟩
    omega
  | succ fuel ih =>
    intro listed a' w' hu hcl hml h
    refine ⟨fun hr => ?_, fun i hi => ?_⟩
    · exfalso
      have h1 := all_listed hok h.lsize hr m (by omega)
      have hml2 : listed.getD m false = false := by
        simp only [Array.getD_eq_getD_getElem?] at hml ⊢
        rw [Array.getElem?_eq_getElem (by rw [h.lsize]; omega)] at hml ⊢
        simpa using hml
      rw [hml2] at h1; cases h1
    obtain ⟨hi1, hi2, o, ho, hdeps⟩ := ready_mem.1 hi
    by_cases him : i = m
    · subst him
      have hall := sink_all hsink hcl (by
        have : ops.getD i default = o := by simp [Array.getD_eq_getD_getElem?, ho]
        rw [this]; exact hdeps) (by omega)
      refine wpOp_mono (fun a2 w2 hq => ?_) (last o ho a' w' h.inv h.size h.defers (fun j p d hj hp hd => h.vals j p d hp hd (hall _ j rfl hj)) h.rest)
      have hfin : Region.ready .any ops (listed.setIfInBounds i true) = [] := by
        cases hr : Region.ready .any ops (listed.setIfInBounds i true) with
        | nil => rfl
        | cons k r =>
          exfalso
          have hk : k ∈ Region.ready .any ops (listed.setIfInBounds i true) := by rw [hr]; exact List.mem_cons_self
          obtain ⟨hk1, hk2, _⟩ := ready_mem.1 hk
          by_cases hki : i = k
          · subst hki
            simp [Array.getD_eq_getD_getElem?, h.lsize, hi1] at hk2
          · have h2 := hall _ k rfl (by omega)
            have h3 := listed_set (i := i) h2
            simp only [Array.getD_eq_getD_getElem?] at h3 hk2
            rw [Array.getElem?_eq_getElem (by simp [h.lsize]; exact hk1)] at h3 hk2
            simp only [Option.getD_some] at h3 hk2
            rw [h3] at hk2; cases hk2
      cases fuel with
      | zero => exact ⟨hfin, hq⟩
      | succ f => exact ⟨fun _ => hq, fun k hk => by rw [hfin] at hk; cases hk⟩
    · have him' : i < m := by omega
      refine step i o him' ho a' w' h.inv h.size h.defers h.rest (fun e he hb p d hp hd => h.vals e.on p d hp hd (hdeps e he hb)) _ fun v w'' hv hI hle => ?_
      have hpres : RegInv ops a V I (listed.setIfInBounds i true) (a'.put o.dst v) w'' := by
        refine ⟨?_, ?_, hI, by simp [h.lsize], ?_, ?_⟩
        · cases hd : o.dst <;> simp [Act.put, h.size]
        · cases hd : o.dst <;> simp [Act.put, h.defers]
        · intro j p d hp hd hl
          by_cases hij : i = j
          · subst hij
            rw [ho] at hp
            obtain rfl := Option.some.inj hp
            have hlt := (regOk_dst hok ho hd).1
            have := hv d hd
            simpa [Act.put, hd, Array.getD_eq_getD_getElem?, Array.getElem?_setIfInBounds, h.size, hn, hlt] using this
          · have hl' : listed.getD j false = true := by
              simpa [Array.getD_eq_getD_getElem?, Array.getElem?_setIfInBounds, hij] using hl
            have hvj := mono d _ _ _ hle (h.vals j p d hp hd hl')
            have hne : o.dst ≠ some d := fun e => hij ((regOk_dst hok hp hd).2 i o ho e)
            cases hod : o.dst with
            | none => simpa [Act.put, hod] using hvj
            | some d' =>
              have hdd : d' ≠ d := fun e => hne (by rw [hod, e])
              simpa [Act.put, hod, Array.getD_eq_getD_getElem?, Array.getElem?_setIfInBounds, hdd] using hvj
        · intro t ht
          have hne : o.dst ≠ some t := ht i o ho
          rw [← h.rest t ht]
          cases hod : o.dst with
          | none => rfl
          | some d' =>
            have hdd : d' ≠ t := fun e => hne (by rw [hod, e])
            simp [Act.put, Array.getD_eq_getD_getElem?, hdd]
      refine ih _ _ _ (by have := unlisted_set h.lsize hi1 hi2; omega) ?_ ?_ hpres
      · intro j p hp hl e he hb
        by_cases hij : i = j
        · subst hij
          rw [ho] at hp
          obtain rfl := Option.some.inj hp
          exact listed_set (hdeps e he hb)
        · refine listed_set (hcl j p hp ?_ e he hb)
          simpa [Array.getD_eq_getD_getElem?, Array.getElem?_setIfInBounds, hij] using hl
      · simpa [Array.getD_eq_getD_getElem?, Array.getElem?_setIfInBounds, him] using hml

theorem wp_region_last {id : Nat} {a : Act} {w : World} (hmx : P.follows .mixedOrders = true) {n : Nat} (hn : a.tmps.size = n) (hok : regOk ops n = true) (m : Nat) (hm : ops.size = m + 1) (hsink : regSink ops m = true)
    (L : List (List Nat)) (hL : (regDeps ops).take m = L) (nw : List Nat) (hnw : nw.all (notIn ops) = true) (all : List Nat) (hall : all = (ops.toList.take m).filterMap (·.dst)) (o : Oper) (ho : ops[m]? = some o)
    (V : Nat → Value → World → Prop) (I : World → Prop) (le : World → World → Prop)
    (mono : ∀ d v w w', le w w' → V d v w → V d v w') (hI : I w.drew)
    (step : AllSteps (GStep P ops Q a V I le nw) (ops.toList.take m) L)
    (last : LastStep P ops Q a V I nw all o) :
    (Code.region id ops true).wp P Q a w := by
  have hrestOf : ∀ (a' : Act), (∀ t, (∀ (j : Nat) (p : Oper), ops[j]? = some p → p.dst ≠ some t) → a'.tmps.getD t undef = a.tmps.getD t undef) → ∀ t ∈ nw, a'.tmps.getD t undef = a.tmps.getD t undef := fun a' hrest t ht => hrest t fun j p hp he => by
    have h1 := List.all_eq_true.1 hnw t ht
    have h2 := List.all_eq_true.1 h1 p (List.mem_of_getElem? (show ops.toList[j]? = some p by simpa using hp))
    simp [he] at h2
  refine wp_region_any hmx ?_
  refine wpAny_last hn hok m hm hsink V I le mono (fun i o him ho a' w' hI' hs hd hrest hdeps K hK => ?_) (fun o' ho' a' w' hI' hs hd hv hrest => ?_) ops.size _ a w.drew ?_ ?_ ?_ ⟨rfl, rfl, hI, by simp, ?_, fun _ _ => rfl⟩
  · have hot : (ops.toList.take m)[i]? = some o := by rw [List.getElem?_take, if_pos (by assumption)]; simpa using ho
    have hot2 : ops.toList[i]? = some o := by simpa using ho
    have hds : L[i]? = some (o.after.toList.filterMap fun e => if Region.binds .any e then (ops[e.on]?).bind (·.dst) else none) := by
      rw [← hL]; unfold regDeps; rw [List.getElem?_take, if_pos (by assumption), List.getElem?_map, hot2]; rfl
    have h := AllSteps.get _ _ step i o _ hot hds a' w' hI' hd (hrestOf a' hrest)
      (fun d hd => by
        obtain ⟨e, he, hed⟩ := List.mem_filterMap.1 hd
        by_cases hb : Region.binds .any e = true
        · rw [if_pos hb] at hed
          obtain ⟨p, hp, hpd⟩ := Option.bind_eq_some_iff.1 hed
          exact hdeps e (Array.mem_toList_iff.1 he) hb p d hp hpd
        · rw [if_neg hb] at hed; cases hed)
      K hK
    unfold wpOp
    rw [ho]
    by_cases hwt : Region.wanted o (yielded ops a'.tmps) = true
    · simp only [hwt, if_true] at h ⊢; exact .inl h
    · simp only [hwt] at h ⊢; exact h
  · rw [ho] at ho'
    obtain rfl := Option.some.inj ho'
    have h := last a' w' hI' hs hd (hrestOf a' hrest) (fun d hdm => by
      rw [hall] at hdm
      obtain ⟨p, hp, hpd⟩ := List.mem_filterMap.1 hdm
      obtain ⟨i, hi, hpi⟩ := List.getElem_of_mem hp
      have him : i < m := by simp at hi; omega
      have hop : ops[i]? = some p := by
        have : (ops.toList.take m)[i]? = some p := by rw [List.getElem?_eq_getElem hi, hpi]
        rw [List.getElem?_take, if_pos him] at this
        simpa using this
      exact hv i p d him hop hpd)
    unfold wpOp
    rw [ho]
    by_cases hwt : Region.wanted o (yielded ops a'.tmps) = true
    · simp only [hwt, if_true] at h ⊢; exact .inl h
    · simp only [hwt] at h ⊢; exact h
  · unfold unlisted
    exact Nat.le_trans (List.countP_le_length) (by simp)
  · intro j p hp hl
    exfalso
    have hj : j < ops.size := (Array.getElem?_eq_some_iff.1 hp).1
    simp [Array.getD_eq_getD_getElem?, hj] at hl
  · simp [Array.getD_eq_getD_getElem?, hm]
  · intro i o d ho hd hl
    exfalso
    have hi : i < ops.size := (Array.getElem?_eq_some_iff.1 ho).1
    simp [Array.getD_eq_getD_getElem?, hi] at hl

end Go.Proofs.YtbcepdacfmbekaaDoor
