/-
  A rule for a region that draws its order and holds operations that write: what holds of the world may hang on which operations have come up (S, by the operation's number). The last operation comes behind all others.
-/
import Derived.Test.YtbcepdacfmbekaaDoorKReg2
namespace Go.Proofs.YtbcepdacfmbekaaDoor
open Go.RowKit

variable {P : Program} {ops : Array Oper} {Q : Exit → Act → World → Prop}

abbrev upS (S : Nat → Bool) (i : Nat) : Nat → Bool := fun j => if j = i then true else S j
def listS (listed : Array Bool) : Nat → Bool := fun j => listed.getD j false

theorem listS_set {listed : Array Bool} {i : Nat} (hi : i < listed.size) : listS (listed.setIfInBounds i true) = upS (listS listed) i := by
  funext j
  unfold listS upS
  by_cases h : j = i
  · subst h
    simp [Array.getD_eq_getD_getElem?, hi]
  · have h2 : ¬ i = j := fun e => h e.symm
    simp [Array.getD_eq_getD_getElem?, h, h2]

structure RegInvS (ops : Array Oper) (a : Act) (V : Nat → Value → World → Prop) (I : (Nat → Bool) → World → Prop) (listed : Array Bool) (a' : Act) (w' : World) : Prop where
  size : a'.tmps.size = a.tmps.size
  defers : a'.defers = a.defers
  inv : I (listS listed) w'
  lsize : listed.size = ops.size
  vals : ∀ (i : Nat) (o : Oper) (d : Nat), ops[i]? = some o → o.dst = some d → listed.getD i false = true → V d (a'.tmps.getD d undef) w'
  rest : ∀ t, (∀ (i : Nat) (o : Oper), ops[i]? = some o → o.dst ≠ some t) → a'.tmps.getD t undef = a.tmps.getD t undef

/-- What operation i owes. -/
def RegStepS (P : Program) (ops : Array Oper) (Q : Exit → Act → World → Prop) (a : Act) (V : Nat → Value → World → Prop) (I : (Nat → Bool) → World → Prop) (i : Nat) (o : Oper) : Prop :=
  ∀ (S : Nat → Bool) (a' : Act) (w' : World), S i = false → I S w' → a'.tmps.size = a.tmps.size → a'.defers = a.defers →
    (∀ t, (∀ (j : Nat) (p : Oper), ops[j]? = some p → p.dst ≠ some t) → a'.tmps.getD t undef = a.tmps.getD t undef) →
    (∀ e ∈ o.after, Region.binds .any e = true → ∀ (p : Oper) (d : Nat), ops[e.on]? = some p → p.dst = some d → V d (a'.tmps.getD d undef) w') →
    ∀ K : Act → World → Prop, (∀ (v : Value) (w'' : World), (∀ d, o.dst = some d → V d v w'') → I (upS S i) w'' → (∀ d v, o.dst ≠ some d → V d v w' → V d v w'') → K (a'.put o.dst v) w'') → wpOp P ops Q i K a' w'

theorem wpAny_lastS {a : Act} {n : Nat} (hn : a.tmps.size = n) (hok : regOk ops n = true) (m : Nat) (hm : ops.size = m + 1) (hsink : regSink ops m = true)
    (V : Nat → Value → World → Prop) (I : (Nat → Bool) → World → Prop)
    (step : ∀ (i : Nat) (o : Oper), i < m → ops[i]? = some o → RegStepS P ops Q a V I i o)
    (last : ∀ (o : Oper), ops[m]? = some o → ∀ (S : Nat → Bool) (a' : Act) (w' : World), (∀ i, i < m → S i = true) → I S w' → a'.tmps.size = a.tmps.size → a'.defers = a.defers → (∀ (i : Nat) (p : Oper) (d : Nat), i < m → ops[i]? = some p → p.dst = some d → V d (a'.tmps.getD d undef) w') → (∀ t, (∀ (j : Nat) (p : Oper), ops[j]? = some p → p.dst ≠ some t) → a'.tmps.getD t undef = a.tmps.getD t undef) → wpOp P ops Q m (fun a w => Q .normal a w) a' w') :
    ∀ (fuel : Nat) (listed : Array Bool) (a' : Act) (w' : World), unlisted ops listed ≤ fuel → Closed ops listed → listed.getD m true = false → RegInvS ops a V I listed a' w' → wpAny P .any ops Q fuel listed a' w' := by
  intro fuel
  induction fuel with
  | zero =>
    intro listed a' w' hu hcl hml h
    exfalso
    have h1 : 0 < unlisted ops listed := by
      unfold unlisted
      refine List.countP_pos_iff.2 ⟨m, List.mem_range.2 (by omega), by simp [hml]⟩
    omega
  | succ fuel ih =>
    intro listed a' w' hu hcl hml h
    refine ⟨fun hr => ?_, fun i hi => ?_⟩
    · exfalso
      have h1 := all_listed hok h.lsize hr m (by omega)
      have hml2 : listed.getD m false = false := by
        simp only [Array.getD_eq_getD_getElem?] at hml ⊢
        rw [Array.getElem?_eq_getElem (by rw [h.lsize]; omega)] at hml ⊢
        simpa using hml
      rw [hml2] at h1; cases h1
    obtain ⟨hi1, hi2, o, ho, hdeps⟩ := ready_mem.1 hi
    by_cases him : i = m
    · subst him
      have hall := sink_all hsink hcl (by
        have : ops.getD i default = o := by simp [Array.getD_eq_getD_getElem?, ho]
        rw [this]; exact hdeps) (by omega)
      refine wpOp_mono (fun a2 w2 hq => ?_) (last o ho (listS listed) a' w' (fun j hj => hall _ j rfl hj) h.inv h.size h.defers (fun j p d hj hp hd => h.vals j p d hp hd (hall _ j rfl hj)) h.rest)
      have hfin : Region.ready .any ops (listed.setIfInBounds i true) = [] := by
        cases hr : Region.ready .any ops (listed.setIfInBounds i true) with
        | nil => rfl
        | cons k r =>
          exfalso
          have hk : k ∈ Region.ready .any ops (listed.setIfInBounds i true) := by rw [hr]; exact List.mem_cons_self
          obtain ⟨hk1, hk2, _⟩ := ready_mem.1 hk
          by_cases hki : i = k
          · subst hki
            simp [Array.getD_eq_getD_getElem?, h.lsize, hi1] at hk2
          · have h2 := hall _ k rfl (by omega)
            have h3 := listed_set (i := i) h2
            simp only [Array.getD_eq_getD_getElem?] at h3 hk2
            rw [Array.getElem?_eq_getElem (by simp [h.lsize]; exact hk1)] at h3 hk2
            simp only [Option.getD_some] at h3 hk2
            rw [h3] at hk2; cases hk2
      cases fuel with
      | zero => exact ⟨hfin, hq⟩
      | succ f => exact ⟨fun _ => hq, fun k hk => by rw [hfin] at hk; cases hk⟩
    · have him' : i < m := by omega
      have hi2' : listS listed i = false := by
        unfold listS
        simp only [Array.getD_eq_getD_getElem?] at hi2 ⊢
        rw [Array.getElem?_eq_getElem (by rw [h.lsize]; exact hi1)] at hi2 ⊢
        simpa using hi2
      refine step i o him' ho (listS listed) a' w' hi2' h.inv h.size h.defers h.rest (fun e he hb p d hp hd => h.vals e.on p d hp hd (hdeps e he hb)) _ fun v w'' hv hI hle => ?_
      have hpres : RegInvS ops a V I (listed.setIfInBounds i true) (a'.put o.dst v) w'' := by
        refine ⟨?_, ?_, by rw [listS_set (by rw [h.lsize]; exact hi1)]; exact hI, by simp [h.lsize], ?_, ?_⟩
        · cases hd : o.dst <;> simp [Act.put, h.size]
        · cases hd : o.dst <;> simp [Act.put, h.defers]
        · intro j p d hp hd hl
          by_cases hij : i = j
          · subst hij
            rw [ho] at hp
            obtain rfl := Option.some.inj hp
            have hlt := (regOk_dst hok ho hd).1
            have := hv d hd
            simpa [Act.put, hd, Array.getD_eq_getD_getElem?, Array.getElem?_setIfInBounds, h.size, hn, hlt] using this
          · have hl' : listed.getD j false = true := by
              simpa [Array.getD_eq_getD_getElem?, Array.getElem?_setIfInBounds, hij] using hl
            have hne : o.dst ≠ some d := fun e => hij ((regOk_dst hok hp hd).2 i o ho e)
            have hvj := hle d _ hne (h.vals j p d hp hd hl')
            cases hod : o.dst with
            | none => simpa [Act.put, hod] using hvj
            | some d' =>
              have hdd : d' ≠ d := fun e => hne (by rw [hod, e])
              simpa [Act.put, hod, Array.getD_eq_getD_getElem?, Array.getElem?_setIfInBounds, hdd] using hvj
        · intro t ht
          have hne : o.dst ≠ some t := ht i o ho
          rw [← h.rest t ht]
          cases hod : o.dst with
          | none => rfl
          | some d' =>
            have hdd : d' ≠ t := fun e => hne (by rw [hod, e])
            simp [Act.put, Array.getD_eq_getD_getElem?, hdd]
      refine ih _ _ _ (by have := unlisted_set h.lsize hi1 hi2; omega) ?_ ?_ hpres
      · intro j p hp hl e he hb
        by_cases hij : i = j
        · subst hij
          rw [ho] at hp
          obtain rfl := Option.some.inj hp
          exact listed_set (hdeps e he hb)
        · refine listed_set (hcl j p hp ?_ e he hb)
          simpa [Array.getD_eq_getD_getElem?, Array.getElem?_setIfInBounds, hij] using hl
      · simpa [Array.getD_eq_getD_getElem?, Array.getElem?_setIfInBounds, him] using hml

/-- What operation number i owes, its own text and the slots of those that it comes after at hand. -/
def SStep (P : Program) (ops : Array Oper) (Q : Exit → Act → World → Prop) (a : Act) (V : Nat → Value → World → Prop) (I : (Nat → Bool) → World → Prop) (nw : List Nat) (i : Nat) (o : Oper) (ds : List Nat) : Prop :=
  ∀ (S : Nat → Bool) (a' : Act) (w' : World), S i = false → I S w' → a'.defers = a.defers → (∀ t ∈ nw, a'.tmps.getD t undef = a.tmps.getD t undef) → (∀ d ∈ ds, V d (a'.tmps.getD d undef) w') →
    ∀ K : Act → World → Prop, (∀ (v : Value) (w'' : World), (∀ d, o.dst = some d → V d v w'') → I (upS S i) w'' → (∀ d v, o.dst ≠ some d → V d v w' → V d v w'') → K (a'.put o.dst v) w'') → if Region.wanted o (yielded ops a'.tmps) then o.wp P a' w' K Q else K (a'.put o.dst undef) w'

def AllStepsS (S : Nat → Oper → List Nat → Prop) : Nat → List Oper → List (List Nat) → Prop
  | k, o :: r, ds :: l => S k o ds ∧ AllStepsS S (k + 1) r l
  | _, _, _ => True

theorem AllStepsS.get {S : Nat → Oper → List Nat → Prop} (os : List Oper) : ∀ (k : Nat) (l : List (List Nat)), AllStepsS S k os l → ∀ (i : Nat) (o : Oper) (ds : List Nat), os[i]? = some o → l[i]? = some ds → S (k + i) o ds := by
  induction os with
  | nil => intro k l h i o ds ho hd; simp at ho
  | cons x r ih =>
    intro k l h i o ds ho hd
    cases l with
    | nil => simp at hd
    | cons y t =>
      unfold AllStepsS at h
      cases i with
      | zero =>
        rw [List.getElem?_cons_zero] at ho hd
        obtain rfl := Option.some.inj ho
        obtain rfl := Option.some.inj hd
        exact h.1
      | succ i =>
        rw [List.getElem?_cons_succ] at ho hd
        have := ih (k + 1) t h.2 i o ds ho hd
        rwa [show k + 1 + i = k + (i + 1) by omega] at this

theorem go_wanted {o : Oper} {a : Act} {w : World} {K : Act → World → Prop} {R : Prop} {ts : Nat → Option Bool} (hg : o.guard = none) (h : o.wp P a w K Q) : (if Region.wanted o ts then o.wp P a w K Q else R) := by
  have hw : Region.wanted o ts = true := by simp [Region.wanted, hg]
  rw [if_pos hw]; exact h
theorem AllStepsS.cons {S : Nat → Oper → List Nat → Prop} {k : Nat} {o : Oper} {ds : List Nat} {r : List Oper} {l : List (List Nat)} (h : S k o ds) (h' : AllStepsS S (k + 1) r l) : AllStepsS S k (o :: r) (ds :: l) := ⟨h, h'⟩
theorem AllStepsS.nil {S : Nat → Oper → List Nat → Prop} {k : Nat} {l : List (List Nat)} : AllStepsS S k [] l := trivial

theorem wp_region_eff {id : Nat} {a : Act} {w : World} (hmx : P.follows .mixedOrders = true) {n : Nat} (hn : a.tmps.size = n) (hok : regOk ops n = true) (m : Nat) (hm : ops.size = m + 1) (hsink : regSink ops m = true)
    (L : List (List Nat)) (hL : regDeps ops = L) (nw : List Nat) (hnw : nw.all (notIn ops) = true) (D : List Nat) (hD : (ops.toList.take m).filterMap (·.dst) = D) (o : Oper) (ho : ops[m]? = some o) (E : List Nat) (hE : o.dst.toList = E)
    (V : Nat → Value → World → Prop) (I : (Nat → Bool) → World → Prop)
    (hI : I (fun _ => false) w.drew)
    (step : AllStepsS (fun i o ds => i < m → SStep P ops Q a V I nw i o ds) 0 ops.toList L)
    (last : ∀ (S : Nat → Bool) (f : Nat → Value) (w' : World), (∀ i, i < m → S i = true) → I S w' → (∀ d ∈ D, V d (f d) w') → LastOp P ops Q a o (D ++ E) f w') :
    (Code.region id ops true).wp P Q a w := by
  refine wp_region_any hmx ?_
  refine wpAny_lastS hn hok m hm hsink V I (fun i o' him ho' S a' w' hS hI' hs hd hrest hdeps K hK => ?_) (fun o' ho' S a' w' hall hI' hs hd hv hrest => ?_) ops.size _ a w.drew ?_ ?_ ?_ ⟨rfl, rfl, ?_, by simp, ?_, fun _ _ => rfl⟩
  · have hot2 : ops.toList[i]? = some o' := by simpa using ho'
    have hds : L[i]? = some (o'.after.toList.filterMap fun e => if Region.binds .any e then (ops[e.on]?).bind (·.dst) else none) := by
      rw [← hL]; unfold regDeps; rw [List.getElem?_map, hot2]; rfl
    have h := AllStepsS.get _ _ _ step i o' _ hot2 hds
    rw [Nat.zero_add] at h
    have h := h him S a' w' hS hI' hd
      (fun t ht => hrest t fun j p hp he => by
        have h1 := List.all_eq_true.1 hnw t ht
        have h2 := List.all_eq_true.1 h1 p (List.mem_of_getElem? (show ops.toList[j]? = some p by simpa using hp))
        simp [he] at h2)
      (fun d hd => by
        obtain ⟨e, he, hed⟩ := List.mem_filterMap.1 hd
        by_cases hb : Region.binds .any e = true
        · rw [if_pos hb] at hed
          obtain ⟨p, hp, hpd⟩ := Option.bind_eq_some_iff.1 hed
          exact hdeps e (Array.mem_toList_iff.1 he) hb p d hp hpd
        · rw [if_neg hb] at hed; cases hed)
      K hK
    unfold wpOp
    rw [ho']
    by_cases hwt : Region.wanted o' (yielded ops a'.tmps) = true
    · simp only [hwt, if_true] at h ⊢; exact .inl h
    · simp only [hwt] at h ⊢; exact h
  · rw [ho] at ho'
    obtain rfl := Option.some.inj ho'
    have e : a' = { a with tmps := putMany a.tmps (fun d => a'.tmps.getD d undef) (D ++ E) } := by
      have := arr_putMany hs (D ++ E) (fun i hi1 hi2 => hrest i (fun j p hp he => by
        by_cases hjm : j < m
        · refine hi2 (List.mem_append_left _ ?_)
          rw [← hD]
          refine List.mem_filterMap.2 ⟨p, ?_, he⟩
          rw [List.mem_iff_getElem?]
          exact ⟨j, by rw [List.getElem?_take, if_pos hjm]; simpa using hp⟩
        · have hlt := (Array.getElem?_eq_some_iff.1 hp).1
          have hjm2 : j = m := by omega
          subst hjm2
          rw [ho] at hp
          obtain rfl := Option.some.inj hp
          refine hi2 (List.mem_append_right _ ?_)
          rw [← hE, he]; simp))
      rw [← this]
      cases a'
      simp only at hd ⊢
      rw [hd]
    have h := last S (fun d => a'.tmps.getD d undef) w' hall hI' (fun d hdm => by
      rw [← hD] at hdm
      obtain ⟨p, hp, hpd⟩ := List.mem_filterMap.1 hdm
      obtain ⟨i, hi, hpi⟩ := List.getElem_of_mem hp
      have him : i < m := by simp at hi; omega
      have hop : ops[i]? = some p := by
        have : (ops.toList.take m)[i]? = some p := by rw [List.getElem?_eq_getElem hi, hpi]
        rw [List.getElem?_take, if_pos him] at this
        simpa using this
      exact hv i p d him hop hpd)
    replace h := h.out
    unfold wpOp
    rw [ho]
    rw [e]
    generalize hx : putMany a.tmps (fun d => a'.tmps.getD d undef) (D ++ E) = x at h
    by_cases hwt : Region.wanted o (yielded ops x) = true
    · simp only [hwt, if_true] at h ⊢; exact .inl h
    · simp only [hwt] at h ⊢; exact h
  · unfold unlisted
    exact Nat.le_trans (List.countP_le_length) (by simp)
  · intro j p hp hl
    exfalso
    have hj : j < ops.size := (Array.getElem?_eq_some_iff.1 hp).1
    simp [Array.getD_eq_getD_getElem?, hj] at hl
  · simp [Array.getD_eq_getD_getElem?, hm]
  · have e : listS (Array.replicate ops.size false) = fun _ => false := by
      funext j
      unfold listS
      simp only [Array.getD_eq_getD_getElem?, Array.getElem?_replicate]
      split <;> rfl
    rw [e]; exact hI
  · intro i o d ho hd hl
    exfalso
    have hi : i < ops.size := (Array.getElem?_eq_some_iff.1 ho).1
    simp [Array.getD_eq_getD_getElem?, hi] at hl

end Go.Proofs.YtbcepdacfmbekaaDoor
