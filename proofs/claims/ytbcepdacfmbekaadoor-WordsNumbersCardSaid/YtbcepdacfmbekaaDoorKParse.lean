/-
  The walk of words.Parse.
-/
import Derived.Test.YtbcepdacfmbekaaDoorKStep
import Derived.Test.YtbcepdacfmbekaaDoorKSplit
import Derived.RegionTactic
import Derived.ChangeAlike
namespace Go.Proofs.YtbcepdacfmbekaaDoor
open Go.RowKit

set_option maxHeartbeats 1000000 in
set_option maxRecDepth 100000 in
theorem parse_catch (bs bf : Nat) (x n : Int) (v : Value) (a b c : Int) (older : List PanicEntry) (w : World) (hs : Blk w bs #[.int .i64 a, .int .i64 b, .int .i64 c, v] 42) (hf : Blk w bf #[.int .i64 x] 25) (hne : bs ≠ bf) :
    CallsD Tryd.prog 79 #[.pointer (some ⟨bs, 0, none⟩), .pointer (some ⟨bf, 0, none⟩)] (.panicking ({ v := .iface 25 (.int .i64 n), recovered := false } :: older)) w fun e u' w' =>
      e = .returned (.tuple #[]) ∧ u' = .panicking ({ v := .iface 25 (.int .i64 n), recovered := true } :: older) ∧ w' = (((((w.setCell ⟨bs, 0, none⟩ (.int .i64 0)).setCell ⟨bs, 1, none⟩ (.int .i64 0)).setCell ⟨bs, 2, none⟩ (.int .i64 0)).setCell ⟨bs, 3, none⟩ (.slice none 0 0)).setCell ⟨bf, 0, none⟩ (.int .i64 n)).drew := by
  have hta : ∀ (W : World), (Instr.typeAssert (.iface 25 (.int .i64 n)) 20 25 false).run Tryd.prog W = .ok (.int .i64 n) W := fun W => by kernel_rfl
  refine callsD_of_wpS Tryd.func79 rfl fun c₀ cs' hu => ?_
  apply wpS_seq
  apply wpS_region
  simp [wpOpsS, go_sem, recoverD, hu, Tryd.ntmps79, Exit.thenS]
  apply wpS_seq
  apply wpS_region
  simp [wpOpsS, go_sem, Exit.thenS]
  refine wpS_cond (t := true) (by simp [Act.eval, Array.replicate]) ?_
  simp only [if_true]
  refine wpS_of_wp ?_
  have c0 := hs.cell 0
  have c1 := hs.cell 1
  have c2 := hs.cell 2
  have c3 := hs.cell 3
  have cf := hf.cell 0
  have z0 := hs.frozen 0
  have z1 := hs.frozen 1
  have z2 := hs.frozen 2
  have z3 := hs.frozen 3
  have zf := hf.frozen 0
  clear hs hf
  go_region
  all_goals simp [bodyPostS, results, Tryd.results79]

theorem parse_idle (bs bf : Nat) (w : World) :
    CallsD Tryd.prog 79 #[.pointer (some ⟨bs, 0, none⟩), .pointer (some ⟨bf, 0, none⟩)] .returning w fun e u' w' => e = .returned (.tuple #[]) ∧ u' = .returning ∧ w' = w := by
  refine callsD_of_wpS Tryd.func79 rfl fun c₀ cs hu => ?_
  apply wpS_seq
  apply wpS_region
  simp [wpOpsS, go_sem, recoverD, hu, Tryd.ntmps79, Exit.thenS]
  apply wpS_seq
  apply wpS_region
  simp [wpOpsS, go_sem, Exit.thenS]
  refine wpS_cond (t := false) (by simp [Act.eval, Array.replicate]) ?_
  simp only [Bool.false_eq_true, if_false]
  refine wpS_of_wp (wp_skip ?_)
  cases c₀
  simp_all [bodyPostS, results, Tryd.results79]

/-- What comes of Split: the words. -/
def SplPost (l : List UInt8) (w : World) (e : Ending) (w' : World) : Prop := ∃ v, e = .returned v ∧ Below w.heap.size w w' ∧ Sl w' (fun _ => True) v (strCells (Pl.split l))
theorem words_Split (s : ByteArray) (w : World) (hE : Env w) (hs : s.size < 4294967281) : Calls Tryd.prog 31 #[.string s] w (SplPost s.data.toList w) := by
  obtain ⟨l, hl⟩ : ∃ l, l = s.data.toList := ⟨_, rfl⟩
  have hsl : s = ⟨l.toArray⟩ := by rw [hl]
  cases l with
  | nil =>
    subst hsl
    exact (words_Split_nil w).mono fun e w' ⟨h1, h2⟩ => ⟨_, h1, by rw [h2]; exact Below.refl _ _, Sl.nil _ _⟩
  | cons a r =>
    refine (words_Split_some s w hE hs (by rw [Lib.toList_data, ← hl]; rfl)).mono fun e w' ⟨h1, h2⟩ => ?_
    have e : Pl.split s.data.toList = Pl.splitC 32 s.data.toList := by rw [← hl]; rfl
    refine ⟨_, h1, by rw [h2]; exact (Below.refl _ _).alloc (Nat.le_refl _) _, .inr ⟨w.heap.size, 0, (Pl.splitC 32 s.data.toList).length, by rw [e]; simp [strCells], by rw [e]; simp [strCells], trivial, by rw [h2]; simp, fun j x hx => ?_⟩⟩
    rw [e] at hx
    rw [h2, Nat.zero_add, World.cell?_alloc_new]
    simpa [strCells] using hx

/-- The step of a line; none: it is none. -/
def Pl.parse (l : List UInt8) : Option Pl.St := Pl.stepOf (Pl.split l)
def ParsePost (l : List UInt8) (w : World) (e : Ending) (w' : World) : Prop := Below w.heap.size w w' ∧ match Pl.parse l with
  | some s => ∃ v, e = .returned (.tuple #[.agg (stepArr s.kind s.sym s.n v), .int .i64 0]) ∧ w'.ownsRow w.heap.size 5 1 v s.frame.length (byteCells s.frame)
  | none => e = .returned (.tuple #[.agg (stepArr 0 0 0 (.slice none 0 0)), .int .i64 4])
theorem ParsePost.no {l : List UInt8} {w w' : World} (h : Pl.parse l = none) (hb : Below w.heap.size w w') : ParsePost l w (.returned (.tuple #[.agg (stepArr 0 0 0 (.slice none 0 0)), .int .i64 4])) w' := by
  unfold ParsePost; rw [h]; exact ⟨hb, rfl⟩
theorem ParsePost.yes {l : List UInt8} {w w' : World} {s : Pl.St} {v : Value} (h : Pl.parse l = some s) (hb : Below w.heap.size w w') (ho : w'.ownsRow w.heap.size 5 1 v s.frame.length (byteCells s.frame)) : ParsePost l w (.returned (.tuple #[.agg (stepArr s.kind s.sym s.n v), .int .i64 0])) w' := by
  unfold ParsePost; rw [h]; exact ⟨hb, v, rfl, ho⟩

set_option maxHeartbeats 1000000 in
set_option maxRecDepth 100000 in
theorem words_Parse (s : ByteArray) (w : World) (hE : Env w) (hs : s.size < 1000000) : Calls Tryd.prog 26 #[.string s] w (ParsePost s.data.toList w) := by
  have hmf : ∀ (fn : Fn) (first cap : Array Value) (w : World), (Instr.makeFunc fn first cap).run Tryd.prog w = .ok (.func fn first cap) w := fun _ _ _ _ => rfl
  have HN := Lib.hid (fun w' => @ParsePost.no s.data.toList w w')
  have HY := Lib.hid (fun w' => @ParsePost.yes s.data.toList w w')
  have HB0 : Hid (Below w.heap.size w ((w.alloc (.cells #[.int .i64 0, .int .i64 0, .int .i64 0, .slice none 0 0] 42)).alloc (.cells #[.int .i64 0] 25))) := ((Below.refl _ _).alloc (Nat.le_refl _) _).alloc (by simp) _
  have HC := Lib.hid (words_Split s ((w.alloc (.cells #[.int .i64 0, .int .i64 0, .int .i64 0, .slice none 0 0] 42)).alloc (.cells #[.int .i64 0] 25)) (hE.below (Nat.le_refl _) HB0.out) (by omega))
  have HS0 : Hid (Blk ((w.alloc (.cells #[.int .i64 0, .int .i64 0, .int .i64 0, .slice none 0 0] 42)).alloc (.cells #[.int .i64 0] 25)) w.heap.size #[.int .i64 0, .int .i64 0, .int .i64 0, .slice none 0 0] 42) := (Blk.alloc (w := w) _ _).grown (r := none) (by simp) (World.grownBy_alloc _ _ _)
  have HF0 : Hid (Blk ((w.alloc (.cells #[.int .i64 0, .int .i64 0, .int .i64 0, .slice none 0 0] 42)).alloc (.cells #[.int .i64 0] 25)) (w.heap.size + 1) #[.int .i64 0] 25) := by
    have := Blk.alloc (w := w.alloc (.cells #[.int .i64 0, .int .i64 0, .int .i64 0, .slice none 0 0] 42)) #[.int .i64 0] 25
    rw [World.size_alloc] at this; exact this
  have hsz0 : ((w.alloc (.cells #[.int .i64 0, .int .i64 0, .int .i64 0, .slice none 0 0] 42)).alloc (.cells #[.int .i64 0] 25)).heap.size = w.heap.size + 2 := by simp
  clear hE
  go_enter_defers Tryd.func26, Tryd.ntmps26
  go_wp2_with fail
  generalize (w.alloc (.cells #[.int .i64 0, .int .i64 0, .int .i64 0, .slice none 0 0] 42)).alloc (.cells #[.int .i64 0] 25) = w0 at *
  refine HC.out.mono ?_
  rintro e w1 ⟨v, rfl, hb1, hsl⟩
  have HB1 := Lib.hid (HB0.out.trans (hb1.mono (by omega)))
  have hsz1 : w0.heap.size ≤ w1.heap.size := hb1.size
  have HR1 : Hid (Rdr w1.heap.size (w1.alloc (.cells #[v] 119)) w1.heap.size (Pl.split s.data.toList)) := by
    refine ⟨v, Blk.alloc _ _, ?_, ?_, fun x hx => ?_⟩
    · rcases hsl with h | ⟨g, o, c, h1, h2, _, h4, h5⟩
      · exact .inl h
      · refine .inr ⟨g, o, c, h1, h2, ⟨by omega, h4⟩, by rw [World.size_alloc]; omega, fun j x hx => ?_⟩
        exact ((World.grownBy_alloc w1 _ none).cell_far ⟨g, o + j, none⟩ h4 (by simp)).trans (h5 j x hx)
    · have h1 : (Pl.split s.data.toList).length ≤ s.data.toList.length + 1 := by
        unfold Pl.split
        split
        · simp
        · rw [Pl.splitC_length]; have := List.count_le_length (a := (32 : UInt8)) (l := s.data.toList); omega
      have h2 : s.data.toList.length = s.size := Array.length_toList
      omega
    · have h1 := Pl.split_le _ x hx
      have h2 : s.data.toList.length = s.size := Array.length_toList
      omega
  have HC2 := Lib.hid (reader_step w1.heap.size (Pl.split s.data.toList) _ HR1.out (by simp))
  have HSB : Hid (Blk (w1.alloc (.cells #[v] 119)) w.heap.size #[.int .i64 0, .int .i64 0, .int .i64 0, .slice none 0 0] 42) := (HS0.out.below (by omega) hb1).grown (r := none) (by simp) (World.grownBy_alloc _ _ _)
  have HFB : Hid (Blk (w1.alloc (.cells #[v] 119)) (w.heap.size + 1) #[.int .i64 0] 25) := (HF0.out.below (by omega) hb1).grown (r := none) (by simp) (World.grownBy_alloc _ _ _)
  have HB2 : Hid (Below w.heap.size w (w1.alloc (.cells #[v] 119))) := HB1.out.alloc (by omega) _
  have hsz2 : w.heap.size + 2 ≤ w1.heap.size := by omega
  obtain ⟨p, n, c, rfl⟩ : ∃ p n c, v = .slice p n c := by
    rcases hsl with ⟨h, _⟩ | ⟨g, o, c, h, _⟩ <;> exact ⟨_, _, _, h⟩
  clear hb1 hsl HC HB1 HS0 HF0 HB0 HR1
  go_wp2_with fail
  have hsz3 : (w1.alloc (.cells #[.slice p n c] 119)).heap.size = w1.heap.size + 1 := World.size_alloc _ _
  generalize w1.alloc (.cells #[.slice p n c] 119) = w3 at *
  refine HC2.out.mono ?_
  rintro e w4 ⟨hg, hcase⟩
  have HS4 : Hid (Blk w4 w.heap.size #[.int .i64 0, .int .i64 0, .int .i64 0, .slice none 0 0] 42) := HSB.out.grown (by simp; omega) hg
  have HF4 : Hid (Blk w4 (w.heap.size + 1) #[.int .i64 0] 25) := HFB.out.grown (by simp; omega) hg
  have HB4 : Hid (Below w.heap.size w w4) := HB2.out.trans (below_grownBy hg (by omega) (by omega))
  have hp : Pl.parse s.data.toList = Pl.stepOf (Pl.split s.data.toList) := rfl
  have hl4 := HF4.out.lt
  clear hg HC2 HSB HFB HB2
  rcases ho : Pl.stepOf (Pl.split s.data.toList) with _ | st
  · rw [ho] at hcase
    obtain rfl := hcase
    have HP := Lib.hid (hp.trans ho)
    clear hp ho
    unfold malformed
    go_wp2_with fail
    refine leaves_cons (f := 79) (args := #[.pointer (some ⟨w.heap.size, 0, none⟩), .pointer (some ⟨w.heap.size + 1, 0, none⟩)]) (by simp) (by simp [go_sem]) ?_
    refine (parse_catch w.heap.size (w.heap.size + 1) 0 4 _ 0 0 0 [] _ HS4.out HF4.out (by omega)).mono ?_
    rintro e u' w'' ⟨rfl, rfl, rfl⟩
    have hfin := HN.out _ HP.out ((((((HB4.out.setCell (p := ⟨w.heap.size, 0, none⟩) (by simp) (.int .i64 0)).setCell (p := ⟨w.heap.size, 1, none⟩) (by simp) (.int .i64 0)).setCell (p := ⟨w.heap.size, 2, none⟩) (by simp) (.int .i64 0)).setCell (p := ⟨w.heap.size, 3, none⟩) (by simp) (.slice none 0 0)).setCell (p := ⟨w.heap.size + 1, 0, none⟩) (by simp) (.int .i64 4)).drew)
    have c0 := HS4.out.cell 0
    have c1 := HS4.out.cell 1
    have c2 := HS4.out.cell 2
    have c3 := HS4.out.cell 3
    have cf := HF4.out.cell 0
    simpa [stepArr, Leaves, settle, results, Tryd.results26, go_sem, c0, c1, c2, c3, cf] using hfin
  · rw [ho] at hcase
    obtain ⟨v, rfl, hown⟩ := hcase
    have HP := Lib.hid (hp.trans ho)
    have HO := Lib.hid hown
    obtain ⟨p1, m1, rfl⟩ := ownsRow_slice hown
    clear hp ho hown
    have c0 := HS4.out.cell 0
    have c1 := HS4.out.cell 1
    have c2 := HS4.out.cell 2
    have c3 := HS4.out.cell 3
    have cf := HF4.out.cell 0
    have z0 := HS4.out.frozen 0
    have z1 := HS4.out.frozen 1
    have z2 := HS4.out.frozen 2
    have z3 := HS4.out.frozen 3
    have zf := HF4.out.frozen 0
    unfold stepArr
    go_wp2_with fail
    refine leaves_cons (f := 79) (args := #[.pointer (some ⟨w.heap.size, 0, none⟩), .pointer (some ⟨w.heap.size + 1, 0, none⟩)]) (by simp) (by simp [go_sem]) ?_
    refine (parse_idle w.heap.size (w.heap.size + 1) _).mono ?_
    rintro e u' w'' ⟨rfl, rfl, rfl⟩
    have k := fun (W : World) (g o : Nat) (x : Value) (hgl : g < w3.heap.size) (h : W.ownsRow w3.heap.size 5 1 (.slice p1 st.frame.length m1) st.frame.length (byteCells st.frame)) => h.kept (grownBy_setCell W g o x) (.inr (fun e => by have := (h.lt _ e).1; omega))
    have hfin := HY.out _ HP.out (((((HB4.out.setCell (p := ⟨w.heap.size, 0, none⟩) (by simp) (.int .i64 st.kind)).setCell (p := ⟨w.heap.size, 1, none⟩) (by simp) (.int .i64 st.sym)).setCell (p := ⟨w.heap.size, 2, none⟩) (by simp) (.int .i64 st.n)).setCell (p := ⟨w.heap.size, 3, none⟩) (by simp) (.slice p1 st.frame.length m1)).setCell (p := ⟨w.heap.size + 1, 0, none⟩) (by simp) (.int .i64 0)) (ownsRow_base (by omega) (k _ _ 0 _ (by omega) (k _ _ 3 _ (by omega) (k _ _ 2 _ (by omega) (k _ _ 1 _ (by omega) (k _ _ 0 _ (by omega) HO.out))))))
    simpa [stepArr, Leaves, settle, results, Tryd.results26, go_sem, c0, c1, c2, c3, cf] using hfin

end Go.Proofs.YtbcepdacfmbekaaDoor
