/-
  The walk of the reference's Parse of messages (package damperref36).
-/
import Derived.Test.YtbcepdacfmbekaaDoorKMLn
import Derived.Test.YtbcepdacfmbekaaDoorKRSplit
namespace Go.Proofs.YtbcepdacfmbekaaDoor
open Go.RowKit


/-- The last kind below k with this word. -/
def kindUpto (x : List UInt8) : Nat → Int
  | 0 => 0
  | k + 1 => if 1 ≤ k ∧ Pl.kword k = x then (k : Int) else kindUpto x k
theorem kindUpto_all (x : List UInt8) : kindUpto x 10 = Pl.kindOf x := by
  have h : ∀ y ∈ Pl.kindWords, kindUpto y 10 = Pl.kindOf y := by decide +kernel
  by_cases hx : x ∈ Pl.kindWords
  · exact h x hx
  · have e1 : ∀ n : Nat, n ≤ 10 → kindUpto x n = 0 := by
      intro n
      induction n with
      | zero => intro _; rfl
      | succ n ih =>
        intro hn
        rw [kindUpto, if_neg, ih (by omega)]
        rintro ⟨h1, h2⟩
        apply hx
        rw [← h2]
        have : ∀ k : Nat, k < 10 → 1 ≤ k → Pl.kword (k : Int) ∈ Pl.kindWords := by decide +kernel
        exact this n (by omega) h1
    have e2 : Pl.indexOf x Pl.kindWords = -1 := Pl.indexOf_miss (fun j hj e => hx (by rw [e]; simp only [List.getD_eq_getElem?_getD, List.getElem?_eq_getElem hj, Option.getD_some]; exact List.getElem_mem hj))
    rw [e1 10 (by omega), Pl.kindOf, e2]; rfl
theorem kindUpto_hit {x : List UInt8} {k : Nat} (h1 : 1 ≤ k) (h : Pl.kword k = x) : kindUpto x (k + 1) = k := if_pos ⟨h1, h⟩
theorem kindUpto_miss {x : List UInt8} {k : Nat} (h : ¬ Pl.kword k = x) : kindUpto x (k + 1) = kindUpto x k := if_neg (fun e => h e.2)

theorem msgOf_in (ws : List (List UInt8)) : Pl.MsgIn (Pl.msgOf ws) := by
  have hk := Pl.indexOf_lt (ws.getD 3 []) Pl.kindWords
  have hl : (Pl.kindWords.length : Int) = 10 := rfl
  refine ⟨?_, Pl.number_range _, Pl.number_range _, Pl.number_range _, Pl.number_range _, Pl.number_range _, Pl.number_range _, Pl.number_range _, Pl.number_range _⟩
  show Pl.in64 (Pl.kindOf (ws.getD 3 []))
  unfold Pl.kindOf Pl.in64
  generalize Pl.indexOf (ws.getD 3 []) Pl.kindWords = i at *
  split <;> omega

structure NAt (w : World) (ws : List (List UInt8)) (ab g o : Nat) (k : Nat) (W : World) : Prop where
  below : Below w.heap.size w W
  res : Blk W w.heap.size #[.int .i64 0, .int .i64 0, .int .i64 0, .int .i64 0, .int .i64 0, .int .i64 0, .int .i64 0, .int .i64 0, .int .i64 0] 62
  cells : ∃ cs, Blk W ab cs 145 ∧ cs.size = 9 ∧ ∀ j, j < k → cs[j]? = some (.int .i64 (Pl.numAt ws j))
  words : ∀ j, j < 9 → W.cell? ⟨g, o + j, none⟩ = some (.string ⟨(ws.getD j []).toArray⟩)
  hb : w.heap.size < g ∧ g < ab
theorem NAt.lt {w W : World} {ws : List (List UInt8)} {ab g o k : Nat} (h : NAt w ws ab g o k W) : ab < W.heap.size := by
  obtain ⟨_, h1, _⟩ := h.cells
  exact h1.lt
theorem NAt.quiet {w W W' : World} {ws : List (List UInt8)} {ab g o k : Nat} (h : NAt w ws ab g o k W) (hb : Below W.heap.size W W') : NAt w ws ab g o k W' := by
  have hl := h.lt
  obtain ⟨h1, h2, ⟨cs, h3, h4⟩, h5, h6⟩ := h
  exact ⟨h1.trans (hb.mono h1.size), h2.below h2.lt hb, ⟨cs, h3.below h3.lt hb, h4⟩, fun j hj => (hb.cell (p := ⟨g, o + j, none⟩) (by show g < _; omega)).trans (h5 j hj), h6⟩
theorem NAt.push {w W : World} {ws : List (List UInt8)} {ab g o k : Nat} (h : NAt w ws ab g o k W) (hk : k < 9) : NAt w ws ab g o (k + 1) (W.setCell ⟨ab, k, none⟩ (.int .i64 (Pl.numAt ws k))) := by
  have hl := h.lt
  obtain ⟨h1, h2, ⟨cs, h3, h4, h6⟩, h5, h7⟩ := h
  refine ⟨h1.setCell (p := ⟨ab, k, none⟩) (by simp; omega) _, h2.set_other _ (by simp; omega) _, ⟨_, h3.set k _, by simpa using h4, fun j hj => ?_⟩, fun j hj => ((grownBy_setCell W ab k _).cell_far ⟨g, o + j, none⟩ (by show g < _; omega) (by simp; omega)).trans (h5 j hj), h7⟩
  by_cases e : j = k
  · subst e
    rw [Array.getElem?_setIfInBounds]
    simp [h4, hk]
  · rw [Array.getElem?_setIfInBounds, if_neg (fun e2 => e e2.symm)]
    exact h6 j (by omega)
theorem NAt.cell {w W : World} {ws : List (List UInt8)} {ab g o k j : Nat} (h : NAt w ws ab g o k W) (hj : j < 9) : (∃ x, W.cell? ⟨ab, j, none⟩ = some x) ∧ W.frozen? ⟨ab, j, none⟩ = false := by
  obtain ⟨_, _, ⟨cs, h3, h4, _⟩, _⟩ := h
  exact ⟨⟨cs[j], by rw [h3.cell j, Array.getElem?_eq_getElem (by omega)]⟩, h3.frozen j⟩
theorem NAt.num {w W : World} {ws : List (List UInt8)} {ab g o k j : Nat} (h : NAt w ws ab g o k W) (hj : j < k) : W.cell? ⟨ab, j, none⟩ = some (.int .i64 (Pl.numAt ws j)) := by
  obtain ⟨_, _, ⟨cs, h3, _, h6⟩, _⟩ := h
  rw [h3.cell j]
  exact h6 j hj
/-- The message with this kind. -/
def msgK (ws : List (List UInt8)) (kind : Int) : Array Value := #[.int .i64 kind, .int .i64 (Pl.numAt ws 2), .int .i64 (Pl.numAt ws 0), .int .i64 (Pl.numAt ws 1), .int .i64 (Pl.numAt ws 4), .int .i64 (Pl.numAt ws 5), .int .i64 (Pl.numAt ws 6), .int .i64 (Pl.numAt ws 7), .int .i64 (Pl.numAt ws 8)]
structure KAt (w : World) (ws : List (List UInt8)) (tb g o : Nat) (kind : Int) (W : World) : Prop where
  below : Below w.heap.size w W
  res : Blk W w.heap.size #[.int .i64 0, .int .i64 0, .int .i64 0, .int .i64 0, .int .i64 0, .int .i64 0, .int .i64 0, .int .i64 0, .int .i64 0] 62
  msg : Blk W tb (msgK ws kind) 62
  words : ∀ j, j < 9 → W.cell? ⟨g, o + j, none⟩ = some (.string ⟨(ws.getD j []).toArray⟩)
  hb : w.heap.size < g ∧ g < tb
theorem KAt.quiet {w W W' : World} {ws : List (List UInt8)} {tb g o : Nat} {kind : Int} (h : KAt w ws tb g o kind W) (hb : Below W.heap.size W W') : KAt w ws tb g o kind W' := by
  have hl := h.msg.lt
  obtain ⟨h1, h2, h3, h5, h6⟩ := h
  exact ⟨h1.trans (hb.mono h1.size), h2.below h2.lt hb, h3.below h3.lt hb, fun j hj => (hb.cell (p := ⟨g, o + j, none⟩) (by show g < _; omega)).trans (h5 j hj), h6⟩
theorem KAt.set {w W : World} {ws : List (List UInt8)} {tb g o : Nat} {kind : Int} (n : Int) (h : KAt w ws tb g o kind W) : KAt w ws tb g o n (W.setCell ⟨tb, 0, none⟩ (.int .i64 n)) := by
  have hl := h.msg.lt
  obtain ⟨h1, h2, h3, h5, h6⟩ := h
  exact ⟨h1.setCell (p := ⟨tb, 0, none⟩) (by simp; omega) _, h2.set_other _ (by simp; omega) _, h3.set 0 _, fun j hj => ((grownBy_setCell W tb 0 _).cell_far ⟨g, o + j, none⟩ (by show g < _; omega) (by simp; omega)).trans (h5 j hj), h6⟩

def mpsV (k g o c : Nat) (kw x : List UInt8) (eq : Bool) (d : Nat) : Value → World → Prop :=
  match d with
  | 52 => fun v _ => v = .int .i64 (k : Int)
  | 53 => fun v _ => v = .string ⟨kw.toArray⟩
  | 54 => fun v _ => v = .slice (some ⟨g, o, none⟩) 9 c
  | 55 => fun v _ => v = .pointer (some ⟨g, o + 3, none⟩)
  | 56 => fun v _ => v = .string ⟨x.toArray⟩
  | 57 => fun v _ => v = .bool eq
  | _ => fun _ _ => True
theorem mpsV_mono (k g o c : Nat) (kw x : List UInt8) (eq : Bool) (d : Nat) (v : Value) (w w' : World) (_ : Below w.heap.size w w') (h : mpsV k g o c kw x eq d v w) : mpsV k g o c kw x eq d v w' := by
  unfold mpsV at h ⊢
  split at h
  all_goals exact h
set_option maxHeartbeats 8000000 in
set_option maxRecDepth 100000 in
theorem ref36_Parse (l : List UInt8) (w : World) (hl : l.length ≤ 1000000) : Calls Tryd.prog 41 #[.string ⟨l.toArray⟩] w (MsgPost l w) := by
  have HNO := Lib.hid (fun w' => @MsgPost.no l w w')
  have HYES := Lib.hid (fun w' => @MsgPost.yes l w w')
  have HB0 : Hid (Below w.heap.size w (w.alloc (.cells #[.int .i64 0, .int .i64 0, .int .i64 0, .int .i64 0, .int .i64 0, .int .i64 0, .int .i64 0, .int .i64 0, .int .i64 0] 62))) := (Below.refl _ _).alloc (Nat.le_refl _) _
  have HK0 : Hid (Blk (w.alloc (.cells #[.int .i64 0, .int .i64 0, .int .i64 0, .int .i64 0, .int .i64 0, .int .i64 0, .int .i64 0, .int .i64 0, .int .i64 0] 62)) w.heap.size #[.int .i64 0, .int .i64 0, .int .i64 0, .int .i64 0, .int .i64 0, .int .i64 0, .int .i64 0, .int .i64 0, .int .i64 0] 62) := Blk.alloc _ _
  have hs0 : (w.alloc (.cells #[.int .i64 0, .int .i64 0, .int .i64 0, .int .i64 0, .int .i64 0, .int .i64 0, .int .i64 0, .int .i64 0, .int .i64 0] 62)).heap.size = w.heap.size + 1 := World.size_alloc _ _
  have HC := Lib.hid (ref_Split l (w.alloc (.cells #[.int .i64 0, .int .i64 0, .int .i64 0, .int .i64 0, .int .i64 0, .int .i64 0, .int .i64 0, .int .i64 0, .int .i64 0] 62)) (by omega))
  unfold SplitPost at HC
  have HP := Lib.hid (show Pl.mparse l = if (Pl.split l).length = 9 then if Pl.mline (Pl.msgOf (Pl.split l)) = some l then some (Pl.msgOf (Pl.split l)) else none else none from (Pl.refMparse_eq l).symm)
  have HLE := Lib.hid (Pl.split_getD_le l)
  go_enter Tryd.func41, Tryd.ntmps41
  go_wp2_with fail
  generalize w.alloc (.cells #[.int .i64 0, .int .i64 0, .int .i64 0, .int .i64 0, .int .i64 0, .int .i64 0, .int .i64 0, .int .i64 0, .int .i64 0] 62) = w0 at *
  refine HC.out.mono ?_
  rintro e w1 ⟨v, rfl, hb1, hown⟩
  have hl1 : (Pl.split l).length ≤ 1000001 := by
    unfold Pl.split
    split
    · simp
    · rw [Pl.splitC_length]; have := List.count_le_length (a := (32 : UInt8)) (l := l); omega
  generalize Pl.split l = ws at *
  have HB1 : Hid (Below w.heap.size w w1) := HB0.out.trans (hb1.mono (by omega))
  have HK1 : Hid (Blk w1 w.heap.size #[.int .i64 0, .int .i64 0, .int .i64 0, .int .i64 0, .int .i64 0, .int .i64 0, .int .i64 0, .int .i64 0, .int .i64 0] 62) := HK0.out.below (by omega) hb1
  have hsl := Sl.of_row hown (by simp [strVs])
  obtain ⟨p, c, rfl⟩ := ownsRow_slice hown
  have hs1 := HK1.out.lt
  have HSL := Lib.hid hsl
  clear hb1 hsl hown HC HB0 HK0
  by_cases h9 : ws.length = 9
  · skip
    have HP9 := Lib.hid (HP.out.trans (if_pos h9))
    have HSL9 := HSL.out
    rw [h9]
    obtain ⟨g, o, c', hp, hgl, hcs⟩ : ∃ g o c', Value.slice p 9 c = .slice (some ⟨g, o, none⟩) 9 c' ∧ (g < w1.heap.size ∧ w.heap.size < g) ∧ ∀ j, j < 9 → w1.cell? ⟨g, o + j, none⟩ = some (.string ⟨(ws.getD j []).toArray⟩) := by
      rcases HSL9 with ⟨_, h0⟩ | ⟨g, o, c', h1, _, hg0, h4, h5⟩
      · have : ws.length = 0 := by have h2 : (strVs ws).length = 0 := by rw [h0]; rfl
                                   simpa [strVs] using h2
        omega
      · refine ⟨g, o, c', by rw [← h9]; rw [h1]; simp [strVs], ⟨h4, by omega⟩, fun j hj => h5 j _ ?_⟩
        simp [strVs, strV, List.getD, h9, hj]
    obtain ⟨rfl, rfl⟩ : p = some ⟨g, o, none⟩ ∧ c = c' := by
      injection hp with e1 _ e2
      exact ⟨e1, e2⟩
    have HN0 : Hid (NAt w ws w1.heap.size g o 0 (w1.alloc (.cells #[.int .i64 0, .int .i64 0, .int .i64 0, .int .i64 0, .int .i64 0, .int .i64 0, .int .i64 0, .int .i64 0, .int .i64 0] 145))) := ⟨HB1.out.alloc (by omega) _, HK1.out.grown (r := none) (by simp) (World.grownBy_alloc _ _ _), ⟨_, Blk.alloc _ _, rfl, fun j hj => absurd hj (by omega)⟩, fun j hj => ((World.grownBy_alloc w1 _ none).cell_far ⟨g, o + j, none⟩ hgl.1 (by simp)).trans (hcs j hj), hgl.2, hgl.1⟩
    clear hcs hp HSL9 HSL h9 hl1 HK1 HB1 HP hs0
    go_wp2_with fail
    generalize w1.alloc (.cells #[.int .i64 0, .int .i64 0, .int .i64 0, .int .i64 0, .int .i64 0, .int .i64 0, .int .i64 0, .int .i64 0, .int .i64 0] 145) = w2 at *
    generalize w1.heap.size = ab at *
    go_loopw [6] (fun i wr => ∃ k : Nat, k ≤ 9 ∧ i = .int .i64 k ∧ Hid (NAt w ws ab g o k wr)) (fun i _ => 9 - (intOf i).toNat)
    case atStart => exact ⟨0, by omega, rfl, HN0⟩
    case round =>
      obtain ⟨k, hk, rfl, HN⟩ := hrel
      clear HN0
      by_cases hlt : k < 9
      · have cw := HN.out.words k hlt
        have hxl : (ws.getD k []).length ≤ 1000000 := Nat.le_trans (HLE.out k) hl
        have HVA : Hid (Pl.numAt ws k = (Pl.number (ws.getD k [])).1) := rfl
        generalize ws.getD k [] = x at *
        have HNX := Lib.hid (ref_Number x wr (by omega))
        unfold RNumPost at HNX
        generalize Pl.number x = nn at *
        obtain ⟨n, is⟩ := nn
        have hk9 : ((k : Int) < 9) = True := eq_true (by omega)
        go_wp2_with fail
        refine HNX.out.mono ?_
        rintro e w5 ⟨rfl, hb5⟩
        have HN5 := Lib.hid (HN.out.quiet hb5)
        clear hb5 HNX cw HN
        obtain ⟨⟨y, hy⟩, hz⟩ := HN5.out.cell hlt
        go_wp2_with fail
        go_roundw
        case rel => exact ⟨k + 1, by omega, by go_num, by have h := HN5.out.push hlt; rw [HVA.out] at h; exact h⟩
        case measure => simp [intOf]; omega
      · obtain rfl : k = 9 := by omega
        rw [show (((9 : Nat) : Int)) = 9 from rfl]
        have n0 := HN.out.num (j := 0) (by omega)
        have n1 := HN.out.num (j := 1) (by omega)
        have n2 := HN.out.num (j := 2) (by omega)
        have n4 := HN.out.num (j := 4) (by omega)
        have n5 := HN.out.num (j := 5) (by omega)
        have n6 := HN.out.num (j := 6) (by omega)
        have n7 := HN.out.num (j := 7) (by omega)
        have n8 := HN.out.num (j := 8) (by omega)
        have HK2 : Hid (KAt w ws wr.heap.size g o (kindUpto (ws.getD 3 []) 1) (wr.alloc (.cells #[.int .i64 0, .int .i64 (Pl.numAt ws 2), .int .i64 (Pl.numAt ws 0), .int .i64 (Pl.numAt ws 1), .int .i64 (Pl.numAt ws 4), .int .i64 (Pl.numAt ws 5), .int .i64 (Pl.numAt ws 6), .int .i64 (Pl.numAt ws 7), .int .i64 (Pl.numAt ws 8)] 62))) := ⟨HN.out.below.alloc HN.out.below.size _, HN.out.res.grown (r := none) (by simp) (World.grownBy_alloc _ _ _), Blk.alloc _ _, fun j hj => ((World.grownBy_alloc wr _ none).cell_far ⟨g, o + j, none⟩ (Nat.lt_trans HN.out.hb.2 HN.out.lt) (by simp)).trans (HN.out.words j hj), HN.out.hb.1, Nat.lt_trans HN.out.hb.2 HN.out.lt⟩
        clear hk hlt
        go_wp2_with fail
        generalize wr.alloc (.cells #[.int .i64 0, .int .i64 (Pl.numAt ws 2), .int .i64 (Pl.numAt ws 0), .int .i64 (Pl.numAt ws 1), .int .i64 (Pl.numAt ws 4), .int .i64 (Pl.numAt ws 5), .int .i64 (Pl.numAt ws 6), .int .i64 (Pl.numAt ws 7), .int .i64 (Pl.numAt ws 8)] 62) = w3 at *
        generalize wr.heap.size = tb at *
        clear n0 n1 n2 n4 n5 n6 n7 n8 HN
        go_loopw [8] (fun i wr => ∃ k : Nat, (1 ≤ k ∧ k ≤ 10) ∧ i = .int .i64 k ∧ Hid (KAt w ws tb g o (kindUpto (ws.getD 3 []) k) wr)) (fun i _ => 10 - (intOf i).toNat)
        case atStart => exact ⟨1, by omega, rfl, HK2⟩
        case round =>
          obtain ⟨k, hk, rfl, HK⟩ := hrel
          clear HK2
          have hgw : g < wr.heap.size := by have h1 := HK.out.msg.lt; have h2 := HK.out.hb.2; omega
          by_cases hlt : k < 10
          · have HC3 := Lib.hid (HK.out.words 3 (by omega))
            have HU1 := Lib.hid (@kindUpto_hit (ws.getD 3 []) k hk.1)
            have HU2 := Lib.hid (@kindUpto_miss (ws.getD 3 []) k)
            generalize ws.getD 3 [] = x at *
            have HWD := Lib.hid (fun w => ref36_Word (k : Int) w)
            unfold StrPost at HWD
            generalize Pl.kword (k : Int) = kw at *
            have hk10 : ((k : Int) < 10) = True := eq_true (by omega)
            obtain ⟨eq, HEQ, HUE⟩ : ∃ eq : Bool, Hid ((kw == x) = eq) ∧ Hid (kindUpto x (k + 1) = if eq = true then (k : Int) else kindUpto x k) := by
              by_cases h : kw = x
              · exact ⟨true, by show _ = _; rw [beq_iff_eq]; exact h, by show _ = _; rw [HU1.out h]; rfl⟩
              · exact ⟨false, by show _ = _; rw [beq_eq_false_iff_ne]; exact h, by show _ = _; rw [HU2.out h]; rfl⟩
            clear HU1 HU2
            go_wp2_with fail
            refine wp_region_vals (by kernel_rfl) (n := 74) rfl (by kernel_rfl) (by kernel_rfl) [[], [52], [], [54], [55], [53, 56]] (by kernel_rfl) [52, 53, 54, 55, 56, 57] (by kernel_rfl) [4, 8] (by kernel_rfl) (mpsV k g o c kw x eq) (fun w' => Below wr.heap.size wr w') (fun w w' => Below w.heap.size w w') (mpsV_mono k g o c kw x eq) (Below.refl _ _).drew ?_ ?_
            · simp only [AllSteps]
              refine ⟨?_, ?_, ?_, ?_, ?_, ?_, trivial⟩
              all_goals (intro a' w' hI hd0 hnw hds K hK; clear hd0)
              all_goals (have h4 : a'.tmps.getD 4 undef = .slice (some ⟨g, o, none⟩) 9 c := hnw 4 (by simp); have h8 : a'.tmps.getD 8 undef = .int .i64 (k : Int) := hnw 8 (by simp); clear hnw)
              · go_simp
                exact hK _ _ (fun d hd => by cases hd; rfl) hI (Below.refl _ _)
              · have h52 := getD_form (show a'.tmps.getD 52 undef = .int .i64 (k : Int) from hds 52 (by simp))
                go_simp
                refine (HWD.out w').mono ?_
                rintro e w5 ⟨rfl, hb5⟩
                exact hK _ w5 (fun d hd => by cases hd; rfl) (hI.trans (hb5.mono hI.size)) hb5
              · go_simp
                exact hK _ _ (fun d hd => by cases hd; rfl) hI (Below.refl _ _)
              · have h54 := getD_form (show a'.tmps.getD 54 undef = .slice (some ⟨g, o, none⟩) 9 c from hds 54 (by simp))
                go_simp
                exact hK _ _ (fun d hd => by cases hd; rfl) hI (Below.refl _ _)
              · have h55 := getD_form (show a'.tmps.getD 55 undef = .pointer (some ⟨g, o + 3, none⟩) from hds 55 (by simp))
                have hcl : w'.cell? ⟨g, o + 3, none⟩ = some (.string ⟨x.toArray⟩) := (hI.cell (p := ⟨g, o + 3, none⟩) hgw).trans HC3.out
                go_simp
                exact hK _ _ (fun d hd => by cases hd; rfl) hI (Below.refl _ _)
              · have h53 := getD_form (show a'.tmps.getD 53 undef = .string ⟨kw.toArray⟩ from hds 53 (by simp))
                have h56 := getD_form (show a'.tmps.getD 56 undef = .string ⟨x.toArray⟩ from hds 56 (by simp))
                have heq := HEQ.out
                go_simp
                exact hK _ _ (fun d hd => by cases hd; rfl) hI (Below.refl _ _)
            · intro f w4 hI hv
              have f57 : f 57 = .bool eq := hv 57 (by simp)
              have HK4 : Hid (KAt w ws tb g o (kindUpto x k) w4) := HK.out.quiet hI
              clear hv hI HK HC3 HWD
              simp only [putMany]
              go_simp
              clear f57
              cases eq
              · have HUE2 := Lib.hid (HUE.out.trans (if_neg (by decide)))
                go_wp2_with fail
                go_roundw
                case rel => exact ⟨k + 1, by omega, by go_num, by show KAt _ _ _ _ _ _ _; rw [HUE2.out]; exact HK4.out⟩
                case measure => simp [intOf]; omega
              · have HUE2 := Lib.hid (HUE.out.trans (if_pos rfl))
                have c0 : w4.cell? ⟨tb, 0, none⟩ = some (.int .i64 (kindUpto x k)) := HK4.out.msg.cell 0
                have z0 := HK4.out.msg.frozen 0
                go_wp2_with fail
                go_roundw
                case rel => exact ⟨k + 1, by omega, by go_num, by show KAt _ _ _ _ _ _ _; rw [HUE2.out]; exact HK4.out.set (k : Int)⟩
                case measure => simp [intOf]; omega
          · obtain rfl : k = 10 := by omega
            rw [show (((10 : Nat) : Int)) = 10 from rfl]
            have HMB : Hid (Blk wr tb (Pl.msgOf ws).arr 62) := by
              have h := HK.out.msg
              rw [kindUpto_all] at h
              exact h
            have HKB := Lib.hid HK.out.below
            have HKR := Lib.hid HK.out.res
            clear HK hk hlt
            go_wp2_with (first | (refine wpList_load_row rfl 62 _ rfl tb rfl 62 (Pl.msgOf ws).arr (0, 0) _ HMB.out Tryd.underlying62 rfl (by kernel_rfl) ?_) | fail)
            refine (ref36_Line (Pl.msgOf ws) (msgOf_in ws) wr).mono ?_
            rintro e w5 ⟨hb5, hcase⟩
            have HB5 : Hid (Below w.heap.size w w5) := HKB.out.trans (hb5.mono HKB.out.size)
            have HK5 := Lib.hid (HKR.out.below HKR.out.lt hb5)
            have HM5 := Lib.hid (HMB.out.below HMB.out.lt hb5)
            clear hb5 HKB HKR HMB
            rcases hml : Pl.mline (Pl.msgOf ws) with _ | l2
            · have HBAD := Lib.hid (HP9.out.trans (if_neg (by rw [hml]; simp)))
              rw [hml] at hcase
              obtain rfl := hcase
              clear hml
              go_wp2_with (refine wpList_store_row rfl 62 _ _ rfl w.heap.size zeroMsg.arr rfl rfl 62 _ HK5.out (by kernel_rfl) rfl (by kernel_rfl) ?_)
              exact bodyPost_ret (v := .tuple #[.agg zeroMsg.arr, .int .i64 4]) (results_ct rfl _ _ w.heap.size zeroMsg.arr _ _ _ rfl rfl (setRow_heap _ _ _ _ _ _ HK5.out) Tryd.underlying62 rfl (by kernel_rfl)) rfl (HNO.out _ HBAD.out (below_setRow3 HB5.out (Nat.le_refl _)))
            · rw [hml] at hcase
              obtain rfl := hcase
              by_cases hll : l2 = l
              · subst hll
                have HGOOD := Lib.hid (HP9.out.trans (if_pos hml))
                clear hml
                go_wp2_with (first | (refine wpList_load_row rfl 62 _ rfl tb rfl 62 (Pl.msgOf ws).arr (0, 0) _ HM5.out Tryd.underlying62 rfl (by kernel_rfl) ?_) | (refine wpList_store_row rfl 62 _ _ rfl w.heap.size (Pl.msgOf ws).arr rfl rfl 62 _ HK5.out (by kernel_rfl) rfl (by kernel_rfl) ?_))
                exact bodyPost_ret (v := .tuple #[.agg (Pl.msgOf ws).arr, .int .i64 0]) (results_ct rfl _ _ w.heap.size (Pl.msgOf ws).arr _ _ _ rfl rfl (setRow_heap _ _ _ _ _ _ HK5.out) Tryd.underlying62 rfl (by kernel_rfl)) rfl (HYES.out _ HGOOD.out (below_setRow3 HB5.out (Nat.le_refl _)))
              · have HBAD := Lib.hid (HP9.out.trans (if_neg (by rw [hml]; simpa using hll)))
                have hlb : (l2 == l) = false := by rw [beq_eq_false_iff_ne]; exact hll
                clear hml hll
                go_wp2_with (refine wpList_store_row rfl 62 _ _ rfl w.heap.size zeroMsg.arr rfl rfl 62 _ HK5.out (by kernel_rfl) rfl (by kernel_rfl) ?_)
                exact bodyPost_ret (v := .tuple #[.agg zeroMsg.arr, .int .i64 4]) (results_ct rfl _ _ w.heap.size zeroMsg.arr _ _ _ rfl rfl (setRow_heap _ _ _ _ _ _ HK5.out) Tryd.underlying62 rfl (by kernel_rfl)) rfl (HNO.out _ HBAD.out (below_setRow3 HB5.out (Nat.le_refl _)))
  · have HN := Lib.hid (HP.out.trans (if_neg h9))
    have h9b : ((ws.length : Int) != 9) = true := by rw [bne_iff_ne]; omega
    clear h9 HSL
    go_wp2_with (refine wpList_store_row rfl 62 _ _ rfl w.heap.size zeroMsg.arr rfl rfl 62 _ HK1.out (by kernel_rfl) rfl (by kernel_rfl) ?_)
    exact bodyPost_ret (v := .tuple #[.agg zeroMsg.arr, .int .i64 4]) (results_ct rfl _ _ w.heap.size zeroMsg.arr _ _ _ rfl rfl (setRow_heap _ _ _ _ _ _ HK1.out) Tryd.underlying62 rfl (by kernel_rfl)) rfl (HNO.out _ HN.out (below_setRow3 HB1.out (Nat.le_refl _)))

end Go.Proofs.YtbcepdacfmbekaaDoor
