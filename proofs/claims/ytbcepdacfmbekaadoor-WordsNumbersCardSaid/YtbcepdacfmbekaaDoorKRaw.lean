/-
  The walk of the reader's raw (package words): bytes that are no command's.
-/
import Derived.Test.YtbcepdacfmbekaaDoorKDec2
import Derived.Test.YtbcepdacfmbekaaDoorKRc
import Derived.Deep.QuietTactic
import Derived.BigQuiet
namespace Go.Proofs.YtbcepdacfmbekaaDoor
open Go.RowKit
variable {B : Nat}

def Pl.hexDigits : List UInt8 := [48, 49, 50, 51, 52, 53, 54, 55, 56, 57, 97, 98, 99, 100, 101, 102]
/-- The place of a digit. -/
def Pl.hx (c : UInt8) : Int := Lib.indexByte Pl.hexDigits c
/-- Bytes of digits. -/
def Pl.unhex : List UInt8 → Option (List UInt8)
  | a :: b :: r => if 0 ≤ Pl.hx a ∧ 0 ≤ Pl.hx b then (Pl.unhex r).map (UInt8.ofNat (Pl.hx a * 16 + Pl.hx b).toNat :: ·) else none
  | _ => some []
/-- Bytes that are no command's, behind the word raw. -/
def Pl.rraw : List (List UInt8) → Option (List UInt8 × List (List UInt8))
  | [] => some ([], [])
  | x :: r => if 0 < x.length ∧ x.length % 2 = 0 ∧ x.length ≤ 128 then (Pl.unhex x).bind fun f => if Pl.dec f = none then some (f, r) else none else none

theorem Pl.hx_lt (c : UInt8) : -1 ≤ Pl.hx c ∧ Pl.hx c < 16 := by
  have h : ∀ n : Nat, n < 256 → -1 ≤ Pl.hx (UInt8.ofNat n) ∧ Pl.hx (UInt8.ofNat n) < 16 := by decide +kernel
  have := h c.toNat c.toNat_lt
  simpa using this

def RawPost (B b : Nat) (o : Option (List UInt8 × List (List UInt8))) (w : World) (e : Ending) (w' : World) : Prop :=
  w.grownBy w' (some b) ∧ match o with
    | some (f, r) => ∃ v, e = .returned (.agg (stepArr 1 0 0 v)) ∧ Rdr B w' b r ∧ w'.ownsRow w.heap.size 5 1 v f.length (byteCells f)
    | none => e = malformed
theorem RawPost.mk_none {b : Nat} {w w' : World} {o : Option (List UInt8 × List (List UInt8))} (ho : o = none) (hg : w.grownBy w' (some b)) : RawPost B b o w malformed w' := by
  subst ho; exact ⟨hg, rfl⟩
theorem RawPost.mk_some {b : Nat} {w w' : World} {o : Option (List UInt8 × List (List UInt8))} {f : List UInt8} {r : List (List UInt8)} {v : Value} {n : Nat} (ho : o = some (f, r)) (hn : n = f.length) (hg : w.grownBy w' (some b)) (hr : Rdr B w' b r) (hown : w'.ownsRow w.heap.size 5 1 v n (byteCells f)) :
    RawPost B b o w (.returned (.agg (stepArr 1 0 0 v))) w' := by
  subst ho; subst hn; exact ⟨hg, v, rfl, hr, hown⟩

theorem grownBy_newRow {w w1 w2 : World} {r k : Option Nat} (h : w.grownBy w1 r) (h2 : w1.grownBy w2 k) (hk : ∀ g, k = some g → w.heap.size ≤ g) : w.grownBy w2 r :=
  ⟨h2.os.trans h.os, h2.tape.trans h.tape, h2.output.trans h.output, Nat.le_trans h.size h2.size, fun g hg hne => by
    rw [h2.block g (Nat.lt_of_lt_of_le hg h.size) (fun e => by have := hk g e.symm; omega)]
    exact h.block g hg hne⟩
theorem Rdr.newRow {w w' : World} {b : Nat} {k : Option Nat} {l : List (List UInt8)} (h : Rdr B w b l) (hg : w.grownBy w' k) (hk : ∀ g, k = some g → g ≠ b ∧ B ≤ g) : Rdr B w' b l := by
  obtain ⟨v, h1, h2, h3⟩ := h
  exact ⟨v, h1.grown (fun e => (hk b e.symm).1 rfl) hg, h2.grown (fun g hgk e => by have := (hk g e.symm).2; omega) hg, h3⟩

/-- In the loop: what has been collected. -/
structure RawAt (B b : Nat) (w : World) (r : List (List UInt8)) (acc : List UInt8) (v : Value) (W : World) : Prop where
  grow : w.grownBy W (some b)
  rdr : Rdr B W b r
  res : Blk W w.heap.size #[.int .i64 0, .int .i64 0, .int .i64 0, .slice none 0 0] 42
  st : Blk W (w.heap.size + 1) #[.int .i64 1, .int .i64 0, .int .i64 0, v] 42
  own : W.ownsRow (w.heap.size + 2) 5 1 v acc.length (byteCells acc)
  low : b < w.heap.size ∧ B ≤ w.heap.size

theorem str_index (x : List UInt8) (k : Nat) (hk : k < x.length) (W : World) : (Instr.index 9 (.string ⟨x.toArray⟩) (.int .i64 k)).run Tryd.prog W = .ok (.int .u8 (x.getD k 0).toNat) W := by
  rw [run_index_string _ _ _ _ _ Tryd.underlying9, dif_pos ⟨by omega, by rw [Lib.size_eq]; simpa using hk⟩]
  congr 3
  exact congrArg UInt8.toNat (ba_get x k (by rw [Lib.size_eq]; simpa using hk))
theorem hex_or_nat : ∀ h, h < 16 → ∀ l, l < 16 → bits .or .i64 (((h : Nat) : Int) * 16) ((l : Nat) : Int) = (h : Int) * 16 + (l : Int) := by decide +kernel

set_option maxHeartbeats 1000000 in
set_option maxRecDepth 100000 in
theorem raw_nil (b : Nat) (w : World) (h : Rdr B w b []) : Calls Tryd.prog 134 #[.pointer (some ⟨b, 0, none⟩)] w (RawPost B b (Pl.rraw []) w) := by
  have HO := Lib.hid (show Pl.rraw [] = some ([], []) from rfl)
  have hbl := h.lt
  have hb : Below w.heap.size w ((w.alloc (.cells #[.int .i64 1, .int .i64 0, .int .i64 0, .slice none 0 0] 42)).alloc (.cells #[.int .i64 1, .int .i64 0, .int .i64 0, .slice none 0 0] 42)) := ((Below.refl _ _).alloc (Nat.le_refl _) _).alloc (by simp) _
  have HF := Lib.hid (RawPost.mk_some HO.out rfl (grownBy_of_below' hb _) (h.below hb) (World.ownsRow_nil _ _ _ _))
  have HK : Hid (Blk ((w.alloc (.cells #[.int .i64 1, .int .i64 0, .int .i64 0, .slice none 0 0] 42)).alloc (.cells #[.int .i64 1, .int .i64 0, .int .i64 0, .slice none 0 0] 42)) w.heap.size #[.int .i64 1, .int .i64 0, .int .i64 0, .slice none 0 0] 42) := (Blk.alloc (w := w) _ _).grown (r := none) (by simp) (World.grownBy_alloc _ _ _)
  obtain ⟨v, hb, hs, hl, hx⟩ := h
  have hc := hb.cell 0
  have hz : (strCells []).length = 0 := rfl
  clear hb
  rcases hs with ⟨rfl, _⟩ | ⟨g, o, c, rfl, hlc, hg, hgl, _⟩
  all_goals
    go_enter Tryd.func134, Tryd.ntmps134
    go_wp2_with fail
    exact bodyPost_ret (v := .agg (stepArr 1 0 0 (.slice none 0 0))) (results_cell_row rfl _ _ w.heap.size _ _ (0, 0) _ rfl HK.out Tryd.underlying42 rfl (by kernel_rfl)) rfl HF.out

theorem RawAt.quiet {b : Nat} {w W W' : World} {r : List (List UInt8)} {acc : List UInt8} {v : Value} (h : RawAt B b w r acc v W) (hb : Below W.heap.size W W') : RawAt B b w r acc v W' :=
  ⟨h.grow.trans (grownBy_of_below' hb _), h.rdr.below hb, h.res.below h.res.lt hb, h.st.below h.st.lt hb, h.own.kept (grownBy_of_below' hb none) (by cases v.ownBlock <;> simp), h.low⟩
theorem RawAt.own_ne {b : Nat} {w W : World} {r : List (List UInt8)} {acc : List UInt8} {v : Value} (h : RawAt B b w r acc v W) : some (w.heap.size + 1) ≠ v.ownBlock := fun e => by
  have := (h.own.lt _ e.symm).1
  omega
theorem RawAt.push {b : Nat} {w W W1 : World} {r : List (List UInt8)} {acc acc' : List UInt8} {v v' : Value} (h : RawAt B b w r acc v W) (hg : W.grownBy W1 v.ownBlock) (ho : W1.ownsRow (w.heap.size + 2) 5 1 v' acc'.length (byteCells acc')) : RawAt B b w r acc' v' (W1.setCell ⟨w.heap.size + 1, 3, none⟩ v') := by
  have hl := h.low
  have hr : ∀ g, v.ownBlock = some g → w.heap.size + 2 ≤ g := fun g e => (h.own.lt g e).1
  refine ⟨grownBy_setNew (grownBy_newRow h.grow hg (fun g e => by have := hr g e; omega)) (by omega), (h.rdr.newRow hg (fun g e => by have := hr g e; omega)).setOther (by omega) (by omega), (h.res.grown (fun e => by have := hr _ e.symm; omega) hg).set_other _ (by simp) _, (h.st.grown h.own_ne hg).set 3 v', ho.kept (grownBy_setCell _ _ _ _) (.inr (fun e => by have := (ho.lt _ e).1; omega)), hl⟩
theorem RawAt.drewN {b : Nat} {w W : World} {r : List (List UInt8)} {acc : List UInt8} {v : Value} (h : RawAt B b w r acc v W) (n : Nat) : RawAt B b w r acc v (W.drewN n) := h.quiet (below_drewN (Below.refl _ _) n)

set_option maxHeartbeats 4000000 in
set_option maxRecDepth 100000 in
theorem raw_some (b : Nat) (x : List UInt8) (r : List (List UInt8)) (w : World) (h : Rdr B w b (x :: r)) (hB : B ≤ w.heap.size) : Calls Tryd.prog 134 #[.pointer (some ⟨b, 0, none⟩)] w (RawPost B b (Pl.rraw (x :: r)) w) := by
  have HN := Lib.hid (fun w' => @RawPost.mk_none B b w w' (Pl.rraw (x :: r)))
  have HY := Lib.hid (fun w' => @RawPost.mk_some B b w w' (Pl.rraw (x :: r)))
  have hbl := h.lt
  have HA0 : Hid (RawAt B b w (x :: r) [] (.slice none 0 0) ((w.alloc (.cells #[.int .i64 0, .int .i64 0, .int .i64 0, .slice none 0 0] 42)).alloc (.cells #[.int .i64 1, .int .i64 0, .int .i64 0, .slice none 0 0] 42))) := by
    have hb : Below w.heap.size w ((w.alloc (.cells #[.int .i64 0, .int .i64 0, .int .i64 0, .slice none 0 0] 42)).alloc (.cells #[.int .i64 1, .int .i64 0, .int .i64 0, .slice none 0 0] 42)) := ((Below.refl _ _).alloc (Nat.le_refl _) _).alloc (by simp) _
    refine ⟨grownBy_of_below' hb _, h.below hb, (Blk.alloc (w := w) _ _).grown (r := none) (by simp) (World.grownBy_alloc _ _ _), ?_, ⟨rfl, .inl ⟨rfl, rfl⟩⟩, hbl, hB⟩
    have := Blk.alloc (w := w.alloc (.cells #[.int .i64 0, .int .i64 0, .int .i64 0, .slice none 0 0] 42)) #[.int .i64 1, .int .i64 0, .int .i64 0, .slice none 0 0] 42
    rw [World.size_alloc] at this; exact this
  have hsz0 : ((w.alloc (.cells #[.int .i64 0, .int .i64 0, .int .i64 0, .slice none 0 0] 42)).alloc (.cells #[.int .i64 1, .int .i64 0, .int .i64 0, .slice none 0 0] 42)).heap.size = w.heap.size + 2 := by simp
  obtain ⟨_, _, _, hl, _⟩ := h
  obtain ⟨v, hb0, hs0, _, _⟩ := HA0.out.rdr
  have hc := hb0.cell 0
  clear hb0
  rcases hs0 with ⟨_, h0⟩ | ⟨g, o, c, rfl, hlc, hg, hgl, _⟩
  · simp [strCells] at h0
  have hz : (strCells (x :: r)).length = r.length + 1 := by simp [strCells]
  rw [hz] at hc
  have hxl : x.length ≤ 1000000000 := by
    obtain ⟨_, _, _, _, hx⟩ := HA0.out.rdr
    exact hx x (by simp)
  have hrl : (r.length : Int) + 1 ≤ 1000000000 := by simp at hl; omega
  have hrl0 : ((r.length : Int) + 1 == 0) = false := by rw [beq_eq_false_iff_ne]; omega
  have HCW := Lib.hid (word_yes b x r _ HA0.out.rdr)
  clear hz hlc hgl
  go_enter Tryd.func134, Tryd.ntmps134
  go_wp2_with fail
  generalize (w.alloc (.cells #[.int .i64 0, .int .i64 0, .int .i64 0, .slice none 0 0] 42)).alloc (.cells #[.int .i64 1, .int .i64 0, .int .i64 0, .slice none 0 0] 42) = w0 at *
  refine HCW.out.mono ?_
  rintro e w1 ⟨rfl, hg1, hr1⟩
  have HA1 : Hid (RawAt B b w r [] (.slice none 0 0) w1) := by
    have h := HA0.out
    exact ⟨h.grow.trans hg1, hr1, h.res.grown (by simp; omega) hg1, h.st.grown (by simp; omega) hg1, World.ownsRow_nil _ _ _ _, h.low⟩
  clear HCW hg1 hr1 HA0 hc hsz0 hrl hrl0
  have HX := Lib.hid (show Pl.rraw (x :: r) = if 0 < x.length ∧ x.length % 2 = 0 ∧ x.length ≤ 128 then (Pl.unhex x).bind fun f => if Pl.dec f = none then some (f, r) else none else none from rfl)
  by_cases h1 : 0 < x.length ∧ x.length % 2 = 0 ∧ x.length ≤ 128
  · have HX2 := Lib.hid (HX.out.trans (if_pos h1))
    obtain ⟨h11, h12, h13⟩ := h1
    have d1 : decide ((0 : Int) < x.length) = true := decide_eq_true (by omega)
    have d2 : (((x.length : Int) % 2) == 0) = true := by rw [beq_iff_eq]; omega
    have d3 : decide ((x.length : Int) ≤ 128) = true := decide_eq_true (by omega)
    clear HX
    go_wp2_with (go_at_call 135; refine (words_must_true _).mono ?_; rintro e w' ⟨rfl, rfl⟩)
    clear d1 d2 d3
    go_loopw [5] (fun i wr => ∃ (k : Nat) (acc : List UInt8) (v : Value), k ≤ x.length ∧ k % 2 = 0 ∧ acc.length * 2 = k ∧ i = .int .i64 k ∧ Hid (RawAt B b w r acc v wr) ∧ Hid (Pl.unhex x = (Pl.unhex (x.drop k)).map (acc ++ ·))) (fun i _ => x.length - (intOf i).toNat)
    case atStart => exact ⟨0, [], _, Nat.zero_le _, rfl, rfl, rfl, HA1, by show _ = _; simp⟩
    case round =>
      obtain ⟨k, acc, v, hk, hk2, hka, rfl, HA, HU⟩ := hrel
      by_cases hlt : k < x.length
      · have hk1 : k + 1 < x.length := by omega
        have i0 := str_index x k hlt
        have i1 : ∀ W : World, (Instr.index 9 (.string ⟨x.toArray⟩) (.int .i64 ((k : Int) + 1))).run Tryd.prog W = .ok (.int .u8 (x.getD (k + 1) 0).toNat) W := fun W => by have := str_index x (k + 1) hk1 W; rwa [show ((k + 1 : Nat) : Int) = (k : Int) + 1 by omega] at this
        have hd : x.drop k = x.getD k 0 :: x.getD (k + 1) 0 :: x.drop (k + 2) := by
          rw [List.drop_eq_getElem_cons hlt, List.drop_eq_getElem_cons hk1]; simp [List.getD, hlt, hk1]
        rw [hd] at HU
        generalize x.getD k 0 = c0 at *
        generalize x.getD (k + 1) 0 = c1 at *
        clear hd
        have hs1 : IntKind.i64.wrap ((k : Int) + 1) = (k : Int) + 1 := by rw [IntKind.wrap_i64]; omega
        have e0 : (Int.toNat ((c0.toNat : Nat) : Int)).toUInt8 = c0 := by simp
        have e1 : (Int.toNat ((c1.toNat : Nat) : Int)).toUInt8 = c1 := by simp
        go_wp2_with fail
        go_quiet ((go_at_call 186; exact Calls.quiet_of_same (Tryd.strings_IndexByte _ _ _)))
        simp only [show ∀ c, Lib.indexByte [48, 49, 50, 51, 52, 53, 54, 55, 56, 57, 97, 98, 99, 100, 101, 102] c = Pl.hx c from fun _ => rfl, e0, e1]
        have HA2 : Hid (RawAt B b w r acc v (wr.drewN nq)) := HA.out.drewN nq
        have hd0 := Pl.hx_lt c0
        have hd1 := Pl.hx_lt c1
        have HUX := Lib.hid (HU.out.trans (congrArg (Option.map (acc ++ ·)) (show Pl.unhex (c0 :: c1 :: x.drop (k + 2)) = if 0 ≤ Pl.hx c0 ∧ 0 ≤ Pl.hx c1 then (Pl.unhex (x.drop (k + 2))).map (UInt8.ofNat (Pl.hx c0 * 16 + Pl.hx c1).toNat :: ·) else none from rfl)))
        clear HU HA i0 i1 hs1 e0 e1
        generalize Pl.hx c0 = h0 at *
        generalize Pl.hx c1 = h1 at *
        generalize wr.drewN nq = W2 at *
        by_cases hh : 0 ≤ h0 ∧ 0 ≤ h1
        · have HU3 := Lib.hid (HUX.out.trans (congrArg (Option.map (acc ++ ·)) (if_pos hh)))
          obtain ⟨hh0, hh1⟩ := hh
          have d0 : decide (0 ≤ h0) = true := decide_eq_true hh0
          have d1 : decide (0 ≤ h1) = true := decide_eq_true hh1
          obtain ⟨p, cc, rfl⟩ := ownsRow_slice HA2.out.own
          have c3 := HA2.out.st.cell 3
          have z3 := HA2.out.st.frozen 3
          have hsz2 := HA2.out.st.lt
          obtain ⟨m0, rfl⟩ : ∃ m : Nat, h0 = m := ⟨h0.toNat, by omega⟩
          obtain ⟨m1, rfl⟩ : ∃ m : Nat, h1 = m := ⟨h1.toNat, by omega⟩
          have hor := hex_or_nat m0 (by omega) m1 (by omega)
          clear HUX hh0 hh1
          have hacc : 0 < 1 ∧ acc.length + 1 ≤ 1000000 := by omega
          have hnews : ∀ j u, (byteCells [UInt8.ofNat (m0 * 16 + m1)])[j]? = some u → (W2.alloc (.cells #[.int .u8 ((m0 : Int) * 16 + m1)] 5)).cell? ((⟨W2.heap.size, 0, none⟩ : Addr).add j) = some u := by
            intro j u hu
            rw [byteCells_get] at hu
            match j, hu with
            | 0, hu =>
              rw [show (⟨W2.heap.size, 0, none⟩ : Addr).add 0 = ⟨W2.heap.size, 0, none⟩ from rfl, World.cell?_alloc_new]
              rw [← hu]
              have : (m0 * 16 + m1) % 256 = m0 * 16 + m1 := by omega
              simp [this]
            | j + 1, hu => simp at hu
          have HNEWS := Lib.hid hnews
          have HROW := Lib.hid (HA2.out.own.alloc (.cells #[.int .u8 ((m0 : Int) * 16 + m1)] 5))
          have HA3 : Hid (RawAt B b w r acc (.slice p acc.length cc) (W2.alloc (.cells #[.int .u8 ((m0 : Int) * 16 + m1)] 5))) := HA2.out.quiet ((Below.refl _ _).alloc (Nat.le_refl _) _)
          have hbase : w.heap.size + 2 ≤ (W2.alloc (.cells #[.int .u8 ((m0 : Int) * 16 + m1)] 5)).heap.size := by simp; omega
          clear hnews
          go_wp2_with (first | (go_at_call 135; refine (words_must_true _).mono ?_; rintro e w' ⟨rfl, rfl⟩) | (at_builtin; go_must (refine wpList_append_u8 rfl (.tmp 58) (.tmp 64) rfl (w.heap.size + 2) acc (.slice p acc.length cc) rfl HROW.out [UInt8.ofNat (m0 * 16 + m1)] ⟨W2.heap.size, 0, none⟩ 1 1 rfl rfl HNEWS.out hacc hbase ?_); intro g2 n2 c2 w1 hn hown' hgrow' hat; have hb1 := HA3.out.st.grown (r := (Value.slice p acc.length cc).ownBlock) (HA3.out.own_ne) hgrow'; have hc1 := hb1.cell 3; have hz1 := hb1.frozen 3; have HO1 := Lib.hid hown'; have HG := Lib.hid hgrow'; have HN1 := Lib.hid hn; clear hown' hgrow' hb1 hn hat))
          have HO2 := HO1.out
          rw [HN1.out] at HO2 ⊢
          have HA4 := Lib.hid (HA3.out.push HG.out HO2)
          clear HA3 HO1 HG HO2 HA2 hc1 hz1
          go_roundw
          case rel => exact ⟨k + 2, acc ++ [UInt8.ofNat (m0 * 16 + m1)], _, by omega, by omega, by simp; omega, by go_num, HA4.out, by
            show _ = _
            rw [HU3.out]
            have : ((m0 : Int) * 16 + m1).toNat = m0 * 16 + m1 := by omega
            rw [this, Option.map_map]
            congr 1
            funext y
            simp⟩
          case measure => simp [intOf]; omega
        · have HO : Hid (Pl.rraw (x :: r) = none) := by
            show _ = _
            rw [HX2.out, HUX.out, if_neg hh]; rfl
          have HG2 := Lib.hid HA2.out.grow
          by_cases d0 : 0 ≤ h0
          · have d1 : decide (0 ≤ h1) = false := decide_eq_false (fun h => hh ⟨d0, h⟩)
            have d0 : decide (0 ≤ h0) = true := decide_eq_true d0
            clear hh hd0 hd1
            go_wp2_with (go_at_call 135; refine (words_must_false _).mono ?_; rintro e w' ⟨rfl, rfl⟩; unfold malformed)
            exact ⟨rfl, HN.out _ HO.out HG2.out⟩
          · have d0 : decide (0 ≤ h0) = false := decide_eq_false d0
            clear hh hd0 hd1
            go_wp2_with (go_at_call 135; refine (words_must_false _).mono ?_; rintro e w' ⟨rfl, rfl⟩; unfold malformed)
            exact ⟨rfl, HN.out _ HO.out HG2.out⟩
      · obtain rfl : k = x.length := by omega
        have HU2 := Lib.hid (show Pl.unhex x = some acc by rw [HU.out]; simp [Pl.unhex])
        obtain ⟨p, cc, rfl⟩ := ownsRow_slice HA.out.own
        have HC := Lib.hid (command_Decode (.slice p acc.length cc) acc _ wr (Sl.of_row HA.out.own (byteCells_length acc)) (by omega))
        have c3 := HA.out.st.cell 3
        clear HU
        go_wp2_with fail
        refine HC.out.mono ?_
        rintro e w2 ⟨hb2, hcase⟩
        have HA2 : Hid (RawAt B b w r acc (.slice p acc.length cc) w2) := HA.out.quiet hb2
        clear hb2 HC HA c3
        rcases hdec : Pl.dec acc with _ | cmd
        · rw [hdec] at hcase
          obtain ⟨f, hf, rfl⟩ := hcase
          have HO := Lib.hid (show Pl.rraw (x :: r) = some (acc, r) by rw [HX2.out, HU2.out]; simp [hdec])
          have hfb : (f != 0) = true := by rw [bne_iff_ne]; exact hf
          clear hdec hf
          have HA3 : Hid (RawAt B b w r acc (.slice p acc.length cc) (w2.alloc (.cells zeroCmd.arr 164))) := HA2.out.quiet ((Below.refl _ _).alloc (Nat.le_refl _) _)
          unfold zeroCmd Pl.Cmd.arr at *
          have s0 := HA3.out.st.cell 0
          have s1 := HA3.out.st.cell 1
          have s2 := HA3.out.st.cell 2
          have s3 := HA3.out.st.cell 3
          have c0 := HA3.out.res.cell 0
          have c1 := HA3.out.res.cell 1
          have c2 := HA3.out.res.cell 2
          have c3 := HA3.out.res.cell 3
          have z0 := HA3.out.res.frozen 0
          have z1 := HA3.out.res.frozen 1
          have z2 := HA3.out.res.frozen 2
          have z3 := HA3.out.res.frozen 3
          go_wp2_with (go_at_call 135; refine (words_must_true _).mono ?_; rintro e w' ⟨rfl, rfl⟩)
          clear s0 s1 s2 s3 c0 c1 c2 c3 z0 z1 z2 z3
          have HK := Lib.hid ((((HA3.out.res.set 0 (.int .i64 1)).set 1 (.int .i64 0)).set 2 (.int .i64 0)).set 3 (.slice p acc.length cc))
          have hne : (Value.slice p acc.length cc).ownBlock ≠ some w.heap.size := fun e => by have := (HA3.out.own.lt _ e).1; omega
          have k := fun (W : World) (o : Nat) (x : Value) (h : W.ownsRow (w.heap.size + 2) 5 1 (.slice p acc.length cc) acc.length (byteCells acc)) => h.kept (grownBy_setCell W w.heap.size o x) (.inr hne)
          have k2 := fun (W : World) (o : Nat) (x : Value) (h : Rdr B W b r) => h.setOther (g := w.heap.size) (o := o) (x := x) (by omega) hB
          have k3 := fun (W : World) (o : Nat) (x : Value) (h : w.grownBy W (some b)) => grownBy_setNew (g := w.heap.size) (o := o) (x := x) h (Nat.le_refl _)
          exact bodyPost_ret (v := .agg (stepArr 1 0 0 (.slice p acc.length cc))) (results_cell_row rfl _ _ w.heap.size _ _ (0, 0) _ rfl HK.out Tryd.underlying42 rfl (by kernel_rfl)) rfl (HY.out _ HO.out rfl (k3 _ 3 _ (k3 _ 2 _ (k3 _ 1 _ (k3 _ 0 _ HA3.out.grow)))) (k2 _ 3 _ (k2 _ 2 _ (k2 _ 1 _ (k2 _ 0 _ HA3.out.rdr)))) (ownsRow_base (by omega) (k _ 3 _ (k _ 2 _ (k _ 1 _ (k _ 0 _ HA3.out.own))))))
        · rw [hdec] at hcase
          obtain rfl := hcase
          have HO := Lib.hid (show Pl.rraw (x :: r) = none by rw [HX2.out, HU2.out]; simp [hdec])
          clear hdec
          have HG2 : Hid (w.grownBy (w2.alloc (.cells cmd.arr 164)) (some b)) := HA2.out.grow.trans (World.grownBy_alloc _ _ _)
          unfold Pl.Cmd.arr at *
          go_wp2_with (go_at_call 135; refine (words_must_false _).mono ?_; rintro e w' ⟨rfl, rfl⟩; unfold malformed)
          exact ⟨rfl, HN.out _ HO.out HG2.out⟩
  · have HO := Lib.hid (HX.out.trans (if_neg h1))
    clear HX
    by_cases d1 : (0 : Int) < x.length
    · by_cases d2 : (((x.length : Int) % 2) == 0) = true
      · have d3 : decide ((x.length : Int) ≤ 128) = false := decide_eq_false (fun h => h1 ⟨by omega, by rw [beq_iff_eq] at d2; omega, by omega⟩)
        clear h1
        go_wp2_with (go_at_call 135; refine (words_must_false _).mono ?_; rintro e w' ⟨rfl, rfl⟩; unfold malformed)
        exact ⟨rfl, HN.out _ HO.out HA1.out.grow⟩
      · have d2 : (((x.length : Int) % 2) == 0) = false := by simpa using d2
        clear h1
        go_wp2_with (go_at_call 135; refine (words_must_false _).mono ?_; rintro e w' ⟨rfl, rfl⟩; unfold malformed)
        exact ⟨rfl, HN.out _ HO.out HA1.out.grow⟩
    · have d1 : decide ((0 : Int) < x.length) = false := decide_eq_false d1
      clear h1
      go_wp2_with (go_at_call 135; refine (words_must_false _).mono ?_; rintro e w' ⟨rfl, rfl⟩; unfold malformed)
      exact ⟨rfl, HN.out _ HO.out HA1.out.grow⟩
theorem reader_raw (b : Nat) (l : List (List UInt8)) (w : World) (h : Rdr B w b l) (hB : B ≤ w.heap.size) : Calls Tryd.prog 134 #[.pointer (some ⟨b, 0, none⟩)] w (RawPost B b (Pl.rraw l) w) := by
  cases l with
  | nil => exact raw_nil b w h
  | cons x r => exact raw_some b x r w h hB

end Go.Proofs.YtbcepdacfmbekaaDoor
