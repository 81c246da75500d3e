/-
  The walks of the writer of bytes (package octets): numbers.
-/
import Derived.Test.YtbcepdacfmbekaaDoorKOct
namespace Go.Proofs.YtbcepdacfmbekaaDoor
open Go.RowKit

/-- The byte of weight 256 ^ i. -/
def byteAt (n i : Nat) : UInt8 := UInt8.ofNat (n / 256 ^ i % 256)
theorem byteAt_val (n i : Nat) : ((byteAt n i).toNat : Int) = ((n / 256 ^ i % 256 : Nat) : Int) := by
  unfold byteAt
  rw [UInt8.toNat_ofNat', Nat.mod_mod_of_dvd]
  decide
theorem shr_at (n i : Nat) : (n : Int) / 2 ^ (8 * (i : Int)).toNat = ((n / 256 ^ i : Nat) : Int) := by
  rw [show (8 * (i : Int)).toNat = 8 * i by omega, show (2 : Int) ^ (8 * i) = ((256 ^ i : Nat) : Int) by rw [Int.pow_mul]; norm_cast]
  norm_cast
theorem conv_at (n i : Nat) : IntKind.u8.wrap ((n / 256 ^ i : Nat) : Int) = ((byteAt n i).toNat : Int) := by
  rw [byteAt_val, IntKind.wrap_u8]
  generalize n / 256 ^ i = q
  omega
/-- The k bytes of greatest weight among 8. -/
def beTop (n : Nat) : Nat → List UInt8
  | 0 => []
  | k + 1 => beTop n k ++ [byteAt n (7 - k)]
def be8 (n : Nat) : List UInt8 := beTop n 8
theorem beTop_length (n k : Nat) : (beTop n k).length = k := by
  induction k with
  | zero => rfl
  | succ k ih => simp [beTop, ih]
def uintV (b n i hz : Nat) (l : List UInt8) (v0 : Value) (d : Nat) : Value → World → Prop :=
  match d with
  | 25 => fun v _ => v = .pointer (some ⟨b, 0, none⟩)
  | 26 => fun v _ => v = .pointer (some ⟨b, 0, none⟩)
  | 27 => fun v _ => v = .pointer (some ⟨b, 0, none⟩)
  | 28 => fun v _ => v = .pointer (some ⟨b, 0, none⟩)
  | 29 => fun v _ => v = v0
  | 30 => fun v _ => v = .int .u64 n
  | 31 => fun v _ => v = .int .i64 i
  | 32 => fun v _ => v = .int .i64 (8 * i : Nat)
  | 33 => fun v _ => v = .int .u64 (n / 256 ^ i : Nat)
  | 34 => fun v _ => v = .int .u8 (byteAt n i).toNat
  | 35 => fun v w => ∃ g, v = .slice (some ⟨g, 0, none⟩) 1 1 ∧ b < g ∧ some g ≠ v0.ownBlock ∧ Blk w g #[.int .u8 (byteAt n i).toNat] 5
  | 36 => fun v w => ∃ g c, v = .slice (some ⟨g, 0, none⟩) (l.length + 1) c ∧ w.ownsRow (b + 1) 5 1 (.slice (some ⟨g, 0, none⟩) (l.length + 1) c) (l.length + 1) (byteCells (l ++ [byteAt n i])) ∧ (v0.ownBlock = some g ∨ hz ≤ g)
  | 37 => fun v _ => v = .pointer (some ⟨b, 0, none⟩)
  | 38 => fun v _ => v = .pointer (some ⟨b, 0, none⟩)
  | _ => fun _ _ => True
def uintI (wr : World) (b : Nat) (l : List UInt8) (v : Value) (S : Nat → Bool) (w' : World) : Prop :=
  Hid (wr.grownBy w' v.ownBlock) ∧ Blk w' b #[v] 273 ∧ (S 11 = false → Hid (w'.ownsRow (b + 1) 5 1 v l.length (byteCells l))) ∧ b < wr.heap.size ∧ Hid (wr.ownsRow (b + 1) 5 1 v l.length (byteCells l))
theorem uint_new {w w' : World} {B n : Nat} {e : TypeId} {v : Value} {xs : List Value} (h : w.ownsRow B e 1 v n xs) (hg : Hid (w.grownBy w' v.ownBlock)) : some w'.heap.size ≠ v.ownBlock := by
  intro e
  have := (h.lt _ e.symm).2
  have := hg.out.size
  omega
theorem uintI_alloc {wr w' : World} {b : Nat} {l : List UInt8} {v : Value} {S : Nat → Bool} (h : uintI wr b l v S w') (o : Obj) : uintI wr b l v (upS S 10) (w'.alloc o) :=
  ⟨h.1.out.trans (World.grownBy_alloc _ _ _), h.2.1.grown (r := none) (by simp) (World.grownBy_alloc _ _ _), fun hs => (h.2.2.1 hs).out.alloc _, h.2.2.2⟩
theorem uintI_app {wr w' w1 : World} {b : Nat} {l : List UInt8} {v : Value} {S : Nat → Bool} (h : uintI wr b l v S w') (hg : w'.grownBy w1 v.ownBlock) : uintI wr b l v (upS S 11) w1 :=
  ⟨h.1.out.trans hg, h.2.1.grown (r := v.ownBlock) (fun e => by have := (h.2.2.2.2.out.lt b e.symm).1; omega) hg, fun hs => (by cases hs), h.2.2.2⟩
theorem uintV_alloc {b n i hz d : Nat} {l : List UInt8} {v x : Value} {w : World} (h : uintV b n i hz l v d x w) (o : Obj) : uintV b n i hz l v d x (w.alloc o) := by
  unfold uintV at h ⊢
  split at h
  all_goals first
    | exact h
    | (obtain ⟨g, h1, h2, h3, h4⟩ := h; exact ⟨g, h1, h2, h3, h4.grown (r := none) (by simp) (World.grownBy_alloc _ _ _)⟩)
    | (obtain ⟨p, c, h1, h2, h3⟩ := h; exact ⟨p, c, h1, h2.alloc _, h3⟩)
theorem uintV_app {b n i hz d : Nat} {l : List UInt8} {v x : Value} {w w1 : World} (h : uintV b n i hz l v d x w) (hd : d ≠ 36) (hg : w.grownBy w1 v.ownBlock) : uintV b n i hz l v d x w1 := by
  unfold uintV at h ⊢
  split at h
  all_goals first
    | exact h
    | (obtain ⟨g, h1, h2, h3, h4⟩ := h; exact ⟨g, h1, h2, h3, h4.grown h3 hg⟩)
    | exact absurd rfl hd

set_option maxHeartbeats 1000000 in
set_option maxRecDepth 100000 in
theorem writer_Uint (b n : Nat) (l : List UInt8) (w : World) (h : Wtr w b l) (hn : n < 18446744073709551616) (hl : l.length ≤ 100000) :
    Calls Tryd.prog 246 #[.pointer (some ⟨b, 0, none⟩), .int .u64 n, .int .i64 8] w (WPost b (l ++ be8 n) w) := by
  go_enter Tryd.func246, Tryd.ntmps246
  go_wp2_with fail
  go_loopw [7] (fun iv wr => ∃ k : Nat, k ≤ 8 ∧ iv = .int .i64 (7 - k) ∧ Hid (Wtr wr b (l ++ beTop n k)) ∧ Hid (WGrow b w wr)) (fun iv _ => (intOf iv + 1).toNat)
  case atStart => exact ⟨0, by omega, rfl, by show Wtr _ _ _; simpa [beTop] using h, WGrow.refl _ _⟩
  case round =>
    obtain ⟨k, hk, rfl, HW, HB⟩ := hrel
    by_cases hlt : k < 8
    · have hd : ((7 : Int) - k < 0) = False := eq_false (by omega)
      obtain ⟨i, hi⟩ : ∃ i : Nat, i = 7 - k := ⟨_, rfl⟩
      rw [show (7 : Int) - k = (i : Int) by omega]
      have hi0 : (0 : Int) ≤ (i : Int) := by omega
      have hi7 : (i : Int) ≤ 7 := by omega
      have hwr : IntKind.i64.wrap (8 * (i : Int)) = ((8 * i : Nat) : Int) := by rw [IntKind.wrap_i64]; omega
      have HIK := Lib.hid hi
      clear hi hd
      have hd : ((i : Int) < 0) = False := eq_false (by omega)
      go_wp2_with fail
      obtain ⟨v, hblk, hown⟩ := HW.out
      have hlb := hblk.lt
      have HBLK := Lib.hid hblk
      have HOWN := Lib.hid hown
      clear hblk hown
      generalize hll : l ++ beTop n k = ll at *
      have hlll : ll.length ≤ 100010 := by rw [← hll]; simp [beTop_length]; omega
      have HLL := Lib.hid hll
      clear hll
      refine wp_region_eff (by kernel_rfl) (n := 40) rfl (by kernel_rfl) 14 rfl (by kernel_rfl) [[], [], [26], [27], [28], [], [], [31], [30, 32], [33], [34], [29, 35], [25, 25, 26, 27, 28, 29, 30, 31, 32, 33, 34, 35, 36], [37, 25, 26, 27, 28, 29, 30, 31, 32, 33, 34, 35, 36], [38, 36, 36, 25, 26, 27, 28, 29, 30, 31, 32, 33, 34, 35, 36]] (by kernel_rfl) [0, 1, 7] (by kernel_rfl) [25, 26, 27, 28, 29, 30, 31, 32, 33, 34, 35, 36, 37, 38] (by kernel_rfl) _ rfl [] rfl (uintV b n i wr.heap.size ll v) (uintI wr b ll v)   ⟨grownBy_drew (grownBy_refl _ _), HBLK.out, fun _ => HOWN.out.drew, hlb, HOWN.out⟩ ?_ ?_
      · simp only [AllStepsS]
        refine ⟨fun _ => ?_, fun _ => ?_, fun _ => ?_, fun _ => ?_, fun _ => ?_, fun _ => ?_, fun _ => ?_, fun _ => ?_, fun _ => ?_, fun _ => ?_, fun _ => ?_, fun _ => ?_, fun _ => ?_, fun _ => ?_, fun h => absurd h (by decide), trivial⟩
        all_goals (intro S a' w' hS hI hd0 hnw hds K hK; clear hd0)
        all_goals (have h0 : a'.tmps.getD 0 undef = .pointer (some ⟨b, 0, none⟩) := hnw 0 (by simp); have h1 : a'.tmps.getD 1 undef = .int .u64 n := hnw 1 (by simp); have h7 : a'.tmps.getD 7 undef = .int .i64 i := hnw 7 (by simp); clear hnw)
        · go_simp
          exact hK _ _ (fun d hd => by cases hd; rfl) hI (fun _ _ _ h => h)
        · go_simp
          exact hK _ _ (fun d hd => by cases hd; rfl) hI (fun _ _ _ h => h)
        · have h26 := getD_form (show a'.tmps.getD 26 undef = .pointer (some ⟨b, 0, none⟩) from hds 26 (by simp))
          go_simp
          exact hK _ _ (fun d hd => by cases hd; rfl) hI (fun _ _ _ h => h)
        · have h27 := getD_form (show a'.tmps.getD 27 undef = .pointer (some ⟨b, 0, none⟩) from hds 27 (by simp))
          go_simp
          exact hK _ _ (fun d hd => by cases hd; rfl) hI (fun _ _ _ h => h)
        · have h28 := getD_form (show a'.tmps.getD 28 undef = .pointer (some ⟨b, 0, none⟩) from hds 28 (by simp))
          have hcl : w'.cell? ⟨b, 0, none⟩ = some v := hI.2.1.cell 0
          go_simp
          exact hK _ _ (fun d hd => by cases hd; rfl) hI (fun _ _ _ h => h)
        · go_simp
          exact hK _ _ (fun d hd => by cases hd; rfl) hI (fun _ _ _ h => h)
        · go_simp
          exact hK _ _ (fun d hd => by cases hd; rfl) hI (fun _ _ _ h => h)
        · have h31 := getD_form (show a'.tmps.getD 31 undef = .int .i64 i from hds 31 (by simp))
          go_simp
          exact hK _ _ (fun d hd => by cases hd; rfl) hI (fun _ _ _ h => h)
        · have h30 := getD_form (show a'.tmps.getD 30 undef = .int .u64 n from hds 30 (by simp))
          have h32 := getD_form (show a'.tmps.getD 32 undef = .int .i64 (8 * i : Nat) from hds 32 (by simp))
          go_simp
          exact hK _ _ (fun d hd => by cases hd; exact congrArg (Value.int IntKind.u64) (shr_at n i)) hI (fun _ _ _ h => h)
        · have h33 := getD_form (show a'.tmps.getD 33 undef = .int .u64 (n / 256 ^ i : Nat) from hds 33 (by simp))
          go_simp
          exact hK _ _ (fun d hd => by cases hd; exact congrArg (Value.int IntKind.u8) (conv_at n i)) hI (fun _ _ _ h => h)
        · have h34 := getD_form (show a'.tmps.getD 34 undef = .int .u8 (byteAt n i).toNat from hds 34 (by simp))
          have hlt' := hI.2.1.lt
          go_simp
          exact hK _ _ (fun d hd => by cases hd; exact ⟨_, rfl, hlt', uint_new HOWN.out hI.1, Blk.alloc _ _⟩) (uintI_alloc hI _) (fun _ _ _ h => uintV_alloc h _)
        · have h29 := getD_form (show a'.tmps.getD 29 undef = v from hds 29 (by simp))
          obtain ⟨g, h35, hbg, hgo, hgk⟩ := (show uintV b n i wr.heap.size ll v 35 _ _ from hds 35 (by simp))
          have h35 := getD_form h35
          have hlt' := hI.2.1.lt
          refine go_wanted rfl ?_
          refine wp_append_u8 (.tmp 29) (.tmp 35) rfl (b + 1) ll v (by go_simp) (hI.2.2.1 hS).out [byteAt n i] ⟨g, 0, none⟩ 1 1 (by go_simp) rfl (World.news_of_block (cs := #[.int .u8 (byteAt n i).toNat]) hgk) (by omega) (by omega) ?_
          intro p m c w1 hm hown hgrow hat
          have hsw := hI.1.out.size
          obtain rfl : m = ll.length + 1 := by rw [hm]; simp
          exact hK _ _ (fun d hd => by cases hd; exact ⟨p, c, rfl, hown, hat.imp id (fun e => by omega)⟩) (uintI_app hI hgrow) (fun d x hd h => uintV_app h (fun e => hd (by rw [e])) hgrow)
        · have h25 := getD_form (show a'.tmps.getD 25 undef = .pointer (some ⟨b, 0, none⟩) from hds 25 (by simp))
          go_simp
          exact hK _ _ (fun d hd => by cases hd; rfl) hI (fun _ _ _ h => h)
        · have h37 := getD_form (show a'.tmps.getD 37 undef = .pointer (some ⟨b, 0, none⟩) from hds 37 (by simp))
          go_simp
          exact hK _ _ (fun d hd => by cases hd; rfl) hI (fun _ _ _ h => h)
      · intro S f w' hS hI hv
        have f38 : f 38 = .pointer (some ⟨b, 0, none⟩) := hv 38 (by simp)
        obtain ⟨p, c, f36, hown, hat⟩ := (show uintV b n i wr.heap.size ll v 36 _ _ from hv 36 (by simp))
        have hbk := hI.2.1
        have hc := hbk.cell 0
        have hz := hbk.frozen 0
        have HO := Lib.hid hown
        have HBK := Lib.hid hbk
        have HG := hI.1
        have HST := Lib.hid (wtr_store (l' := ll ++ [byteAt n i]) HBLK.out HOWN.out (by simpa using hown) HG.out (row_at hat))
        clear hv hI hown hbk hlll hat
        refine ⟨?_⟩
        simp only [putMany, List.cons_append, List.nil_append]
        go_simp
        go_wp2_with fail
        go_roundw
        case rel => exact ⟨k + 1, by omega, by have := HIK.out; first | (congr 1; omega) | congr 1, by show Wtr _ _ _; rw [beTop, ← List.append_assoc, HLL.out, ← HIK.out]; exact HST.out.1, HB.out.trans HST.out.2⟩
        case measure => simp [intOf]
    · obtain rfl : k = 8 := by omega
      go_wp2_with fail
      go_ret
      exact ⟨rfl, HW.out, HB.out⟩

end Go.Proofs.YtbcepdacfmbekaaDoor
