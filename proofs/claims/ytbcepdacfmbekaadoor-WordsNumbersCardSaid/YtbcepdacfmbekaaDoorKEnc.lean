/-
  The walk of command.Encode.
-/
import Derived.Test.YtbcepdacfmbekaaDoorKCmd
namespace Go.Proofs.YtbcepdacfmbekaaDoor
open Go.RowKit

def Pl.u8 (n : Int) : UInt8 := UInt8.ofNat n.toNat
theorem conv_u8 {n : Int} (h : 0 ≤ n) : IntKind.u8.wrap n = ((Pl.u8 n).toNat : Int) := by
  unfold Pl.u8
  rw [IntKind.wrap_u8, UInt8.toNat_ofNat']
  omega
theorem conv_u64 {n : Nat} (h : n ≤ 9223372036854775807) : IntKind.u64.wrap (n : Int) = (n : Int) := by
  rw [IntKind.wrap_u64]
  omega

/-- The bytes of a command that is right. -/
def Pl.form (c : Pl.Cmd) : List UInt8 :=
  [Pl.u8 c.kind, Pl.u8 c.sym] ++ numB c.id.toNat ++ (if c.kind = 1 then numB c.owner.toNat ++ [Pl.u8 c.side, Pl.u8 c.type, Pl.u8 c.flags] else []) ++
    (if c.kind = 2 then [] else be8 (zig c.price) ++ be8 (zig c.qty))

theorem tmp_keep {w w' : World} {b g : Nat} {cs : Array Value} {T : TypeId} (h : Blk w g cs T) (hb : g ≠ b) (hr : some g ≠ wrow w b) (hG : WGrow b w w') : Blk w' g cs T ∧ some g ≠ wrow w' b := by
  refine ⟨(hG.keep g h.lt hb hr).trans h, fun e => ?_⟩
  rcases hG.row g e.symm with h1 | h1
  · exact hr h1.symm
  · have := h.lt; omega

theorem be8_length (n : Nat) : (be8 n).length = 8 := beTop_length n 8

/-- While the writer is written to by operation number e of a region. -/
def encI (b : Nat) (W : World) (l0 l1 : List UInt8) (e : Nat) (S : Nat → Bool) (w' : World) : Prop := Hid (WGrow b W w') ∧ (S e = false → Hid (Wtr w' b l0)) ∧ (S e = true → Hid (Wtr w' b l1)) ∧ b < W.heap.size
theorem encI_start {b e : Nat} {W : World} {l0 l1 : List UInt8} (h : Wtr W b l0) : encI b W l0 l1 e (fun _ => false) W.drew :=
  ⟨WGrow.of_grown h.lt (grownBy_drew (grownBy_refl _ _)), fun _ => h.below (Nat.le_refl _) (Below.refl _ _).drew, fun hx => (by cases hx), h.lt⟩
theorem encI_alloc {b e i : Nat} {W w' : World} {l0 l1 : List UInt8} {S : Nat → Bool} (h : encI b W l0 l1 e S w') (hi : e ≠ i) (o : Obj) : encI b W l0 l1 e (upS S i) (w'.alloc o) := by
  have hs : upS S i e = S e := by simp [upS, hi]
  have hlt : b < w'.heap.size := Nat.lt_of_lt_of_le h.2.2.2 h.1.out.below.size
  refine ⟨h.1.out.trans (WGrow.of_grown hlt (World.grownBy_alloc _ _ _)), ?_, ?_, h.2.2.2⟩
  · rw [hs]; exact fun hx => (h.2.1 hx).out.below (Nat.le_refl _) ((Below.refl _ _).alloc (Nat.le_refl _) _)
  · rw [hs]; exact fun hx => (h.2.2.1 hx).out.below (Nat.le_refl _) ((Below.refl _ _).alloc (Nat.le_refl _) _)
theorem encI_call {b e : Nat} {W w' w'' : World} {l0 l1 : List UInt8} {S : Nat → Bool} (h : encI b W l0 l1 e S w') (hG : WGrow b w' w'') (hW : Wtr w'' b l1) : encI b W l0 l1 e (upS S e) w'' :=
  ⟨h.1.out.trans hG, fun hx => by simp [upS] at hx, fun _ => hW, h.2.2.2⟩
theorem encI_new {b e : Nat} {W w' : World} {l0 l1 : List UInt8} {S : Nat → Bool} (h : encI b W l0 l1 e S w') : w'.heap.size ≠ b ∧ some w'.heap.size ≠ wrow w' b := by
  have hlt : b < w'.heap.size := Nat.lt_of_lt_of_le h.2.2.2 h.1.out.below.size
  refine ⟨by omega, fun e' => ?_⟩
  have hw : ∃ l, Wtr w' b l := by
    cases hs : S e
    · exact ⟨_, (h.2.1 hs).out⟩
    · exact ⟨_, (h.2.2.1 hs).out⟩
  obtain ⟨l, v, h1, h2⟩ := hw
  rw [wrow_blk h1] at e'
  have := (h2.lt _ e'.symm).2
  omega
theorem encI_wrow_alloc {b e : Nat} {W w' : World} {l0 l1 : List UInt8} {S : Nat → Bool} (h : encI b W l0 l1 e S w') (o : Obj) : wrow (w'.alloc o) b = wrow w' b := by
  have hlt : b < w'.heap.size := Nat.lt_of_lt_of_le h.2.2.2 h.1.out.below.size
  exact wrow_same ((World.grownBy_alloc w' o none).block b hlt (by simp))
def encV4 (b cb idn : Nat) (kind sym : Int) (d : Nat) : Value → World → Prop :=
  match d with
  | 10 => fun v _ => v = .pointer (some ⟨b, 0, none⟩)
  | 11 => fun v _ => v = .pointer (some ⟨cb, 0, none⟩)
  | 12 => fun v _ => v = .int .i64 kind
  | 13 => fun v _ => v = .int .u8 (Pl.u8 kind).toNat
  | 14 => fun v _ => v = .pointer (some ⟨cb, 1, none⟩)
  | 15 => fun v _ => v = .int .i64 sym
  | 16 => fun v _ => v = .int .u8 (Pl.u8 sym).toNat
  | 17 => fun v w => ∃ g, v = .slice (some ⟨g, 0, none⟩) 2 2 ∧ g ≠ b ∧ some g ≠ wrow w b ∧ Blk w g #[.int .u8 (Pl.u8 kind).toNat, .int .u8 (Pl.u8 sym).toNat] 5
  | 18 => fun v _ => v = .pointer (some ⟨b, 0, none⟩)
  | 19 => fun v _ => v = .pointer (some ⟨cb, 2, none⟩)
  | 20 => fun v _ => v = .int .i64 idn
  | 21 => fun v _ => v = .int .u64 idn
  | _ => fun _ _ => True
theorem encV4_call {b cb idn : Nat} {kind sym : Int} {d : Nat} {x : Value} {w w' : World} (h : encV4 b cb idn kind sym d x w) (_ : d ≠ 18) (hG : WGrow b w w') : encV4 b cb idn kind sym d x w' := by
  unfold encV4 at h ⊢
  split at h
  all_goals first | exact h | (obtain ⟨g, h1, h2, h3, h4⟩ := h; exact ⟨g, h1, h2, (tmp_keep h4 h2 h3 hG).2, (tmp_keep h4 h2 h3 hG).1⟩)
theorem encV4_quiet {b cb idn : Nat} {kind sym : Int} {d : Nat} {x : Value} {w w' : World} (h : encV4 b cb idn kind sym d x w) (hd : d ≠ 17) : encV4 b cb idn kind sym d x w' := by
  unfold encV4 at h ⊢
  split at h
  all_goals first | exact h | exact absurd rfl hd
def encV6 (b cb own : Nat) (side type flags : Int) (d : Nat) : Value → World → Prop :=
  match d with
  | 26 => fun v _ => v = .pointer (some ⟨b, 0, none⟩)
  | 27 => fun v _ => v = .pointer (some ⟨cb, 3, none⟩)
  | 28 => fun v _ => v = .int .i64 own
  | 29 => fun v _ => v = .int .u64 own
  | 30 => fun v _ => v = .pointer (some ⟨b, 0, none⟩)
  | 31 => fun v _ => v = .pointer (some ⟨cb, 4, none⟩)
  | 32 => fun v _ => v = .int .i64 side
  | 33 => fun v _ => v = .int .u8 (Pl.u8 side).toNat
  | 34 => fun v _ => v = .pointer (some ⟨cb, 5, none⟩)
  | 35 => fun v _ => v = .int .i64 type
  | 36 => fun v _ => v = .int .u8 (Pl.u8 type).toNat
  | 37 => fun v _ => v = .pointer (some ⟨cb, 8, none⟩)
  | 38 => fun v _ => v = .int .i64 flags
  | 39 => fun v _ => v = .int .u8 (Pl.u8 flags).toNat
  | 40 => fun v w => ∃ g, v = .slice (some ⟨g, 0, none⟩) 3 3 ∧ g ≠ b ∧ some g ≠ wrow w b ∧ Blk w g #[.int .u8 (Pl.u8 side).toNat, .int .u8 (Pl.u8 type).toNat, .int .u8 (Pl.u8 flags).toNat] 5
  | _ => fun _ _ => True
theorem encV6_call {b cb own : Nat} {side type flags : Int} {d : Nat} {x : Value} {w w' : World} (h : encV6 b cb own side type flags d x w) (_ : d ≠ 30) (hG : WGrow b w w') : encV6 b cb own side type flags d x w' := by
  unfold encV6 at h ⊢
  split at h
  all_goals first | exact h | (obtain ⟨g, h1, h2, h3, h4⟩ := h; exact ⟨g, h1, h2, (tmp_keep h4 h2 h3 hG).2, (tmp_keep h4 h2 h3 hG).1⟩)
theorem encV6_quiet {b cb own : Nat} {side type flags : Int} {d : Nat} {x : Value} {w w' : World} (h : encV6 b cb own side type flags d x w) (hd : d ≠ 40) : encV6 b cb own side type flags d x w' := by
  unfold encV6 at h ⊢
  split at h
  all_goals first | exact h | exact absurd rfl hd
def encV8 (b cb : Nat) (price qty : Int) (d : Nat) : Value → World → Prop :=
  match d with
  | 45 => fun v _ => v = .pointer (some ⟨b, 0, none⟩)
  | 46 => fun v _ => v = .pointer (some ⟨cb, 6, none⟩)
  | 47 => fun v _ => v = .int .i64 price
  | 48 => fun v _ => v = .pointer (some ⟨b, 0, none⟩)
  | 49 => fun v _ => v = .pointer (some ⟨cb, 7, none⟩)
  | 50 => fun v _ => v = .int .i64 qty
  | _ => fun _ _ => True
theorem encV8_call {b cb : Nat} {price qty : Int} {d : Nat} {x : Value} {w w' : World} (h : encV8 b cb price qty d x w) (_ : d ≠ 48) (_ : WGrow b w w') : encV8 b cb price qty d x w' := by
  unfold encV8 at h ⊢
  split at h
  all_goals first | exact h

def EncPost (c : Pl.Cmd) (w : World) (e : Ending) (w' : World) : Prop := Below w.heap.size w w' ∧ if Pl.cmdRight c = true then ∃ v, e = .returned (.tuple #[v, .int .i64 0]) ∧ w'.ownsRow w.heap.size 5 1 v (Pl.form c).length (byteCells (Pl.form c)) else e = .returned (.tuple #[.slice none 0 0, .int .i64 1])

set_option maxHeartbeats 8000000 in
set_option maxRecDepth 100000 in
theorem command_Encode (c : Pl.Cmd) (w : World) (hp : -9223372036854775808 ≤ c.price ∧ c.price ≤ 9223372036854775807) (hq : -9223372036854775808 ≤ c.qty ∧ c.qty ≤ 9223372036854775807) : Calls Tryd.prog 225 #[.agg c.arr] w (EncPost c w) := by
  have HN := Lib.hid (fun w' (h : Pl.cmdRight c = false) (hb : Below w.heap.size w w') => show EncPost c w (.returned (.tuple #[.slice none 0 0, .int .i64 1])) w' from ⟨hb, by rw [h]; rfl⟩)
  have HY := Lib.hid (fun w' v (h : Pl.cmdRight c = true) (hb : Below w.heap.size w w') (ho : w'.ownsRow w.heap.size 5 1 v (Pl.form c).length (byteCells (Pl.form c))) => show EncPost c w (.returned (.tuple #[v, .int .i64 0])) w' from ⟨hb, by rw [h]; exact ⟨v, rfl, ho⟩⟩)
  have HRT := Lib.hid (fun w => command_Right c w)
  have HC0 := Lib.hid (Blk.alloc (w := w) c.arr 164)
  have HP := Lib.hid hp
  have HQ := Lib.hid hq
  have HOK := Lib.hid (show Pl.cmdRight c = true ↔ Pl.CmdOk c from decide_eq_true_iff)
  clear hp hq
  have hsz : (w.alloc (.cells c.arr 164)).heap.size = w.heap.size + 1 := World.size_alloc _ _
  have HB0 : Hid (Below w.heap.size w (w.alloc (.cells c.arr 164))) := (Below.refl _ _).alloc (Nat.le_refl _) _
  go_enter Tryd.func225, Tryd.ntmps225
  go_wp2_with (first | (refine wpList_load_row rfl 164 _ rfl w.heap.size rfl 164 c.arr (0, 0) _ HC0.out Tryd.underlying164 rfl (by kernel_rfl) ?_) | fail)
  generalize w.alloc (.cells c.arr 164) = w0 at *
  refine (HRT.out w0).mono ?_
  rintro e w1 ⟨rfl, hb1⟩
  have HB1 : Hid (Below w.heap.size w w1) := HB0.out.trans (hb1.mono (by omega))
  have HC1 : Hid (Blk w1 w.heap.size c.arr 164) := HC0.out.below (by omega) hb1
  have hsw : w.heap.size < w1.heap.size := by have := hb1.size; omega
  clear hb1 HC0 HB0
  cases hr : Pl.cmdRight c with
  | false =>
    have HR := Lib.hid hr
    clear hr
    go_wp2_with fail
    go_ret2
    exact HN.out w1 HR.out HB1.out
  | true =>
    have HR := Lib.hid hr
    have HOK2 := Lib.hid (HOK.out.1 hr)
    have hb := Wtr.lt (w := w1.alloc (.cells #[.slice none 0 0] 273)) (b := w1.heap.size) (l := []) ⟨_, Blk.alloc _ _, World.ownsRow_nil _ _ _ _⟩
    have HW2 : Hid (Wtr (w1.alloc (.cells #[.slice none 0 0] 273)) w1.heap.size []) := ⟨_, Blk.alloc _ _, World.ownsRow_nil _ _ _ _⟩
    have HC2 : Hid (Blk (w1.alloc (.cells #[.slice none 0 0] 273)) w.heap.size c.arr 164) := HC1.out.grown (r := none) (by simp) (World.grownBy_alloc _ _ _)
    have HB2 : Hid (Below w.heap.size w (w1.alloc (.cells #[.slice none 0 0] 273))) := HB1.out.alloc HB1.out.size _
    have hEq : Pl.form c = Pl.form c := rfl
    clear hr HOK
    go_wp2_with fail
    generalize w1.alloc (.cells #[.slice none 0 0] 273) = W2 at *
    obtain ⟨b, hbd⟩ : ∃ b, b = w1.heap.size := ⟨_, rfl⟩
    obtain ⟨cb, hcbd⟩ : ∃ cb, cb = w.heap.size := ⟨_, rfl⟩
    have hcb : cb < b := by omega
    rw [← hbd] at HW2 hb
    rw [← hcbd] at HC2
    rw [← hbd, ← hcbd]
    have HBD := Lib.hid hbd
    have HCBD := Lib.hid hcbd
    clear hbd hcbd HC1 HB1 hEq hsw
    obtain ⟨kind, sym, id, owner, side, type, price, qty, flags⟩ := c
    have hok := HOK2.out
    unfold Pl.CmdOk at hok
    simp only at hok
    obtain ⟨idn, rfl⟩ := Int.eq_ofNat_of_zero_le (show 0 ≤ id by omega)
    obtain ⟨own, rfl⟩ := Int.eq_ofNat_of_zero_le (show 0 ≤ owner by omega)
    have HKIND : Hid (0 ≤ kind) := by show 0 ≤ kind; omega
    have HSYM : Hid (0 ≤ sym) := by show 0 ≤ sym; omega
    have HID : Hid (idn ≤ 9223372036854775807) := by show _ ≤ _; omega
    have HOWNR : Hid (own ≤ 9223372036854775807) := by show _ ≤ _; omega
    clear hok
    have HCB := HC2
    simp only [Pl.Cmd.arr] at HCB
    clear HC2 HRT
    refine wp_region_eff (by kernel_rfl) (n := 54) rfl (by kernel_rfl) 12 rfl (by kernel_rfl) [[], [], [11], [12], [], [14], [15], [13, 16], [10, 17], [], [19], [20], [18, 21, 18]] (by kernel_rfl) [1, 4] (by kernel_rfl) [10, 11, 12, 13, 14, 15, 16, 17, 18, 19, 20, 21] (by kernel_rfl) _ rfl [22] rfl (encV4 b cb idn kind sym) (encI b W2 [] [Pl.u8 kind, Pl.u8 sym] 8)   (encI_start HW2.out) ?_ ?_
    · simp only [AllStepsS]
      refine ⟨fun _ => ?_, fun _ => ?_, fun _ => ?_, fun _ => ?_, fun _ => ?_, fun _ => ?_, fun _ => ?_, fun _ => ?_, fun _ => ?_, fun _ => ?_, fun _ => ?_, fun _ => ?_, fun h => absurd h (by decide), trivial⟩
      all_goals (intro S a' w' hS hI hd0 hnw hds K hK; clear hd0)
      all_goals (have h1 : a'.tmps.getD 1 undef = .pointer (some ⟨cb, 0, none⟩) := hnw 1 (by simp); have h4 : a'.tmps.getD 4 undef = .pointer (some ⟨b, 0, none⟩) := hnw 4 (by simp); clear hnw)
      · go_simp
        exact hK _ _ (fun d hd => by cases hd; rfl) hI (fun _ _ _ h => h)
      · go_simp
        exact hK _ _ (fun d hd => by cases hd; rfl) hI (fun _ _ _ h => h)
      · have h11 := getD_form (show a'.tmps.getD 11 undef = .pointer (some ⟨cb, 0, none⟩) from hds 11 (by simp))
        have hcl : w'.cell? ⟨cb, 0, none⟩ = some (.int .i64 kind) := (HCB.out.below hcb hI.1.out.below).cell 0
        go_simp
        exact hK _ _ (fun d hd => by cases hd; rfl) hI (fun _ _ _ h => h)
      · have h12 := getD_form (show a'.tmps.getD 12 undef = .int .i64 kind from hds 12 (by simp))
        go_simp
        exact hK _ _ (fun d hd => by cases hd; exact congrArg (Value.int IntKind.u8) (conv_u8 HKIND.out)) hI (fun _ _ _ h => h)
      · go_simp
        exact hK _ _ (fun d hd => by cases hd; rfl) hI (fun _ _ _ h => h)
      · have h14 := getD_form (show a'.tmps.getD 14 undef = .pointer (some ⟨cb, 1, none⟩) from hds 14 (by simp))
        have hcl : w'.cell? ⟨cb, 1, none⟩ = some (.int .i64 sym) := (HCB.out.below hcb hI.1.out.below).cell 1
        go_simp
        exact hK _ _ (fun d hd => by cases hd; rfl) hI (fun _ _ _ h => h)
      · have h15 := getD_form (show a'.tmps.getD 15 undef = .int .i64 sym from hds 15 (by simp))
        go_simp
        exact hK _ _ (fun d hd => by cases hd; exact congrArg (Value.int IntKind.u8) (conv_u8 HSYM.out)) hI (fun _ _ _ h => h)
      · have h13 := getD_form (show a'.tmps.getD 13 undef = .int .u8 (Pl.u8 kind).toNat from hds 13 (by simp))
        have h16 := getD_form (show a'.tmps.getD 16 undef = .int .u8 (Pl.u8 sym).toNat from hds 16 (by simp))
        have hnew := encI_new hI
        go_simp
        exact hK _ _ (fun d hd => by cases hd; exact ⟨_, rfl, hnew.1, by rw [encI_wrow_alloc hI]; exact hnew.2, Blk.alloc _ _⟩) (encI_alloc hI (by decide) _) (fun d x hd h => encV4_quiet h (fun e => hd (by rw [e])))
      · have h10 := getD_form (show a'.tmps.getD 10 undef = .pointer (some ⟨b, 0, none⟩) from hds 10 (by simp))
        obtain ⟨g, h17, hgb, hgr, hgk⟩ := (show encV4 b cb idn kind sym 17 _ _ from hds 17 (by simp))
        have h17 := getD_form h17
        go_simp
        refine (writer_Raw b [] [Pl.u8 kind, Pl.u8 sym] ⟨g, 0, none⟩ 2 2 w' (hI.2.1 hS).out rfl (World.news_of_block (cs := #[.int .u8 (Pl.u8 kind).toNat, .int .u8 (Pl.u8 sym).toNat]) hgk) (by simp)).mono ?_
        rintro e w3 ⟨rfl, hW, hG⟩
        exact hK _ w3 (fun d hd => by cases hd; rfl) (encI_call hI hG hW) (fun d x hd h => encV4_call h (fun e => hd (by rw [e])) hG)
      · go_simp
        exact hK _ _ (fun d hd => by cases hd; rfl) hI (fun _ _ _ h => h)
      · have h19 := getD_form (show a'.tmps.getD 19 undef = .pointer (some ⟨cb, 2, none⟩) from hds 19 (by simp))
        have hcl : w'.cell? ⟨cb, 2, none⟩ = some (.int .i64 (idn : Int)) := (HCB.out.below hcb hI.1.out.below).cell 2
        go_simp
        exact hK _ _ (fun d hd => by cases hd; rfl) hI (fun _ _ _ h => h)
      · have h20 := getD_form (show a'.tmps.getD 20 undef = .int .i64 idn from hds 20 (by simp))
        go_simp
        exact hK _ _ (fun d hd => by cases hd; exact congrArg (Value.int IntKind.u64) (conv_u64 HID.out)) hI (fun _ _ _ h => h)
    · intro S f w4 hS hI hv
      have f18 : f 18 = .pointer (some ⟨b, 0, none⟩) := hv 18 (by simp)
      have f21 : f 21 = .int .u64 idn := hv 21 (by simp)
      have HG4 := hI.1
      have HW4 := hI.2.2.1 (hS 8 (by omega))
      clear hv hI hS
      refine ⟨?_⟩
      simp only [putMany, List.cons_append, List.nil_append]
      go_simp
      refine (writer_Num b idn _ w4 HW4.out (by have := HID.out; omega) (by simp)).mono ?_
      rintro e w5 ⟨rfl, hW5, hG5⟩
      have HGw5 : Hid (WGrow b W2 w5) := HG4.out.trans hG5
      have HWw5 := Lib.hid hW5
      clear hW5 hG5 HG4 HW4
      have HLI : Hid ((numB idn).length ≤ 10) := by have := numB_length 9 idn (by have := HID.out; omega); show _ ≤ _; omega
      have HLO : Hid ((numB own).length ≤ 10) := by have := numB_length 9 own (by have := HOWNR.out; omega); show _ ≤ _; omega
      have hck5 : w5.cell? ⟨cb, 0, none⟩ = some (.int .i64 kind) := (HCB.out.below hcb HGw5.out.below).cell 0
      by_cases hk1 : kind = 1
      · have hb1 : (kind == 1) = true := beq_iff_eq.2 hk1
        have hb2 : (kind == 2) = false := by rw [beq_eq_false_iff_ne]; omega
        have HF := Lib.hid (show Pl.form ⟨kind, sym, idn, own, side, type, price, qty, flags⟩ = [Pl.u8 kind, Pl.u8 sym] ++ numB idn ++ numB own ++ [Pl.u8 side, Pl.u8 type, Pl.u8 flags] ++ be8 (zig price) ++ be8 (zig qty) by simp [Pl.form, hk1])
        have hok := HOK2.out
        unfold Pl.CmdOk at hok
        simp only at hok
        have HSIDE : Hid (0 ≤ side) := by show 0 ≤ side; omega
        have HTYPE : Hid (0 ≤ type) := by show 0 ≤ type; omega
        have HFLAGS : Hid (0 ≤ flags) := by show 0 ≤ flags; omega
        clear hok hk1
        go_wp2_with fail
        refine wp_region_eff (by kernel_rfl) (n := 54) rfl (by kernel_rfl) 15 rfl (by kernel_rfl) [[], [], [27], [28], [26, 29], [], [31], [32], [], [34], [35], [], [37], [38], [33, 36, 39], [30, 40, 30]] (by kernel_rfl) [1, 4] (by kernel_rfl) [26, 27, 28, 29, 30, 31, 32, 33, 34, 35, 36, 37, 38, 39, 40] (by kernel_rfl) _ rfl [41] rfl (encV6 b cb own side type flags) (encI b w5 ([Pl.u8 kind, Pl.u8 sym] ++ numB idn) ([Pl.u8 kind, Pl.u8 sym] ++ numB idn ++ numB own) 4)   (encI_start HWw5.out) ?_ ?_
        · simp only [AllStepsS]
          refine ⟨fun _ => ?_, fun _ => ?_, fun _ => ?_, fun _ => ?_, fun _ => ?_, fun _ => ?_, fun _ => ?_, fun _ => ?_, fun _ => ?_, fun _ => ?_, fun _ => ?_, fun _ => ?_, fun _ => ?_, fun _ => ?_, fun _ => ?_, fun h => absurd h (by decide), trivial⟩
          all_goals (intro S a' w' hS hI hd0 hnw hds K hK; clear hd0)
          all_goals (have h1 : a'.tmps.getD 1 undef = .pointer (some ⟨cb, 0, none⟩) := hnw 1 (by simp); have h4 : a'.tmps.getD 4 undef = .pointer (some ⟨b, 0, none⟩) := hnw 4 (by simp); clear hnw)
          · go_simp
            exact hK _ _ (fun d hd => by cases hd; rfl) hI (fun _ _ _ h => h)
          · go_simp
            exact hK _ _ (fun d hd => by cases hd; rfl) hI (fun _ _ _ h => h)
          · have h27 := getD_form (show a'.tmps.getD 27 undef = .pointer (some ⟨cb, 3, none⟩) from hds 27 (by simp))
            have hcl : w'.cell? ⟨cb, 3, none⟩ = some (.int .i64 (own : Int)) := (HCB.out.below hcb (HGw5.out.trans hI.1.out).below).cell 3
            go_simp
            exact hK _ _ (fun d hd => by cases hd; rfl) hI (fun _ _ _ h => h)
          · have h28 := getD_form (show a'.tmps.getD 28 undef = .int .i64 own from hds 28 (by simp))
            go_simp
            exact hK _ _ (fun d hd => by cases hd; exact congrArg (Value.int IntKind.u64) (conv_u64 HOWNR.out)) hI (fun _ _ _ h => h)
          · have h26 := getD_form (show a'.tmps.getD 26 undef = .pointer (some ⟨b, 0, none⟩) from hds 26 (by simp))
            have h29 := getD_form (show a'.tmps.getD 29 undef = .int .u64 own from hds 29 (by simp))
            go_simp
            refine (writer_Num b own _ w' (hI.2.1 hS).out (by have := HOWNR.out; omega) (by have := HLI.out; have := HLO.out; simp only [List.length_append, List.length_cons, List.length_nil, be8_length]; omega)).mono ?_
            rintro e w3 ⟨rfl, hW, hG⟩
            exact hK _ w3 (fun d hd => by cases hd; rfl) (encI_call hI hG hW) (fun d x hd h => encV6_call h (fun e => hd (by rw [e])) hG)
          · go_simp
            exact hK _ _ (fun d hd => by cases hd; rfl) hI (fun _ _ _ h => h)
          · have h31 := getD_form (show a'.tmps.getD 31 undef = .pointer (some ⟨cb, 4, none⟩) from hds 31 (by simp))
            have hcl : w'.cell? ⟨cb, 4, none⟩ = some (.int .i64 side) := (HCB.out.below hcb (HGw5.out.trans hI.1.out).below).cell 4
            go_simp
            exact hK _ _ (fun d hd => by cases hd; rfl) hI (fun _ _ _ h => h)
          · have h32 := getD_form (show a'.tmps.getD 32 undef = .int .i64 side from hds 32 (by simp))
            go_simp
            exact hK _ _ (fun d hd => by cases hd; exact congrArg (Value.int IntKind.u8) (conv_u8 HSIDE.out)) hI (fun _ _ _ h => h)
          · go_simp
            exact hK _ _ (fun d hd => by cases hd; rfl) hI (fun _ _ _ h => h)
          · have h34 := getD_form (show a'.tmps.getD 34 undef = .pointer (some ⟨cb, 5, none⟩) from hds 34 (by simp))
            have hcl : w'.cell? ⟨cb, 5, none⟩ = some (.int .i64 type) := (HCB.out.below hcb (HGw5.out.trans hI.1.out).below).cell 5
            go_simp
            exact hK _ _ (fun d hd => by cases hd; rfl) hI (fun _ _ _ h => h)
          · have h35 := getD_form (show a'.tmps.getD 35 undef = .int .i64 type from hds 35 (by simp))
            go_simp
            exact hK _ _ (fun d hd => by cases hd; exact congrArg (Value.int IntKind.u8) (conv_u8 HTYPE.out)) hI (fun _ _ _ h => h)
          · go_simp
            exact hK _ _ (fun d hd => by cases hd; rfl) hI (fun _ _ _ h => h)
          · have h37 := getD_form (show a'.tmps.getD 37 undef = .pointer (some ⟨cb, 8, none⟩) from hds 37 (by simp))
            have hcl : w'.cell? ⟨cb, 8, none⟩ = some (.int .i64 flags) := (HCB.out.below hcb (HGw5.out.trans hI.1.out).below).cell 8
            go_simp
            exact hK _ _ (fun d hd => by cases hd; rfl) hI (fun _ _ _ h => h)
          · have h38 := getD_form (show a'.tmps.getD 38 undef = .int .i64 flags from hds 38 (by simp))
            go_simp
            exact hK _ _ (fun d hd => by cases hd; exact congrArg (Value.int IntKind.u8) (conv_u8 HFLAGS.out)) hI (fun _ _ _ h => h)
          · have h33 := getD_form (show a'.tmps.getD 33 undef = .int .u8 (Pl.u8 side).toNat from hds 33 (by simp))
            have h36 := getD_form (show a'.tmps.getD 36 undef = .int .u8 (Pl.u8 type).toNat from hds 36 (by simp))
            have h39 := getD_form (show a'.tmps.getD 39 undef = .int .u8 (Pl.u8 flags).toNat from hds 39 (by simp))
            have hnew := encI_new hI
            go_simp
            exact hK _ _ (fun d hd => by cases hd; exact ⟨_, rfl, hnew.1, by rw [encI_wrow_alloc hI]; exact hnew.2, Blk.alloc _ _⟩) (encI_alloc hI (by decide) _) (fun d x hd h => encV6_quiet h (fun e => hd (by rw [e])))
        · intro S f w4 hS hI hv
          have f30 : f 30 = .pointer (some ⟨b, 0, none⟩) := hv 30 (by simp)
          obtain ⟨g, f40, hgb, hgr, hgk⟩ := (show encV6 b cb own side type flags 40 _ _ from hv 40 (by simp))
          have HG4 := hI.1
          have HW4 := hI.2.2.1 (hS 4 (by omega))
          clear hv hI hS
          refine ⟨?_⟩
          simp only [putMany, List.cons_append, List.nil_append]
          go_simp
          refine (writer_Raw b _ [Pl.u8 side, Pl.u8 type, Pl.u8 flags] ⟨g, 0, none⟩ 3 3 w4 HW4.out rfl (World.news_of_block (cs := #[.int .u8 (Pl.u8 side).toNat, .int .u8 (Pl.u8 type).toNat, .int .u8 (Pl.u8 flags).toNat]) hgk) (by have := HLI.out; have := HLO.out; refine ⟨by omega, ?_⟩; simp only [List.length_append, List.length_cons, List.length_nil, be8_length]; omega)).mono ?_
          rintro e w6 ⟨rfl, hW5, hG5⟩
          have HGw6 : Hid (WGrow b W2 w6) := HGw5.out.trans (HG4.out.trans hG5)
          have HWw6 := Lib.hid hW5
          clear hW5 hG5 HG4 HW4
          have hck6 : w6.cell? ⟨cb, 0, none⟩ = some (.int .i64 kind) := (HCB.out.below hcb HGw6.out.below).cell 0
          go_wp2_with fail
          clear hck5 hck6
          refine wp_region_eff (by kernel_rfl) (n := 54) rfl (by kernel_rfl) 6 rfl (by kernel_rfl) [[], [], [46], [45, 47], [], [49], [48, 50, 48]] (by kernel_rfl) [1, 4] (by kernel_rfl) [45, 46, 47, 48, 49, 50] (by kernel_rfl) _ rfl [51] rfl (encV8 b cb price qty) (encI b w6 ([Pl.u8 kind, Pl.u8 sym] ++ numB idn ++ numB own ++ [Pl.u8 side, Pl.u8 type, Pl.u8 flags]) ([Pl.u8 kind, Pl.u8 sym] ++ numB idn ++ numB own ++ [Pl.u8 side, Pl.u8 type, Pl.u8 flags] ++ be8 (zig price)) 3)   (encI_start HWw6.out) ?_ ?_
          · simp only [AllStepsS]
            refine ⟨fun _ => ?_, fun _ => ?_, fun _ => ?_, fun _ => ?_, fun _ => ?_, fun _ => ?_, fun h => absurd h (by decide), trivial⟩
            all_goals (intro S a' w' hS hI hd0 hnw hds K hK; clear hd0)
            all_goals (have h1 : a'.tmps.getD 1 undef = .pointer (some ⟨cb, 0, none⟩) := hnw 1 (by simp); have h4 : a'.tmps.getD 4 undef = .pointer (some ⟨b, 0, none⟩) := hnw 4 (by simp); clear hnw)
            · go_simp
              exact hK _ _ (fun d hd => by cases hd; rfl) hI (fun _ _ _ h => h)
            · go_simp
              exact hK _ _ (fun d hd => by cases hd; rfl) hI (fun _ _ _ h => h)
            · have h46 := getD_form (show a'.tmps.getD 46 undef = .pointer (some ⟨cb, 6, none⟩) from hds 46 (by simp))
              have hcl : w'.cell? ⟨cb, 6, none⟩ = some (.int .i64 price) := (HCB.out.below hcb (HGw6.out.trans hI.1.out).below).cell 6
              go_simp
              exact hK _ _ (fun d hd => by cases hd; rfl) hI (fun _ _ _ h => h)
            · have h45 := getD_form (show a'.tmps.getD 45 undef = .pointer (some ⟨b, 0, none⟩) from hds 45 (by simp))
              have h47 := getD_form (show a'.tmps.getD 47 undef = .int .i64 price from hds 47 (by simp))
              go_simp
              refine (writer_Int b price _ w' (hI.2.1 hS).out HP.out.1 HP.out.2 (by have := HLI.out; have := HLO.out; simp only [List.length_append, List.length_cons, List.length_nil, be8_length]; omega)).mono ?_
              rintro e w3 ⟨rfl, hW, hG⟩
              exact hK _ w3 (fun d hd => by cases hd; rfl) (encI_call hI hG hW) (fun d x hd h => encV8_call h (fun e => hd (by rw [e])) hG)
            · go_simp
              exact hK _ _ (fun d hd => by cases hd; rfl) hI (fun _ _ _ h => h)
            · have h49 := getD_form (show a'.tmps.getD 49 undef = .pointer (some ⟨cb, 7, none⟩) from hds 49 (by simp))
              have hcl : w'.cell? ⟨cb, 7, none⟩ = some (.int .i64 qty) := (HCB.out.below hcb (HGw6.out.trans hI.1.out).below).cell 7
              go_simp
              exact hK _ _ (fun d hd => by cases hd; rfl) hI (fun _ _ _ h => h)
          · intro S f w4 hS hI hv
            have f48 : f 48 = .pointer (some ⟨b, 0, none⟩) := hv 48 (by simp)
            have f50 : f 50 = .int .i64 qty := hv 50 (by simp)
            have HG4 := hI.1
            have HW4 := hI.2.2.1 (hS 3 (by omega))
            clear hv hI hS
            refine ⟨?_⟩
            simp only [putMany, List.cons_append, List.nil_append]
            go_simp
            refine (writer_Int b qty _ w4 HW4.out HQ.out.1 HQ.out.2 (by have := HLI.out; have := HLO.out; simp only [List.length_append, List.length_cons, List.length_nil, be8_length]; omega)).mono ?_
            rintro e w7 ⟨rfl, hW5, hG5⟩
            have HGw7 : Hid (WGrow b W2 w7) := HGw6.out.trans (HG4.out.trans hG5)
            have HWw7 := Lib.hid hW5
            clear hW5 hG5 HG4 HW4
            go_wp2_with fail
            refine (writer_Bytes b _ w7 HWw7.out (by simp) (by have := HLI.out; have := HLO.out; simp only [List.length_append, List.length_cons, List.length_nil, be8_length]; omega)).mono ?_
            rintro e w9 ⟨v9, rfl, hown9, hb9⟩
            have HO9 := Lib.hid hown9
            have HB9 := Lib.hid hb9
            clear hown9 hb9
            go_wp2_with fail
            go_ret2
            have e9 := HO9.out
            rw [← HF.out] at e9
            have hs9 := HGw7.out.below.size
            have hs2 := HB2.out.size
            exact HY.out w9 v9 HR.out ((HB2.out.trans (HGw7.out.below.mono (by have := HCBD.out; omega))).trans (HB9.out.mono (by omega))) (ownsRow_base (by omega) e9)
      · by_cases hk3 : kind = 2
        · have hb1 : (kind == 1) = false := by rw [beq_eq_false_iff_ne]; exact hk1
          have hb2 : (kind == 2) = true := beq_iff_eq.2 hk3
          have HF := Lib.hid (show Pl.form ⟨kind, sym, idn, own, side, type, price, qty, flags⟩ = [Pl.u8 kind, Pl.u8 sym] ++ numB idn by simp [Pl.form, hk1, hk3])
          clear hk1 hk3
          go_wp2_with fail
          refine (writer_Bytes b _ w5 HWw5.out (by simp) (by have := HLI.out; have := HLO.out; simp only [List.length_append, List.length_cons, List.length_nil, be8_length]; omega)).mono ?_
          rintro e w9 ⟨v9, rfl, hown9, hb9⟩
          have HO9 := Lib.hid hown9
          have HB9 := Lib.hid hb9
          clear hown9 hb9
          go_wp2_with fail
          go_ret2
          have e9 := HO9.out
          rw [← HF.out] at e9
          have hs9 := HGw5.out.below.size
          have hs2 := HB2.out.size
          exact HY.out w9 v9 HR.out ((HB2.out.trans (HGw5.out.below.mono (by have := HCBD.out; omega))).trans (HB9.out.mono (by omega))) (ownsRow_base (by omega) e9)
        · have hb1 : (kind == 1) = false := by rw [beq_eq_false_iff_ne]; exact hk1
          have hb2 : (kind == 2) = false := by rw [beq_eq_false_iff_ne]; exact hk3
          have HF := Lib.hid (show Pl.form ⟨kind, sym, idn, own, side, type, price, qty, flags⟩ = [Pl.u8 kind, Pl.u8 sym] ++ numB idn ++ be8 (zig price) ++ be8 (zig qty) by simp [Pl.form, hk1, hk3])
          clear hk1 hk3
          go_wp2_with fail
          refine wp_region_eff (by kernel_rfl) (n := 54) rfl (by kernel_rfl) 6 rfl (by kernel_rfl) [[], [], [46], [45, 47], [], [49], [48, 50, 48]] (by kernel_rfl) [1, 4] (by kernel_rfl) [45, 46, 47, 48, 49, 50] (by kernel_rfl) _ rfl [51] rfl (encV8 b cb price qty) (encI b w5 ([Pl.u8 kind, Pl.u8 sym] ++ numB idn) ([Pl.u8 kind, Pl.u8 sym] ++ numB idn ++ be8 (zig price)) 3)   (encI_start HWw5.out) ?_ ?_
          · simp only [AllStepsS]
            refine ⟨fun _ => ?_, fun _ => ?_, fun _ => ?_, fun _ => ?_, fun _ => ?_, fun _ => ?_, fun h => absurd h (by decide), trivial⟩
            all_goals (intro S a' w' hS hI hd0 hnw hds K hK; clear hd0)
            all_goals (have h1 : a'.tmps.getD 1 undef = .pointer (some ⟨cb, 0, none⟩) := hnw 1 (by simp); have h4 : a'.tmps.getD 4 undef = .pointer (some ⟨b, 0, none⟩) := hnw 4 (by simp); clear hnw)
            · go_simp
              exact hK _ _ (fun d hd => by cases hd; rfl) hI (fun _ _ _ h => h)
            · go_simp
              exact hK _ _ (fun d hd => by cases hd; rfl) hI (fun _ _ _ h => h)
            · have h46 := getD_form (show a'.tmps.getD 46 undef = .pointer (some ⟨cb, 6, none⟩) from hds 46 (by simp))
              have hcl : w'.cell? ⟨cb, 6, none⟩ = some (.int .i64 price) := (HCB.out.below hcb (HGw5.out.trans hI.1.out).below).cell 6
              go_simp
              exact hK _ _ (fun d hd => by cases hd; rfl) hI (fun _ _ _ h => h)
            · have h45 := getD_form (show a'.tmps.getD 45 undef = .pointer (some ⟨b, 0, none⟩) from hds 45 (by simp))
              have h47 := getD_form (show a'.tmps.getD 47 undef = .int .i64 price from hds 47 (by simp))
              go_simp
              refine (writer_Int b price _ w' (hI.2.1 hS).out HP.out.1 HP.out.2 (by have := HLI.out; have := HLO.out; simp only [List.length_append, List.length_cons, List.length_nil, be8_length]; omega)).mono ?_
              rintro e w3 ⟨rfl, hW, hG⟩
              exact hK _ w3 (fun d hd => by cases hd; rfl) (encI_call hI hG hW) (fun d x hd h => encV8_call h (fun e => hd (by rw [e])) hG)
            · go_simp
              exact hK _ _ (fun d hd => by cases hd; rfl) hI (fun _ _ _ h => h)
            · have h49 := getD_form (show a'.tmps.getD 49 undef = .pointer (some ⟨cb, 7, none⟩) from hds 49 (by simp))
              have hcl : w'.cell? ⟨cb, 7, none⟩ = some (.int .i64 qty) := (HCB.out.below hcb (HGw5.out.trans hI.1.out).below).cell 7
              go_simp
              exact hK _ _ (fun d hd => by cases hd; rfl) hI (fun _ _ _ h => h)
          · intro S f w4 hS hI hv
            have f48 : f 48 = .pointer (some ⟨b, 0, none⟩) := hv 48 (by simp)
            have f50 : f 50 = .int .i64 qty := hv 50 (by simp)
            have HG4 := hI.1
            have HW4 := hI.2.2.1 (hS 3 (by omega))
            clear hv hI hS
            refine ⟨?_⟩
            simp only [putMany, List.cons_append, List.nil_append]
            go_simp
            refine (writer_Int b qty _ w4 HW4.out HQ.out.1 HQ.out.2 (by have := HLI.out; have := HLO.out; simp only [List.length_append, List.length_cons, List.length_nil, be8_length]; omega)).mono ?_
            rintro e w7 ⟨rfl, hW5, hG5⟩
            have HGw7 : Hid (WGrow b W2 w7) := HGw5.out.trans (HG4.out.trans hG5)
            have HWw7 := Lib.hid hW5
            clear hW5 hG5 HG4 HW4
            go_wp2_with fail
            refine (writer_Bytes b _ w7 HWw7.out (by simp) (by have := HLI.out; have := HLO.out; simp only [List.length_append, List.length_cons, List.length_nil, be8_length]; omega)).mono ?_
            rintro e w9 ⟨v9, rfl, hown9, hb9⟩
            have HO9 := Lib.hid hown9
            have HB9 := Lib.hid hb9
            clear hown9 hb9
            go_wp2_with fail
            go_ret2
            have e9 := HO9.out
            rw [← HF.out] at e9
            have hs9 := HGw7.out.below.size
            have hs2 := HB2.out.size
            exact HY.out w9 v9 HR.out ((HB2.out.trans (HGw7.out.below.mono (by have := HCBD.out; omega))).trans (HB9.out.mono (by omega))) (ownsRow_base (by omega) e9)

end Go.Proofs.YtbcepdacfmbekaaDoor
