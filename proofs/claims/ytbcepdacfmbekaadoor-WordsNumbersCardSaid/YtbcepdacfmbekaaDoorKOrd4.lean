/-
  The walk of the reader of bytes (package octets): Num.
-/
import Derived.Test.YtbcepdacfmbekaaDoorKOrd3
import Derived.WalkMore
import Derived.Deep.LoopGhost
namespace Go.Proofs.YtbcepdacfmbekaaDoor
open Go.RowKit
variable {B : Nat → Prop}

/-- A number in groups of seven bits ahead: k groups may come, of which the first is number i; n is what came. -/
def rdN : Nat → Nat → Nat → List UInt8 → Nat × Option (List UInt8)
  | 0, _, _, _ => (0, none)
  | _ + 1, _, _, [] => (0, none)
  | k + 1, i, n, c :: r => if i = 9 ∧ 1 < c.toNat % 128 then (0, none) else if 128 ≤ c.toNat then rdN k (i + 1) (n + c.toNat % 128 * 128 ^ i) r else if c.toNat % 128 = 0 ∧ 0 < i then (0, none) else (n + c.toNat % 128 * 128 ^ i, some r)
def rdNum : Option (List UInt8) → Nat × Option (List UInt8)
  | some l => rdN 10 0 0 l
  | none => (0, none)

set_option maxRecDepth 100000 in
theorem andNot_128 : ∀ q : Fin 256, bits .andNot .u8 (q.val : Int) 128 = ((q.val % 128 : Nat) : Int) := by decide +kernel
theorem andNot_byte (c : UInt8) : bits .andNot .u8 (c.toNat : Int) 128 = ((c.toNat % 128 : Nat) : Int) := andNot_128 ⟨c.toNat, c.toNat_lt⟩

theorem pow_128 (i : Nat) : 128 ^ i = 2 ^ (7 * i) := by rw [Nat.pow_mul]
theorem or_group (m d i : Nat) (hm : m < 128 ^ i) (hb : d * 128 ^ i + m < 18446744073709551616) : bits .or .u64 (m : Int) ((d * 128 ^ i : Nat) : Int) = ((m + d * 128 ^ i : Nat) : Int) := by
  rw [bits_or_u64_nat _ _ (by omega) (by omega)]
  rw [pow_128] at hm ⊢
  have := Nat.shiftLeft_add_eq_or_of_lt hm d
  rw [Nat.shiftLeft_eq] at this
  rw [Nat.or_comm, ← this, Nat.add_comm]
theorem rdN_bad {k i m : Nat} {c : UInt8} {r : List UInt8} (h : (i = 9 ∧ 1 < c.toNat % 128) ∨ (c.toNat < 128 ∧ c.toNat % 128 = 0 ∧ 0 < i)) : rdN (k + 1) i m (c :: r) = (0, none) := by
  simp only [rdN]
  by_cases h1 : i = 9 ∧ 1 < c.toNat % 128
  · rw [if_pos h1]
  · rw [if_neg h1, if_neg (by omega), if_pos (by omega)]
theorem rdN_more {k i m : Nat} {c : UInt8} {r : List UInt8} (h : ¬ (i = 9 ∧ 1 < c.toNat % 128)) (h2 : 128 ≤ c.toNat) : rdN (k + 1) i m (c :: r) = rdN k (i + 1) (m + c.toNat % 128 * 128 ^ i) r := by
  simp only [rdN]
  rw [if_neg h, if_pos h2]
theorem rdN_done {k i m : Nat} {c : UInt8} {r : List UInt8} (h : ¬ (i = 9 ∧ 1 < c.toNat % 128)) (h2 : c.toNat < 128) (h3 : ¬ (c.toNat % 128 = 0 ∧ 0 < i)) : rdN (k + 1) i m (c :: r) = (m + c.toNat % 128 * 128 ^ i, some r) := by
  simp only [rdN]
  rw [if_neg h, if_neg (by omega), if_neg h3]
theorem group_le {d i : Nat} (hd : d < 128) : d * 128 ^ i + 128 ^ i ≤ 128 ^ (i + 1) := by
  rw [Nat.pow_succ, show d * 128 ^ i + 128 ^ i = (d + 1) * 128 ^ i by rw [Nat.add_mul]; omega, Nat.mul_comm (128 ^ i)]
  exact Nat.mul_le_mul_right _ (by omega)

def NumPost' (B : Nat → Prop) (b : Nat) (R : Nat × Option (List UInt8)) (w : World) (e : Ending) (w' : World) : Prop := UPost B b (.int .u64 R.1) R.2 w e w'

set_option maxHeartbeats 1500000 in
set_option maxRecDepth 100000 in
theorem ord_Num (b : Nat) (s : Option (List UInt8)) (w : World) (h : Ord B w b s) : Calls Tryd.prog 166 #[.pointer (some ⟨b, 0, none⟩)] w (NumPost' B b (rdNum s) w) := by
  have hlt := h.lt
  cases s with
  | none =>
    have HC := Lib.hid (take_fault b 1 w h)
    have HR := Lib.hid (fun w' (hg : w.grownBy w' (some b)) (ho : Ord B w' b none) => show NumPost' B b (rdNum none) w (.returned (.int .u64 0)) w' from ⟨rfl, hg, ho⟩)
    clear h
    go_enter Tryd.func166, Tryd.ntmps166
    go_wp2_with fail
    go_step3
    go_wp2_with fail
    go_step3
    go_wp2_with fail
    go_loopg [2, 4] 0 (fun _ nv iv wr => nv = .int .u64 0 ∧ iv = .int .i64 0 ∧ wr = w)
    case atStart => exact ⟨rfl, rfl, rfl⟩
    case round =>
      obtain ⟨rfl, rfl, rfl⟩ := hrel
      go_wp2_with fail
      refine HC.out.mono ?_
      rintro e w1 ⟨rfl, hg, ho⟩
      have HG1 := Lib.hid hg
      have HO1 := Lib.hid ho
      clear hg ho
      go_wp2_with fail
      try rw [Exit.noGoto_ret]
      go_ret
      exact HR.out _ HG1.out HO1.out
  | some l =>
    have HR := Lib.hid (fun w' v s' (hr : rdNum (some l) = (v, s')) (hg : w.grownBy w' (some b)) (ho : Ord B w' b s') => show NumPost' B b (rdNum (some l)) w (.returned (.int .u64 v)) w' from by unfold NumPost'; rw [hr]; exact ⟨rfl, hg, ho⟩)
    have HO0 := Lib.hid h
    clear h
    go_enter Tryd.func166, Tryd.ntmps166
    go_wp2_with fail
    go_step3
    go_wp2_with fail
    go_step3
    go_wp2_with fail
    go_loopg [2, 4] 10 (fun q nv iv wr => ∃ (i m : Nat) (l' : List UInt8), i + q = 10 ∧ iv = .int .i64 i ∧ nv = .int .u64 m ∧ m < 128 ^ i ∧ Hid (w.grownBy wr (some b)) ∧ Hid (Ord B wr b (some l')) ∧ Hid (rdNum (some l) = rdN q i m l'))
    case atStart => exact ⟨0, 0, l, rfl, rfl, rfl, by decide, grownBy_refl _ _, HO0.out, rfl⟩
    case round =>
      obtain ⟨i, m, l', hiq, rfl, rfl, hm, HG, HO, HE⟩ := hrel
      by_cases hi : i = 10
      · subst hi
        obtain rfl : gk = 0 := by omega
        go_wp2_with fail
        refine (ord_bad b l' wr HO.out).mono ?_
        rintro e w1 ⟨rfl, hg, ho⟩
        have HG1 := Lib.hid (HG.out.trans hg)
        have HO1 := Lib.hid ho
        clear hg ho
        go_wp2_with fail
        try rw [Exit.noGoto_ret]
        go_ret
        exact HR.out _ 0 none (by rw [HE.out]; rfl) HG1.out HO1.out
      · have hi9 : i ≤ 9 := by omega
        have hd : ((i : Int) < 10) = True := eq_true (by omega)
        obtain ⟨k, hk⟩ : ∃ k, gk = k + 1 := ⟨gk - 1, by omega⟩
        rw [hk] at HE
        have HGK := Lib.hid hk
        clear hk
        rcases l' with _ | ⟨c, r⟩
        · have HC := Lib.hid (take_short b 1 [] wr HO.out (by simp) (by decide))
          go_wp2_with fail
          refine HC.out.mono ?_
          rintro e w1 ⟨rfl, hg, ho⟩
          have HG1 := Lib.hid (HG.out.trans hg)
          have HO1 := Lib.hid ho
          clear hg ho
          go_wp2_with fail
          try rw [Exit.noGoto_ret]
          go_ret
          exact HR.out _ 0 none (by rw [HE.out]; rfl) HG1.out HO1.out
        · have HC := Lib.hid (take_yes b 1 (c :: r) wr HO.out (by decide) (by simp))
          go_wp2_with fail
          refine HC.out.mono ?_
          rintro e w1 ⟨g, o, cc, rfl, hgb, hgl, hcs, hg, ho⟩
          have HG1 := Lib.hid (HG.out.trans hg)
          have HO1 : Hid (Ord B w1 b (some r)) := ho
          have hc0 : w1.cell? ⟨g, o, none⟩ = some (.int .u8 c.toNat) := hcs 0 _ rfl
          have hcb := c.toNat_lt
          have hcn : (0 : Int) ≤ c.toNat := by omega
          have hcn2 : (c.toNat : Int) ≤ 255 := by omega
          clear hg ho hcs HC
          have han := andNot_byte c
          have hdl : c.toNat % 128 < 128 := Nat.mod_lt _ (by decide)
          have HGR := Lib.hid (group_le (i := i) hdl)
          have HM := Lib.hid hm
          clear hm hdl
          have HD : Hid (i = 9 → c.toNat % 128 ≤ 1 ) → Hid (bits .or .u64 (m : Int) (IntKind.u64.wrap ((c.toNat : Int) % 128 * 2 ^ (7 * i))) = ((m + c.toNat % 128 * 128 ^ i : Nat) : Int)) := by
            intro hb
            have h1 := HM.out
            have h2 := HGR.out
            have e9 : 128 ^ 9 = 9223372036854775808 := by decide
            have hsum : c.toNat % 128 * 128 ^ i + m < 18446744073709551616 := by
              by_cases h9 : i = 9
              · have h3 := hb.out h9
                rw [h9, e9] at h1 ⊢
                omega
              · have h3 : 128 ^ (i + 1) ≤ 128 ^ 9 := Nat.pow_le_pow_right (by decide) (by omega)
                omega
            have h4 := or_group m (c.toNat % 128) i h1 hsum
            show _ = _
            rw [← h4, show (c.toNat : Int) % 128 * 2 ^ (7 * i) = ((c.toNat % 128 * 128 ^ i : Nat) : Int) by rw [pow_128]; push_cast; rfl]
            congr 1
            rw [IntKind.wrap_u64]
            omega
          have HZ : Hid (bits .or .u64 (m : Int) (IntKind.u64.wrap 0) = (m : Int)) := by
            have h1 := HM.out
            have e : 128 ^ i ≤ 128 ^ 9 := Nat.pow_le_pow_right (by decide) hi9
            have e9 : 128 ^ 9 = 9223372036854775808 := by decide
            have := bits_or_u64_nat m 0 (by omega) (by decide)
            rw [Nat.or_zero] at this
            exact this
          have hi9' : (i : Int) ≤ 9 := by omega
          have hi0 : (0 : Int) ≤ (i : Int) := by omega
          by_cases ha : i = 9 ∧ 1 < c.toNat % 128
          · have h9b : ((i : Int) == 9) = true := by rw [beq_iff_eq]; omega
            have hdb : decide (1 < (c.toNat : Int) % 128) = true := decide_eq_true (by omega)
            have HBD := Lib.hid (rdN_bad (k := k) (i := i) (m := m) (c := c) (r := r) (.inl ha))
            clear ha
            go_wp2_with fail
            refine (ord_bad b r w1 HO1.out).mono ?_
            rintro e w2 ⟨rfl, hg, ho⟩
            have HG2 := Lib.hid (HG1.out.trans hg)
            have HO2 := Lib.hid ho
            clear hg ho
            go_wp2_with fail
            try rw [Exit.noGoto_ret]
            go_ret
            exact HR.out _ 0 none (by rw [HE.out, HBD.out]) HG2.out HO2.out
          · have HNB := Lib.hid ha
            replace HD := HD (fun h => by have := HNB.out; omega)
            by_cases h9 : i = 9
            · have h9b : ((i : Int) == 9) = true := by rw [beq_iff_eq]; omega
              have hdb : decide (1 < (c.toNat : Int) % 128) = false := decide_eq_false (by omega)
              clear ha h9
              go_wp2_with fail
              · go_roundg (gk - 1)
                case measure => have := HGK.out; omega
                case rel => exact ⟨i + 1, m + c.toNat % 128 * 128 ^ i, r, by omega, by go_num, by rw [HD.out], by have h1 := HM.out; have h2 := HGR.out; omega, HG1.out, HO1.out, by show _ = _; rw [HE.out, rdN_more HNB.out (by omega), HGK.out]; rfl⟩
              · refine (ord_bad b r w1 HO1.out).mono ?_
                rintro e w2 ⟨rfl, hg, ho⟩
                have HG2 := Lib.hid (HG1.out.trans hg)
                have HO2 := Lib.hid ho
                have HBD := Lib.hid (rdN_bad (k := k) (i := i) (m := m) (c := c) (r := r) (.inr ⟨by omega, by omega, by omega⟩))
                clear hg ho
                go_wp2_with fail
                try rw [Exit.noGoto_ret]
                go_ret
                exact HR.out _ 0 none (by rw [HE.out, HBD.out]) HG2.out HO2.out
              · have e := rdN_done (k := k) (i := i) (m := m) (c := c) (r := r) HNB.out (by omega) (by omega)
                have hd0 : c.toNat % 128 = 0 := by omega
                have e2 : (m + c.toNat % 128 * 128 ^ i, some r) = ((m, some r) : Nat × Option (List UInt8)) := by rw [hd0]; simp
                have hv := HR.out _ _ _ (HE.out.trans (e.trans e2)) HG1.out HO1.out
                rw [← HZ.out] at hv
                try rw [Exit.noGoto_ret]
                go_ret
                exact hv
              · have e := rdN_done (k := k) (i := i) (m := m) (c := c) (r := r) HNB.out (by omega) (by omega)
                have hv := HR.out _ _ _ (HE.out.trans e) HG1.out HO1.out
                rw [← HD.out] at hv
                try rw [Exit.noGoto_ret]
                go_ret
                exact hv
            · have h9b : ((i : Int) == 9) = false := by rw [beq_eq_false_iff_ne]; omega
              clear ha h9
              go_wp2_with fail
              · go_roundg (gk - 1)
                case measure => have := HGK.out; omega
                case rel => exact ⟨i + 1, m + c.toNat % 128 * 128 ^ i, r, by omega, by go_num, by rw [HD.out], by have h1 := HM.out; have h2 := HGR.out; omega, HG1.out, HO1.out, by show _ = _; rw [HE.out, rdN_more HNB.out (by omega), HGK.out]; rfl⟩
              · refine (ord_bad b r w1 HO1.out).mono ?_
                rintro e w2 ⟨rfl, hg, ho⟩
                have HG2 := Lib.hid (HG1.out.trans hg)
                have HO2 := Lib.hid ho
                have HBD := Lib.hid (rdN_bad (k := k) (i := i) (m := m) (c := c) (r := r) (.inr ⟨by omega, by omega, by omega⟩))
                clear hg ho
                go_wp2_with fail
                try rw [Exit.noGoto_ret]
                go_ret
                exact HR.out _ 0 none (by rw [HE.out, HBD.out]) HG2.out HO2.out
              · have e := rdN_done (k := k) (i := i) (m := m) (c := c) (r := r) HNB.out (by omega) (by omega)
                have hd0 : c.toNat % 128 = 0 := by omega
                have e2 : (m + c.toNat % 128 * 128 ^ i, some r) = ((m, some r) : Nat × Option (List UInt8)) := by rw [hd0]; simp
                have hv := HR.out _ _ _ (HE.out.trans (e.trans e2)) HG1.out HO1.out
                rw [← HZ.out] at hv
                try rw [Exit.noGoto_ret]
                go_ret
                exact hv
              · have e := rdN_done (k := k) (i := i) (m := m) (c := c) (r := r) HNB.out (by omega) (by omega)
                have hv := HR.out _ _ _ (HE.out.trans e) HG1.out HO1.out
                rw [← HD.out] at hv
                try rw [Exit.noGoto_ret]
                go_ret
                exact hv

end Go.Proofs.YtbcepdacfmbekaaDoor
