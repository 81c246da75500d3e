/-
  The walk of damperref35.decimal.
-/
import Derived.Test.YtbcepdacfmbekaaDoorKb
import Derived.Test.YtbcepdacfmbekaaDoorPd
namespace Go.Proofs.YtbcepdacfmbekaaDoor
open Go.RowKit

theorem ba_append (a b : List UInt8) : (⟨a.toArray⟩ : ByteArray) ++ ⟨b.toArray⟩ = ⟨(a ++ b).toArray⟩ := by
  apply ByteArray.ext
  simp

def DecPost (n : Int) (w : World) (e : Ending) (w' : World) : Prop := e = .returned (.string ⟨(Pl.decimal n).toArray⟩) ∧ Below w.heap.size w w'

set_option maxHeartbeats 2000000 in
set_option maxRecDepth 100000 in
theorem ref_decimal_nn : ∀ (m : Nat) (n : Int), n.toNat ≤ m → 0 ≤ n → n ≤ 9223372036854775807 → ∀ w : World, Calls Tryd.prog 83 #[.int .i64 n] w (DecPost n w) := by
  intro m
  induction m using Nat.strongRecOn with
  | ind m ih =>
    intro n hm h0 h1 w
    have hmin : decide (n = -9223372036854775808) = false := by simp; omega
    have hneg : decide (n < 0) = false := by simp; omega
    go_enter Tryd.func83, Tryd.ntmps83
    by_cases h10 : n < 10
    · have hd := Pl.decimal_small h0 h10
      have hcv : (convert 40 9 (.slice (some ⟨w.heap.size, 0, none⟩) 1 1)).run Tryd.prog (w.alloc (.cells #[.int .u8 (48 + n)] 5)) = .ok (.string ⟨(Pl.decimal n).toArray⟩) (w.alloc (.cells #[.int .u8 (48 + n)] 5)) := by
        rw [hd]
        refine run_convert_bytes_back _ 40 9 5 ⟨w.heap.size, 0, none⟩ 1 [UInt8.ofNat (48 + n.toNat)] Tryd.underlying40 Tryd.underlying5 Tryd.underlying9 (fun j hj => ?_)
        obtain rfl : j = 0 := by simpa using hj
        show (w.alloc _).cell? ⟨w.heap.size, 0, none⟩ = _
        rw [World.cell?_alloc_new]
        simp
        omega
      clear hd
      go_wp2_with fail
      go_ret
      exact ⟨rfl, (Below.refl _ _).alloc (Nat.le_refl _) _⟩
    · have hd := Lib.hid (Pl.decimal_big h0 h10)
      go_wp2_with fail
      refine (ih (n / 10).toNat (by omega) (n / 10) (Nat.le_refl _) (by omega) (by omega) w).mono ?_
      rintro e w1 ⟨rfl, hb1⟩
      go_wp2_with fail
      refine (ih (n % 10).toNat (by omega) (n % 10) (Nat.le_refl _) (by omega) (by omega) w1).mono ?_
      rintro e w2 ⟨rfl, hb2⟩
      have hb := hb1.trans (hb2.mono hb1.size)
      have l1 := Pl.decimal_length (n := n / 10) (by omega) (by omega)
      have l2 := Pl.decimal_length (n := n % 10) (by omega) (by omega)
      go_wp2_with fail
      go_ret
      exact ⟨by rw [hd.out, ← ba_append]; rfl, hb⟩

set_option maxHeartbeats 2000000 in
set_option maxRecDepth 100000 in
theorem ref_decimal (n : Int) (h0 : -9223372036854775808 ≤ n) (h1 : n ≤ 9223372036854775807) (w : World) : Calls Tryd.prog 83 #[.int .i64 n] w (DecPost n w) := by
  rcases Int.lt_or_le n 0 with hn | hn
  · by_cases hm : n = -9223372036854775808
    · subst hm
      go_enter Tryd.func83, Tryd.ntmps83
      go_wp2_with fail
      go_ret
      exact ⟨by rw [Pl.decimal_min]; rfl, Below.refl _ _⟩
    · have hd := Lib.hid (Pl.decimal_neg hn)
      have hneg : decide (n < 0) = true := by simpa using hn
      have hmin : decide (n = -9223372036854775808) = false := by simpa using hm
      go_enter Tryd.func83, Tryd.ntmps83
      go_wp2_with fail
      refine (ref_decimal_nn (-n).toNat (-n) (Nat.le_refl _) (by omega) (by omega) w).mono ?_
      rintro e w1 ⟨rfl, hb1⟩
      have l1 := Pl.decimal_length (n := -n) (by omega) (by omega)
      go_wp2_with fail
      go_ret
      exact ⟨by rw [hd.out, show (45 :: Pl.decimal (-n)) = [45] ++ Pl.decimal (-n) from rfl, ← ba_append]; rfl, hb1⟩
  · exact ref_decimal_nn n.toNat n (Nat.le_refl _) hn h1 w

end Go.Proofs.YtbcepdacfmbekaaDoor
