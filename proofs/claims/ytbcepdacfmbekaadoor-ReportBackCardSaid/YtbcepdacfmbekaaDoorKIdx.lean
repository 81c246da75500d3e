/-
  The walk of slices.Index over strings.
-/
import Derived.Test.YtbcepdacfmbekaaDoorKb
namespace Go.Proofs.YtbcepdacfmbekaaDoor
open Go.RowKit

def IdxPost (l : List (List UInt8)) (x : ByteArray) (w : World) (e : Ending) (w' : World) : Prop := e = .returned (.int .i64 (Pl.indexOf x.data.toList l)) ∧ w = w'

theorem slices_Index_some (b c : Nat) (l : List (List UInt8)) (x : ByteArray) (w : World) (h : Strs w b l) (hl : l.length ≤ 1000000) :
    Calls Tryd.prog 71 #[.slice (some ⟨b, 0, none⟩) l.length c, .string x] w (IdxPost l x w) := by
  have HH := Lib.hid h
  clear h
  go_enter Tryd.func71, Tryd.ntmps71
  go_wp2
  go_loop [8] (fun i => ∃ k : Nat, k ≤ l.length ∧ i = .int .i64 k ∧ Hid (∀ j, j < k → ¬ x.data.toList = l.getD j [])) (fun i => l.length - (intOf i).toNat)
  case atStart => exact ⟨0, Nat.zero_le _, rfl, fun j hj => absurd hj (by omega)⟩
  case round =>
    obtain ⟨k, hk, rfl, HN⟩ := hrel
    by_cases hlt : k < l.length
    · have hc := HH.out k hlt
      go_wp2
      · have he : (x.toList == l[k]) = true := by assumption
        go_ret
        exact ⟨by rw [Pl.indexOf_hit hlt (fun j hj => HN.out j hj) (by simpa [Lib.toList_data, List.getD, hlt] using he)]; rfl, rfl⟩
      · have he : (x.toList == l[k]) = false := by assumption
        go_round
        case rel => exact ⟨k + 1, by omega, by go_num, fun j hj => by
          rcases Nat.lt_or_ge j k with h1 | h1
          · exact HN.out j h1
          · obtain rfl : j = k := by omega
            simpa [Lib.toList_data, List.getD, hlt] using he⟩
        case measure => simp [intOf]; omega
    · go_wp2
      go_ret
      exact ⟨by rw [Pl.indexOf_miss (fun j hj => HN.out j (by omega))]; rfl, rfl⟩

end Go.Proofs.YtbcepdacfmbekaaDoor
