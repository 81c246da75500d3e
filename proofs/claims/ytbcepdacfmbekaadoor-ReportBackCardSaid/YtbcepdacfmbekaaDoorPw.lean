/-
  Plain functions on lists of bytes: the row and the symbol of a line (package sheet). No program in sight.
-/
import Derived.Test.YtbcepdacfmbekaaDoorPl
import Derived.Test.YtbcepdacfmbekaaDoorPs
namespace Go.Proofs.YtbcepdacfmbekaaDoor.Pl

def rowWord : List UInt8 := [114, 111, 119]
def rowHead : List UInt8 := [114, 111, 119, 32]
def phases3 : List (List UInt8) := [[99, 108, 111, 115, 101, 100], [111, 112, 101, 110, 105, 110, 103], [99, 111, 110, 116, 105, 110, 117, 111, 117, 115]]
def symbolWord : List UInt8 := [115, 121, 109, 98, 111, 108]

theorem readNums_length {word : List UInt8} {n : Nat} {ws : List (List UInt8)} {vs : List Int} (h : readNums word n ws = some vs) : vs.length = n := by
  unfold readNums at h
  split at h
  · rename_i hc
    rw [nonnegs_length h, List.length_drop]; omega
  · cases h

/-- The row of what stands behind "row ": the number, and the phase. -/
def rowOf (rest : List UInt8) : Option (Int × Int) :=
  if (cutC 32 rest).2.2 then
    match readNums rowWord 1 (split (rowHead ++ (cutC 32 rest).1)) with
    | some (v :: _) => if 0 ≤ indexOf (cutC 32 rest).2.1 phases3 then some (v, indexOf (cutC 32 rest).2.1 phases3) else none
    | _ => none
  else none

theorem rowOf_def (rest : List UInt8) : rowOf rest = if (cutC 32 rest).2.2 then
    match readNums rowWord 1 (split (rowHead ++ (cutC 32 rest).1)) with
    | some (v :: _) => if 0 ≤ indexOf (cutC 32 rest).2.1 phases3 then some (v, indexOf (cutC 32 rest).2.1 phases3) else none
    | _ => none
  else none := rfl

/-- sheet.Row -/
def row (line : List UInt8) : Option (Int × Int) := if rowHead.isPrefixOf line then rowOf (line.drop 4) else none

/-- sheet.Symbol -/
def symbol (line : List UInt8) : Option (List Int) := readNums symbolWord 16 (split line)

theorem cutC_le (c : UInt8) (l : List UInt8) : (cutC c l).1.length ≤ l.length := by
  induction l with
  | nil => simp [cutC]
  | cons b r ih =>
    rw [cutC]
    split
    · simp
    · simp; exact ih

end Go.Proofs.YtbcepdacfmbekaaDoor.Pl
