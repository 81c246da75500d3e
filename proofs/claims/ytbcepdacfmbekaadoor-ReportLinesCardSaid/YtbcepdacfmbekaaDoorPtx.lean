/-
  Plain: the text of many, a line each (packages report, words). No program in sight.
-/
namespace Go.Proofs.YtbcepdacfmbekaaDoor.Pl
variable {M : Type}

/-- The lines of all, behind what is there; none: one has no line. -/
def txtFrom (p : M → Option (List UInt8)) (acc : List UInt8) : List M → Option (List UInt8)
  | [] => some acc
  | m :: r => match p m with
    | none => none
    | some l => txtFrom p (acc ++ (l ++ [10])) r
theorem txtFrom_none {p : M → Option (List UInt8)} {acc : List UInt8} {m : M} {r : List M} (h : p m = none) : txtFrom p acc (m :: r) = none := by rw [txtFrom, h]
theorem txtFrom_some {p : M → Option (List UInt8)} {acc l : List UInt8} {m : M} {r : List M} (h : p m = some l) : txtFrom p acc (m :: r) = txtFrom p (acc ++ (l ++ [10])) r := by rw [txtFrom, h]
theorem drop_at {ms : List M} {k : Nat} (hk : k < ms.length) : ms.drop k = ms[k] :: ms.drop (k + 1) := List.drop_eq_getElem_cons hk

end Go.Proofs.YtbcepdacfmbekaaDoor.Pl
