/-
  Commands and steps: plain words.
-/
namespace Go.Proofs.YtbcepdacfmbekaaDoor.Pl

/-- A command. -/
structure Cmd where
  kind : Int
  sym : Int
  id : Int
  owner : Int
  side : Int
  type : Int
  price : Int
  qty : Int
  flags : Int

/-- Is it right? -/
def CmdOk (c : Cmd) : Prop := (0 ≤ c.sym ∧ c.sym ≤ 255) ∧ (0 ≤ c.id ∧ c.id ≤ 4611686018427387904) ∧
  ((c.kind = 1 ∧ (0 ≤ c.owner ∧ c.owner ≤ 1073741824) ∧ (0 ≤ c.side ∧ c.side ≤ 1) ∧ (1 ≤ c.type ∧ c.type ≤ 5) ∧ (0 ≤ c.flags ∧ c.flags ≤ 7)) ∨
   (c.kind = 3 ∧ c.owner = 0 ∧ c.side = 0 ∧ c.type = 0 ∧ c.flags = 0) ∨
   (c.kind = 2 ∧ c.owner = 0 ∧ c.side = 0 ∧ c.type = 0 ∧ c.flags = 0 ∧ c.price = 0 ∧ c.qty = 0))
instance (c : Cmd) : Decidable (CmdOk c) := by unfold CmdOk; infer_instance
def cmdRight (c : Cmd) : Bool := decide (CmdOk c)

/-- A number from lo to hi? -/
def inB (n lo hi : Int) : Bool := decide (lo ≤ n) && decide (n ≤ hi)
theorem inB_iff (n lo hi : Int) : inB n lo hi = true ↔ lo ≤ n ∧ n ≤ hi := by simp [inB]

/-- A step of a script. -/
structure St where
  kind : Int
  sym : Int
  n : Int
  frame : List UInt8

end Go.Proofs.YtbcepdacfmbekaaDoor.Pl
