/-
  Proved: rows of the program's table of types that the texts of this seat use. Conditions: none.
  By an AI agent; no person has read it.
-/
import Derived.Test.YtnbhdijmbpdgoaaDoorProg
import Derived.Test.YtnbhdijmbpdgoaaDoorBase
namespace Go.Proofs.YtnbhdijmbpdgoaaDoor
open Go.RowKit
theorem infoU8 : (Tryd.prog.info? 5).map (fun i => (i.zero, i.size, i.bytes)) = some (some (.int .u8 0), 1, 1) := by kernel_rfl
theorem infoI : (Tryd.prog.info? 3).map (fun i => (i.zero, i.size, i.bytes)) = some (some (.int .i64 0), 1, 8) := by kernel_rfl

/-- The call makes a slice of bytes that reads as l; what was there stands. -/
def MkB (w : World) (l : List UInt8) (e : Ending) (w' : World) : Prop := ∃ A n c, e = .returned (.slice A n c) ∧ w'.ownsRow w.heap.size 5 1 (.slice A n c) n (l.map bv) ∧ Below w.heap.size w w'
/-- The call makes a slice of ints that reads as l; what was there stands. -/
def MkI (w : World) (l : List Int) (e : Ending) (w' : World) : Prop := ∃ A n c, e = .returned (.slice A n c) ∧ w'.ownsRow w.heap.size 3 1 (.slice A n c) n (l.map iv) ∧ Below w.heap.size w w'
end Go.Proofs.YtnbhdijmbpdgoaaDoor
