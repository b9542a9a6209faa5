/-
  Proved: what a row that lists the library's tables gives a walk, and a world that meets such a row's condition. Conditions: none.
  By an AI agent; no person has read it.
-/
import Derived.Test.YtnbhdijmbpdgoaaDoorLaw
import Derived.Test.YtnbhdijmbpdgoaaDoorFmtI
import Derived.LaidLaws
import Derived.Stop.LaidErr
namespace Go.Proofs.YtnbhdijmbpdgoaaDoor
open Go.ChangeShapes Go.WideShapes Go.ChangeAt Go.RowKit

theorem pow_number : Tryd.prog.globalNamed "internal/strconv.uint64pow10" = some 3 := by kernel_rfl
theorem pow_data : (Rows.laid_internal_strconv_uint64pow10 : DataW Unit) = Lib.tabData .u64 Lib.pow10Tab := by kernel_rfl
theorem pow_of {W : World} {r : List (String × DataW Unit)} (h : laidMet Tryd.prog (("internal/strconv.uint64pow10", Rows.laid_internal_strconv_uint64pow10) :: r) W) : Pow W := by
  rw [pow_data] at h
  exact Lib.tabIs_of_head (t := 101) (e := 86) (n := 20) pow_number (by kernel_rfl) Tryd.underlying101 Tryd.underlying86 (by kernel_rfl) (by kernel_rfl) h

/-- The values of a table that is listed as integers. -/
def tabValues : DataW Unit → Array Value
  | .agg ds => (ds.map fun d => match d with | .lit l => l.value | _ => .nilIface).toArray
  | _ => #[]
def putRow3 (w : World) (g : Nat) (cs : Array Value) : World := { w with heap := w.heap.modify g fun
      | .cells _ t frozen => .cells cs t frozen
      | o => o }
/-- The settled world, the three tables laid. -/
noncomputable def tabWorld (os : Os) : World :=
  putRow3 (putRow3 (putRow3 (World.holding Tryd.prog os ⟨#[], #[], []⟩) 3 (tabValues Rows.laid_internal_strconv_uint64pow10))
    4 (tabValues Rows.laid_math_bits_deBruijn32tab)) 5 (tabValues Rows.laid_math_bits_deBruijn64tab)
end Go.Proofs.YtnbhdijmbpdgoaaDoor
