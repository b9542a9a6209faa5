/-
  Proved: rows of the program's table of types that the texts of this seat use. Conditions: none.
  By an AI agent; no person has read it.
-/
import Derived.Test.YteddjniecibjaaaProg
import Derived.Test.YteddjniecibjaaaBase
namespace Go.Proofs.Yteddjniecibjaaa
open Go.RowKit
theorem infoU8 : (Try.prog.info? 5).map (fun i => (i.zero, i.size, i.bytes)) = some (some (.int .u8 0), 1, 1) := by kernel_rfl
theorem infoI : (Try.prog.info? 3).map (fun i => (i.zero, i.size, i.bytes)) = some (some (.int .i64 0), 1, 8) := by kernel_rfl
end Go.Proofs.Yteddjniecibjaaa
