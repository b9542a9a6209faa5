/-
  Proved: the comparison of two keys by '=='. Conditions: none.
  By an AI agent; no person has read it.
-/
import Derived.Test.YtnbhdijmbpdgoaaDoorIn
import Derived.Laws.StructEq
namespace Go.Proofs.YtnbhdijmbpdgoaaDoor
open Go.RowKit

/-- The test of two keys. -/
def eqKyQ (k n : Int) (s : ByteArray) (k2 n2 : Int) (s2 : ByteArray) : Bool := k == k2 && (n == n2 && s.toList == s2.toList)
theorem run_eqKyQ (k n : Int) (s : ByteArray) (k2 n2 : Int) (s2 : ByteArray) (w : World) :
    (binOp .eql 23 (.agg #[.int .i64 k, .int .i64 n, .string s]) (.agg #[.int .i64 k2, .int .i64 n2, .string s2])).run Tryd.prog w = .ok (.bool (eqKyQ k n s k2 n2 s2)) w := by
  have u3 := Tryd.underlying3
  have u9 := Tryd.underlying9
  have a3 := Tryd.isAgg3
  have z3 := Tryd.sizeOf3
  have a9 := Tryd.isAgg9
  have z9 := Tryd.sizeOf9
  have hS : Tryd.prog.underlying 23 = some (.struct (Tryd.prog.fieldsOf 23)) := by kernel_rfl
  have hp : Tryd.prog.stoodInHeld 23 = false := by kernel_rfl
  rw [run_eql_struct, show (10000 : Nat) = 9999 + 1 from rfl, run_equalIn_agg w 9999 23 _ _ hS hp]
  simp only [Program.fieldsOf, Tryd.underlying23]
  go_simp
  unfold eqKyQ
  by_cases h1 : k = k2 <;> by_cases h2 : n = n2 <;> by_cases h3 : s.toList = s2.toList <;> simp [h1, h2, h3]
theorem run_guardKQ (op : BinOp) (a b : Operand) (xs ys : Array Value) (w : World) : (eqGuard op 23 a b (.agg xs) (.agg ys)).run Tryd.prog w = .ok () w := run_eqGuard_agg w op 23 a b xs ys (by kernel_rfl)
theorem eqKyQ_self (k n : Int) (s : ByteArray) : eqKyQ k n s k n s = true := by simp [eqKyQ]
theorem eqKyQ_iff {k n : Int} {s : ByteArray} {k2 n2 : Int} {s2 : ByteArray} : eqKyQ k n s k2 n2 s2 = true ↔ (k = k2 ∧ n = n2 ∧ s = s2) := by
  unfold eqKyQ
  simp only [Bool.and_eq_true, beq_iff_eq]
  constructor
  · rintro ⟨h1, h2, h3⟩
    refine ⟨h1, h2, ?_⟩
    rw [ByteArray.toList_eq, ByteArray.toList_eq] at h3
    apply ByteArray.ext
    exact Array.ext' h3
  · rintro ⟨rfl, rfl, rfl⟩
    exact ⟨rfl, rfl, rfl⟩
end Go.Proofs.YtnbhdijmbpdgoaaDoor
