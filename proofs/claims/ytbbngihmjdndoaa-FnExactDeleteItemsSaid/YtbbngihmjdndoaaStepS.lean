/-
  Proved: steps of regions that draw their order: a string made into bytes; an append to a row of the run's own, with and without a known address. Conditions: those that each statement names.
  By an AI agent; no person has read it.
-/
import Derived.Test.YtbbngihmjdndoaaStr
import Derived.Test.YtbbngihmjdndoaaStep
namespace Go.Proofs.Ytbbngihmjdndoaa
open Go.RowKit
section
variable {P : Program}
/-- '[]byte(s)' at a step of a region that draws. -/
theorem step_sb {ops : Array Oper} {o : Oper} {a : Act} {w : World} {K : Act → World → Prop} {Q : Exit → Act → World → Prop} {E : Prop} (hw : Region.wanted o (yielded ops a.tmps) = true)
    (d : Option Tmp) (src dst e : TypeId) (x : Operand) (s : ByteArray) (hdst : o.dst = d) (ho : o.op = .convert src dst x) (hx : a.eval x = .string s) (hs : P.underlying src = some .string) (hd : P.underlying dst = some (.slice e)) (he : P.underlying e = some (.int .u8))
    (h : ∀ g cap W1, Below w.heap.size w W1 → Rd W1 1 (some ⟨g, 0, none⟩) s.size (s.data.toList.map bv) → K (a.put d (.slice (some ⟨g, 0, none⟩) s.size cap)) W1) :
    if Region.wanted o (yielded ops a.tmps) = true then Oper.wp P o a w K Q else E := by
  subst hdst
  rw [if_pos hw]
  unfold Oper.wp execOp
  simp only [ho, hx, Sem.run_bind, Sem.run_pure, Result.andThen_ok, run_bytes_of_string w src dst e s hs hd he]
  exact h _ _ _ (((Below.refl w.heap.size w).drew).alloc (Nat.le_refl _) _) (rd_bytesRow w.drew s _ _ _)
end
end Go.Proofs.Ytbbngihmjdndoaa
