/-
  Proved: the contracts of the program's EqualBytes and EqualInts. Conditions: the slices read as lists.
  By an AI agent; no person has read it.
-/
import Derived.Test.YtnbhdijmbpdgoaaDoorEqS
namespace Go.Proofs.YtnbhdijmbpdgoaaDoor
open Go.RowKit

theorem implEqualBytes_any (A B : Option Addr) (n m c d : Nat) (xs ys : List UInt8) (r : Bool) (w : World) (hn : n ≤ maxLen) (hm : m ≤ maxLen) (ha : Rd w 1 A n (xs.map bv)) (hb : Rd w 1 B m (ys.map bv)) (hr : r = decide (xs = ys)) :
    Calls Tryd.prog 42 #[.slice A n c, .slice B m d] w fun e w' => e = .returned (.bool r) ∧ Below w.heap.size w w' := by
  have HR := Lib.hid hr
  clear hr
  go_enter Tryd.func42, Tryd.ntmps42
  go_wp2_with fail
  refine (slicesEqualB_any A B n m c d xs ys r w hn hm ha hb HR.out).mono ?_
  rintro e w' ⟨rfl, hb⟩
  go_wp2
  go_ret
  exact ⟨rfl, hb⟩

end Go.Proofs.YtnbhdijmbpdgoaaDoor
