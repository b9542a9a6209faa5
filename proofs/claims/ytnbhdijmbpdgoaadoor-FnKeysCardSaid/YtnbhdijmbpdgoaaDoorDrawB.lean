/-
  Proved: the contracts of the draw of a varint's bytes and of the laws' small functions. Only the range of what is drawn is said. Conditions: the code reads as a list of at most 2^40 bytes.
  By an AI agent; no person has read it.
-/
import Derived.Test.YtnbhdijmbpdgoaaDoorDrawA
namespace Go.Proofs.YtnbhdijmbpdgoaaDoor
open Go.RowKit

theorem big_any (A : Option Addr) (n c : Nat) (r : Bool) (w : World) (_hn : n ≤ 9223372036854775807) (hr : r = decide ((1048576 : Int) < (n : Int))) :
    Calls Tryd.prog 12 #[.slice A n c] w fun e w' => e = .returned (.bool r) ∧ w = w' := by
  have HR := Lib.hid hr
  clear hr
  go_enter Tryd.func12, Tryd.ntmps12
  go_wp2
  go_ret
  exact ⟨ret_bool HR.out, rfl⟩

end Go.Proofs.YtnbhdijmbpdgoaaDoor
