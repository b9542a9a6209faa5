/-
  Proved: the contracts of the small functions on ints (the two range tests, Mod of the program and of the reference). Conditions: the ints are ints of 64 bits.
  By an AI agent; no person has read it.
-/
import Derived.Test.YtbbngihmjdndoaaIn
import Derived.Outline
namespace Go.Proofs.Ytbbngihmjdndoaa
open Go.RowKit

/-- Mod as the document defines it. -/
def modF (n m : Int) : Int := if 1 ≤ m ∧ m ≤ 1000000000000 then n % m else 0

theorem tmod_emod (n m : Int) : (n.tmod m + m) % m = n % m := by
  rw [Int.add_emod_right, Int.tmod_def, Int.sub_mul_emod_self_left]
theorem tmod_fix_neg (n m : Int) (hm : 1 ≤ m) (h : n.tmod m < 0) : n.tmod m + m = n % m := by
  have h2 := Int.lt_tmod_of_pos n (show 0 < m by omega)
  rw [← tmod_emod, Int.emod_eq_of_lt (by omega) (by omega)]
theorem tmod_fix_pos (n m : Int) (hm : 1 ≤ m) (h : 0 ≤ n.tmod m) : n.tmod m = n % m := by
  have h1 := Int.tmod_lt_of_pos n (show 0 < m by omega)
  rw [← tmod_emod, Int.add_emod_right, Int.emod_eq_of_lt (by omega) (by omega)]
theorem modF_in {n m : Int} (h1 : 1 ≤ m) (h2 : m ≤ 1000000000000) : modF n m = n % m := if_pos ⟨h1, h2⟩
theorem modF_out {n m : Int} (h : ¬ (1 ≤ m ∧ m ≤ 1000000000000)) : modF n m = 0 := if_neg h
theorem modF_nonneg (n m : Int) : 0 ≤ modF n m := by
  unfold modF
  split
  · exact Int.emod_nonneg _ (by omega)
  · omega
theorem modF_lt (n : Int) {m : Int} (h1 : 1 ≤ m) : modF n m < m := by
  unfold modF
  split
  · exact Int.emod_lt_of_pos _ (by omega)
  · omega

end Go.Proofs.Ytbbngihmjdndoaa
