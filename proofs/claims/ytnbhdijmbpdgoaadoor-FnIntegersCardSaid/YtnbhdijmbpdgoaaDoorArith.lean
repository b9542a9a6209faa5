/-
  Proved: the contracts of the small functions on ints (the two range tests, Mod of the program and of the reference). Conditions: the ints are ints of 64 bits.
  By an AI agent; no person has read it.
-/
import Derived.Test.YtnbhdijmbpdgoaaDoorIn
import Derived.Outline
namespace Go.Proofs.YtnbhdijmbpdgoaaDoor
open Go.RowKit

/-- Mod as the document defines it. -/
def modF (n m : Int) : Int := if 1 ≤ m ∧ m ≤ 1000000000000 then n % m else 0

theorem tmod_emod (n m : Int) : (n.tmod m + m) % m = n % m := by
  rw [Int.add_emod_right, Int.tmod_def, Int.sub_mul_emod_self_left]
theorem tmod_fix_neg (n m : Int) (hm : 1 ≤ m) (h : n.tmod m < 0) : n.tmod m + m = n % m := by
  have h2 := Int.lt_tmod_of_pos n (show 0 < m by omega)
  rw [← tmod_emod, Int.emod_eq_of_lt (by omega) (by omega)]
theorem tmod_fix_pos (n m : Int) (hm : 1 ≤ m) (h : 0 ≤ n.tmod m) : n.tmod m = n % m := by
  have h1 := Int.tmod_lt_of_pos n (show 0 < m by omega)
  rw [← tmod_emod, Int.add_emod_right, Int.emod_eq_of_lt (by omega) (by omega)]
theorem modF_in {n m : Int} (h1 : 1 ≤ m) (h2 : m ≤ 1000000000000) : modF n m = n % m := if_pos ⟨h1, h2⟩
theorem modF_out {n m : Int} (h : ¬ (1 ≤ m ∧ m ≤ 1000000000000)) : modF n m = 0 := if_neg h
theorem modF_nonneg (n m : Int) : 0 ≤ modF n m := by
  unfold modF
  split
  · exact Int.emod_nonneg _ (by omega)
  · omega
theorem modF_lt (n : Int) {m : Int} (h1 : 1 ≤ m) : modF n m < m := by
  unfold modF
  split
  · exact Int.emod_lt_of_pos _ (by omega)
  · omega

theorem implMod_any (n m : Int) (w : World) (_hn : -9223372036854775808 ≤ n ∧ n ≤ 9223372036854775807) :
    Calls Tryd.prog 32 #[.int .i64 n, .int .i64 m] w fun e w' => e = .returned (.int .i64 (modF n m)) ∧ w = w' := by
  by_cases hm : 1 ≤ m ∧ m ≤ 1000000000000
  · obtain ⟨h1, h2⟩ := hm
    have h3 := Int.tmod_lt_of_pos n (show 0 < m by omega)
    have h4 := Int.lt_tmod_of_pos n (show 0 < m by omega)
    by_cases h5 : n.tmod m < 0
    · go_enter Tryd.func32, Tryd.ntmps32
      go_wp2_with (go_at_call 46; refine (InRange_any _ _ _ true _ (inR_true h1 h2).symm).mono ?_; rintro e w' ⟨rfl, rfl⟩)
      go_ret
      exact ⟨ret_int (by rw [modF_in h1 h2, tmod_fix_neg _ _ h1 h5]), rfl⟩
    · have h6 : 0 ≤ n.tmod m := by omega
      go_enter Tryd.func32, Tryd.ntmps32
      go_wp2_with (go_at_call 46; refine (InRange_any _ _ _ true _ (inR_true h1 h2).symm).mono ?_; rintro e w' ⟨rfl, rfl⟩)
      go_ret
      exact ⟨ret_int (by rw [modF_in h1 h2, tmod_fix_pos _ _ h1 h6]), rfl⟩
  · go_enter Tryd.func32, Tryd.ntmps32
    go_wp2_with (go_at_call 46; refine (InRange_any _ _ _ false _ (decide_eq_false hm).symm).mono ?_; rintro e w' ⟨rfl, rfl⟩)
    go_ret
    exact ⟨ret_int (modF_out hm), rfl⟩
end Go.Proofs.YtnbhdijmbpdgoaaDoor
