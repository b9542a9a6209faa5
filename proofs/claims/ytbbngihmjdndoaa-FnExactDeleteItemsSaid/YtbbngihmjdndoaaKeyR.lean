/-
  Proved: the contracts of InRangeOf, of the program and of the reference, and that the order of keys is turned when its two sides are. Conditions: the texts' lengths are lengths.
  By an AI agent; no person has read it.
-/
import Derived.Test.YtbbngihmjdndoaaKeyK
namespace Go.Proofs.Ytbbngihmjdndoaa
open Go.RowKit

theorem cmpB_turn : ∀ x y : List UInt8, Lib.compareBytes y x = - Lib.compareBytes x y
  | [], [] => rfl
  | [], _ :: _ => rfl
  | _ :: _, [] => rfl
  | a :: x, b :: y => by
    have ih := cmpB_turn x y
    simp only [Lib.compareBytes]
    by_cases h : a < b
    · have h2 : ¬ b < a := by
        rw [UInt8.lt_iff_toNat_lt] at h ⊢
        omega
      rw [if_neg h2, if_pos h, if_pos h]
      rfl
    · by_cases h2 : b < a
      · rw [if_pos h2, if_neg h, if_pos h2]
      · rw [if_neg h2, if_neg h, if_neg h, if_neg h2]
        exact ih
theorem cmpI_turn (a b : Int) : cmpI b a = - cmpI a b := by
  unfold cmpI
  split <;> split <;> omega
theorem cmpK_turn (k n : Int) (s : ByteArray) (k2 n2 : Int) (s2 : ByteArray) : cmpK k2 n2 s2 k n s = - cmpK k n s k2 n2 s2 := by
  unfold cmpK
  by_cases h : keyB k n s = true ∧ keyB k2 n2 s2 = true
  · rw [if_pos h, if_pos ⟨h.2, h.1⟩]
    by_cases hk : k = k2
    · subst hk
      rw [if_pos rfl, if_pos rfl]
      by_cases hn : n = n2
      · subst hn
        rw [if_pos rfl, if_pos rfl]
        exact cmpB_turn _ _
      · rw [if_neg hn, if_neg (fun e => hn e.symm)]
        exact cmpI_turn _ _
    · rw [if_neg hk, if_neg (fun e => hk e.symm)]
      exact cmpI_turn _ _
  · rw [if_neg h, if_neg (fun e => h ⟨e.2, e.1⟩)]
    rfl
theorem cmpK_self (k n : Int) (s : ByteArray) : cmpK k n s k n s = 0 := by
  unfold cmpK
  split
  · rw [if_pos rfl, if_pos rfl]
    exact cmp_self _
  · rfl

/-- A key lies in a range. -/
def inRF (k n : Int) (s : ByteArray) (a b : Bool) (k1 n1 : Int) (s1 : ByteArray) (k2 n2 : Int) (s2 : ByteArray) : Bool :=
  keyB k n s && ((!a || keyB k1 n1 s1) && ((!b || keyB k2 n2 s2) && ((!a || decide (0 ≤ cmpK k n s k1 n1 s1)) && (!b || decide (cmpK k n s k2 n2 s2 ≤ 0)))))

set_option maxRecDepth 100000 in
theorem specInR_p0 (a b : Bool) (k n : Int) (s : ByteArray) (k1 n1 : Int) (s1 : ByteArray) (k2 n2 : Int) (s2 : ByteArray) (w : World) (_hs : s.size ≤ maxLen) (_hs1 : s1.size ≤ maxLen) (_hs2 : s2.size ≤ maxLen) (HK0 : Hid (keyB k n s = false)) :
    Calls Try.prog 111 #[.agg #[.int .i64 k, .int .i64 n, .string s], .agg #[.bool a, .bool b, .int .i64 k1, .int .i64 n1, .string s1, .int .i64 k2, .int .i64 n2, .string s2]] w fun e w' => e = .returned (.bool false) ∧ Below w.heap.size w w' := by
  go_enter Try.func111, Try.ntmps111
  go_wp2_with fail
  refine (specIsKey_any k n s false _ _hs HK0.out.symm).mono ?_
  rintro e w1 ⟨rfl, b1⟩
  have B1 := Below.trans (al (al (Below.refl _ _))) (b1.mono (by simp; omega))
  have c0 : w1.cell? ⟨w.heap.size, 0, none⟩ = some (.int .i64 k) := kcell b1 (by simp)
  have c1 : w1.cell? ⟨w.heap.size, 1, none⟩ = some (.int .i64 n) := kcell b1 (by simp)
  have c2 : w1.cell? ⟨w.heap.size, 2, none⟩ = some (.string s) := kcell b1 (by simp)
  have c3 : w1.cell? ⟨w.heap.size + 1, 0, none⟩ = some (.bool a) := kcell b1 (by simp)
  have c4 : w1.cell? ⟨w.heap.size + 1, 1, none⟩ = some (.bool b) := kcell b1 (by simp)
  have c5 : w1.cell? ⟨w.heap.size + 1, 2, none⟩ = some (.int .i64 k1) := kcell b1 (by simp)
  have c6 : w1.cell? ⟨w.heap.size + 1, 3, none⟩ = some (.int .i64 n1) := kcell b1 (by simp)
  have c7 : w1.cell? ⟨w.heap.size + 1, 4, none⟩ = some (.string s1) := kcell b1 (by simp)
  have c8 : w1.cell? ⟨w.heap.size + 1, 5, none⟩ = some (.int .i64 k2) := kcell b1 (by simp)
  have c9 : w1.cell? ⟨w.heap.size + 1, 6, none⟩ = some (.int .i64 n2) := kcell b1 (by simp)
  have c10 : w1.cell? ⟨w.heap.size + 1, 7, none⟩ = some (.string s2) := kcell b1 (by simp)
  clear b1
  go_wp2
  go_ret
  exact ⟨by first | rfl | exact ret_bool (decide_eq_false (by omega)).symm | exact ret_bool (decide_eq_true (by omega)).symm | exact ret_bool (by simp; omega), B1⟩

set_option maxRecDepth 100000 in
theorem specInR_p1 (b : Bool) (k n : Int) (s : ByteArray) (k1 n1 : Int) (s1 : ByteArray) (k2 n2 : Int) (s2 : ByteArray) (w : World) (_hs : s.size ≤ maxLen) (_hs1 : s1.size ≤ maxLen) (_hs2 : s2.size ≤ maxLen) (HK0 : Hid (keyB k n s = true)) (HK1 : Hid (keyB k1 n1 s1 = false)) :
    Calls Try.prog 111 #[.agg #[.int .i64 k, .int .i64 n, .string s], .agg #[.bool true, .bool b, .int .i64 k1, .int .i64 n1, .string s1, .int .i64 k2, .int .i64 n2, .string s2]] w fun e w' => e = .returned (.bool false) ∧ Below w.heap.size w w' := by
  go_enter Try.func111, Try.ntmps111
  go_wp2_with fail
  refine (specIsKey_any k n s true _ _hs HK0.out.symm).mono ?_
  rintro e w1 ⟨rfl, b1⟩
  have B1 := Below.trans (al (al (Below.refl _ _))) (b1.mono (by simp; omega))
  have c0 : w1.cell? ⟨w.heap.size, 0, none⟩ = some (.int .i64 k) := kcell b1 (by simp)
  have c1 : w1.cell? ⟨w.heap.size, 1, none⟩ = some (.int .i64 n) := kcell b1 (by simp)
  have c2 : w1.cell? ⟨w.heap.size, 2, none⟩ = some (.string s) := kcell b1 (by simp)
  have c3 : w1.cell? ⟨w.heap.size + 1, 0, none⟩ = some (.bool true) := kcell b1 (by simp)
  have c4 : w1.cell? ⟨w.heap.size + 1, 1, none⟩ = some (.bool b) := kcell b1 (by simp)
  have c5 : w1.cell? ⟨w.heap.size + 1, 2, none⟩ = some (.int .i64 k1) := kcell b1 (by simp)
  have c6 : w1.cell? ⟨w.heap.size + 1, 3, none⟩ = some (.int .i64 n1) := kcell b1 (by simp)
  have c7 : w1.cell? ⟨w.heap.size + 1, 4, none⟩ = some (.string s1) := kcell b1 (by simp)
  have c8 : w1.cell? ⟨w.heap.size + 1, 5, none⟩ = some (.int .i64 k2) := kcell b1 (by simp)
  have c9 : w1.cell? ⟨w.heap.size + 1, 6, none⟩ = some (.int .i64 n2) := kcell b1 (by simp)
  have c10 : w1.cell? ⟨w.heap.size + 1, 7, none⟩ = some (.string s2) := kcell b1 (by simp)
  clear b1
  go_wp2_with fail
  refine (specIsKey_any k1 n1 s1 false _ _hs1 HK1.out.symm).mono ?_
  rintro e w2 ⟨rfl, b2⟩
  have B2 := B1.trans (b2.mono B1.size)
  replace c0 := kcell b2 c0
  replace c1 := kcell b2 c1
  replace c2 := kcell b2 c2
  replace c3 := kcell b2 c3
  replace c4 := kcell b2 c4
  replace c5 := kcell b2 c5
  replace c6 := kcell b2 c6
  replace c7 := kcell b2 c7
  replace c8 := kcell b2 c8
  replace c9 := kcell b2 c9
  replace c10 := kcell b2 c10
  clear b2
  go_wp2
  go_ret
  exact ⟨by first | rfl | exact ret_bool (decide_eq_false (by omega)).symm | exact ret_bool (decide_eq_true (by omega)).symm | exact ret_bool (by simp; omega), B2⟩

set_option maxRecDepth 100000 in
theorem specInR_p2f (k n : Int) (s : ByteArray) (k1 n1 : Int) (s1 : ByteArray) (k2 n2 : Int) (s2 : ByteArray) (w : World) (_hs : s.size ≤ maxLen) (_hs1 : s1.size ≤ maxLen) (_hs2 : s2.size ≤ maxLen) (HK0 : Hid (keyB k n s = true)) (HK2 : Hid (keyB k2 n2 s2 = false)) :
    Calls Try.prog 111 #[.agg #[.int .i64 k, .int .i64 n, .string s], .agg #[.bool false, .bool true, .int .i64 k1, .int .i64 n1, .string s1, .int .i64 k2, .int .i64 n2, .string s2]] w fun e w' => e = .returned (.bool false) ∧ Below w.heap.size w w' := by
  go_enter Try.func111, Try.ntmps111
  go_wp2_with fail
  refine (specIsKey_any k n s true _ _hs HK0.out.symm).mono ?_
  rintro e w1 ⟨rfl, b1⟩
  have B1 := Below.trans (al (al (Below.refl _ _))) (b1.mono (by simp; omega))
  have c0 : w1.cell? ⟨w.heap.size, 0, none⟩ = some (.int .i64 k) := kcell b1 (by simp)
  have c1 : w1.cell? ⟨w.heap.size, 1, none⟩ = some (.int .i64 n) := kcell b1 (by simp)
  have c2 : w1.cell? ⟨w.heap.size, 2, none⟩ = some (.string s) := kcell b1 (by simp)
  have c3 : w1.cell? ⟨w.heap.size + 1, 0, none⟩ = some (.bool false) := kcell b1 (by simp)
  have c4 : w1.cell? ⟨w.heap.size + 1, 1, none⟩ = some (.bool true) := kcell b1 (by simp)
  have c5 : w1.cell? ⟨w.heap.size + 1, 2, none⟩ = some (.int .i64 k1) := kcell b1 (by simp)
  have c6 : w1.cell? ⟨w.heap.size + 1, 3, none⟩ = some (.int .i64 n1) := kcell b1 (by simp)
  have c7 : w1.cell? ⟨w.heap.size + 1, 4, none⟩ = some (.string s1) := kcell b1 (by simp)
  have c8 : w1.cell? ⟨w.heap.size + 1, 5, none⟩ = some (.int .i64 k2) := kcell b1 (by simp)
  have c9 : w1.cell? ⟨w.heap.size + 1, 6, none⟩ = some (.int .i64 n2) := kcell b1 (by simp)
  have c10 : w1.cell? ⟨w.heap.size + 1, 7, none⟩ = some (.string s2) := kcell b1 (by simp)
  clear b1
  go_wp2_with fail
  refine (specIsKey_any k2 n2 s2 false _ _hs2 HK2.out.symm).mono ?_
  rintro e w2 ⟨rfl, b2⟩
  have B2 := B1.trans (b2.mono B1.size)
  replace c0 := kcell b2 c0
  replace c1 := kcell b2 c1
  replace c2 := kcell b2 c2
  replace c3 := kcell b2 c3
  replace c4 := kcell b2 c4
  replace c5 := kcell b2 c5
  replace c6 := kcell b2 c6
  replace c7 := kcell b2 c7
  replace c8 := kcell b2 c8
  replace c9 := kcell b2 c9
  replace c10 := kcell b2 c10
  clear b2
  go_wp2
  go_ret
  exact ⟨by first | rfl | exact ret_bool (decide_eq_false (by omega)).symm | exact ret_bool (decide_eq_true (by omega)).symm | exact ret_bool (by simp; omega), B2⟩

set_option maxRecDepth 100000 in
theorem specInR_p2t (k n : Int) (s : ByteArray) (k1 n1 : Int) (s1 : ByteArray) (k2 n2 : Int) (s2 : ByteArray) (w : World) (_hs : s.size ≤ maxLen) (_hs1 : s1.size ≤ maxLen) (_hs2 : s2.size ≤ maxLen) (HK0 : Hid (keyB k n s = true)) (HK1 : Hid (keyB k1 n1 s1 = true)) (HK2 : Hid (keyB k2 n2 s2 = false)) :
    Calls Try.prog 111 #[.agg #[.int .i64 k, .int .i64 n, .string s], .agg #[.bool true, .bool true, .int .i64 k1, .int .i64 n1, .string s1, .int .i64 k2, .int .i64 n2, .string s2]] w fun e w' => e = .returned (.bool false) ∧ Below w.heap.size w w' := by
  go_enter Try.func111, Try.ntmps111
  go_wp2_with fail
  refine (specIsKey_any k n s true _ _hs HK0.out.symm).mono ?_
  rintro e w1 ⟨rfl, b1⟩
  have B1 := Below.trans (al (al (Below.refl _ _))) (b1.mono (by simp; omega))
  have c0 : w1.cell? ⟨w.heap.size, 0, none⟩ = some (.int .i64 k) := kcell b1 (by simp)
  have c1 : w1.cell? ⟨w.heap.size, 1, none⟩ = some (.int .i64 n) := kcell b1 (by simp)
  have c2 : w1.cell? ⟨w.heap.size, 2, none⟩ = some (.string s) := kcell b1 (by simp)
  have c3 : w1.cell? ⟨w.heap.size + 1, 0, none⟩ = some (.bool true) := kcell b1 (by simp)
  have c4 : w1.cell? ⟨w.heap.size + 1, 1, none⟩ = some (.bool true) := kcell b1 (by simp)
  have c5 : w1.cell? ⟨w.heap.size + 1, 2, none⟩ = some (.int .i64 k1) := kcell b1 (by simp)
  have c6 : w1.cell? ⟨w.heap.size + 1, 3, none⟩ = some (.int .i64 n1) := kcell b1 (by simp)
  have c7 : w1.cell? ⟨w.heap.size + 1, 4, none⟩ = some (.string s1) := kcell b1 (by simp)
  have c8 : w1.cell? ⟨w.heap.size + 1, 5, none⟩ = some (.int .i64 k2) := kcell b1 (by simp)
  have c9 : w1.cell? ⟨w.heap.size + 1, 6, none⟩ = some (.int .i64 n2) := kcell b1 (by simp)
  have c10 : w1.cell? ⟨w.heap.size + 1, 7, none⟩ = some (.string s2) := kcell b1 (by simp)
  clear b1
  go_wp2_with fail
  refine (specIsKey_any k1 n1 s1 true _ _hs1 HK1.out.symm).mono ?_
  rintro e w2 ⟨rfl, b2⟩
  have B2 := B1.trans (b2.mono B1.size)
  replace c0 := kcell b2 c0
  replace c1 := kcell b2 c1
  replace c2 := kcell b2 c2
  replace c3 := kcell b2 c3
  replace c4 := kcell b2 c4
  replace c5 := kcell b2 c5
  replace c6 := kcell b2 c6
  replace c7 := kcell b2 c7
  replace c8 := kcell b2 c8
  replace c9 := kcell b2 c9
  replace c10 := kcell b2 c10
  clear b2
  go_wp2_with fail
  refine (specIsKey_any k2 n2 s2 false _ _hs2 HK2.out.symm).mono ?_
  rintro e w3 ⟨rfl, b3⟩
  have B3 := B2.trans (b3.mono B2.size)
  replace c0 := kcell b3 c0
  replace c1 := kcell b3 c1
  replace c2 := kcell b3 c2
  replace c3 := kcell b3 c3
  replace c4 := kcell b3 c4
  replace c5 := kcell b3 c5
  replace c6 := kcell b3 c6
  replace c7 := kcell b3 c7
  replace c8 := kcell b3 c8
  replace c9 := kcell b3 c9
  replace c10 := kcell b3 c10
  clear b3
  go_wp2
  go_ret
  exact ⟨by first | rfl | exact ret_bool (decide_eq_false (by omega)).symm | exact ret_bool (decide_eq_true (by omega)).symm | exact ret_bool (by simp; omega), B3⟩

set_option maxRecDepth 100000 in
theorem specInR_p3 (k n : Int) (s : ByteArray) (k1 n1 : Int) (s1 : ByteArray) (k2 n2 : Int) (s2 : ByteArray) (w : World) (_hs : s.size ≤ maxLen) (_hs1 : s1.size ≤ maxLen) (_hs2 : s2.size ≤ maxLen) (HK0 : Hid (keyB k n s = true)) :
    Calls Try.prog 111 #[.agg #[.int .i64 k, .int .i64 n, .string s], .agg #[.bool false, .bool false, .int .i64 k1, .int .i64 n1, .string s1, .int .i64 k2, .int .i64 n2, .string s2]] w fun e w' => e = .returned (.bool true) ∧ Below w.heap.size w w' := by
  go_enter Try.func111, Try.ntmps111
  go_wp2_with fail
  refine (specIsKey_any k n s true _ _hs HK0.out.symm).mono ?_
  rintro e w1 ⟨rfl, b1⟩
  have B1 := Below.trans (al (al (Below.refl _ _))) (b1.mono (by simp; omega))
  have c0 : w1.cell? ⟨w.heap.size, 0, none⟩ = some (.int .i64 k) := kcell b1 (by simp)
  have c1 : w1.cell? ⟨w.heap.size, 1, none⟩ = some (.int .i64 n) := kcell b1 (by simp)
  have c2 : w1.cell? ⟨w.heap.size, 2, none⟩ = some (.string s) := kcell b1 (by simp)
  have c3 : w1.cell? ⟨w.heap.size + 1, 0, none⟩ = some (.bool false) := kcell b1 (by simp)
  have c4 : w1.cell? ⟨w.heap.size + 1, 1, none⟩ = some (.bool false) := kcell b1 (by simp)
  have c5 : w1.cell? ⟨w.heap.size + 1, 2, none⟩ = some (.int .i64 k1) := kcell b1 (by simp)
  have c6 : w1.cell? ⟨w.heap.size + 1, 3, none⟩ = some (.int .i64 n1) := kcell b1 (by simp)
  have c7 : w1.cell? ⟨w.heap.size + 1, 4, none⟩ = some (.string s1) := kcell b1 (by simp)
  have c8 : w1.cell? ⟨w.heap.size + 1, 5, none⟩ = some (.int .i64 k2) := kcell b1 (by simp)
  have c9 : w1.cell? ⟨w.heap.size + 1, 6, none⟩ = some (.int .i64 n2) := kcell b1 (by simp)
  have c10 : w1.cell? ⟨w.heap.size + 1, 7, none⟩ = some (.string s2) := kcell b1 (by simp)
  clear b1
  go_wp2
  go_ret
  exact ⟨by first | rfl | exact ret_bool (decide_eq_false (by omega)).symm | exact ret_bool (decide_eq_true (by omega)).symm | exact ret_bool (by simp; omega), B1⟩

set_option maxRecDepth 100000 in
theorem specInR_p4T (k n : Int) (s : ByteArray) (k1 n1 : Int) (s1 : ByteArray) (k2 n2 : Int) (s2 : ByteArray) (w : World) (_hs : s.size ≤ maxLen) (_hs1 : s1.size ≤ maxLen) (_hs2 : s2.size ≤ maxLen) (HK0 : Hid (keyB k n s = true)) (HK1 : Hid (keyB k1 n1 s1 = true)) (h1 : 0 ≤ cmpK k n s k1 n1 s1) :
    Calls Try.prog 111 #[.agg #[.int .i64 k, .int .i64 n, .string s], .agg #[.bool true, .bool false, .int .i64 k1, .int .i64 n1, .string s1, .int .i64 k2, .int .i64 n2, .string s2]] w fun e w' => e = .returned (.bool true) ∧ Below w.heap.size w w' := by
  go_enter Try.func111, Try.ntmps111
  go_wp2_with fail
  refine (specIsKey_any k n s true _ _hs HK0.out.symm).mono ?_
  rintro e w1 ⟨rfl, b1⟩
  have B1 := Below.trans (al (al (Below.refl _ _))) (b1.mono (by simp; omega))
  have c0 : w1.cell? ⟨w.heap.size, 0, none⟩ = some (.int .i64 k) := kcell b1 (by simp)
  have c1 : w1.cell? ⟨w.heap.size, 1, none⟩ = some (.int .i64 n) := kcell b1 (by simp)
  have c2 : w1.cell? ⟨w.heap.size, 2, none⟩ = some (.string s) := kcell b1 (by simp)
  have c3 : w1.cell? ⟨w.heap.size + 1, 0, none⟩ = some (.bool true) := kcell b1 (by simp)
  have c4 : w1.cell? ⟨w.heap.size + 1, 1, none⟩ = some (.bool false) := kcell b1 (by simp)
  have c5 : w1.cell? ⟨w.heap.size + 1, 2, none⟩ = some (.int .i64 k1) := kcell b1 (by simp)
  have c6 : w1.cell? ⟨w.heap.size + 1, 3, none⟩ = some (.int .i64 n1) := kcell b1 (by simp)
  have c7 : w1.cell? ⟨w.heap.size + 1, 4, none⟩ = some (.string s1) := kcell b1 (by simp)
  have c8 : w1.cell? ⟨w.heap.size + 1, 5, none⟩ = some (.int .i64 k2) := kcell b1 (by simp)
  have c9 : w1.cell? ⟨w.heap.size + 1, 6, none⟩ = some (.int .i64 n2) := kcell b1 (by simp)
  have c10 : w1.cell? ⟨w.heap.size + 1, 7, none⟩ = some (.string s2) := kcell b1 (by simp)
  clear b1
  go_wp2_with fail
  refine (specIsKey_any k1 n1 s1 true _ _hs1 HK1.out.symm).mono ?_
  rintro e w2 ⟨rfl, b2⟩
  have B2 := B1.trans (b2.mono B1.size)
  replace c0 := kcell b2 c0
  replace c1 := kcell b2 c1
  replace c2 := kcell b2 c2
  replace c3 := kcell b2 c3
  replace c4 := kcell b2 c4
  replace c5 := kcell b2 c5
  replace c6 := kcell b2 c6
  replace c7 := kcell b2 c7
  replace c8 := kcell b2 c8
  replace c9 := kcell b2 c9
  replace c10 := kcell b2 c10
  clear b2
  go_wp2_with fail
  refine (specCompareKeys_any k1 n1 k n s1 s _ _hs1 _hs).mono ?_
  rintro e w3 ⟨rfl, b3⟩
  have B3 := B2.trans (b3.mono B2.size)
  replace c0 := kcell b3 c0
  replace c1 := kcell b3 c1
  replace c2 := kcell b3 c2
  replace c3 := kcell b3 c3
  replace c4 := kcell b3 c4
  replace c5 := kcell b3 c5
  replace c6 := kcell b3 c6
  replace c7 := kcell b3 c7
  replace c8 := kcell b3 c8
  replace c9 := kcell b3 c9
  replace c10 := kcell b3 c10
  clear b3
  obtain ⟨x1, hx1⟩ : ∃ x, x = cmpK k1 n1 s1 k n s := ⟨_, rfl⟩
  rw [← hx1]
  have HX1 := Lib.hid hx1
  clear hx1
  have g1 : x1 ≤ 0 := by have h1 := HX1.out; have h2 := cmpK_turn k n s k1 n1 s1; omega
  go_wp2
  go_ret
  exact ⟨by first | rfl | exact ret_bool (decide_eq_false (by omega)).symm | exact ret_bool (decide_eq_true (by omega)).symm | exact ret_bool (by simp; omega), B3⟩

set_option maxRecDepth 100000 in
theorem specInR_p6TT (k n : Int) (s : ByteArray) (k1 n1 : Int) (s1 : ByteArray) (k2 n2 : Int) (s2 : ByteArray) (w : World) (_hs : s.size ≤ maxLen) (_hs1 : s1.size ≤ maxLen) (_hs2 : s2.size ≤ maxLen) (HK0 : Hid (keyB k n s = true)) (HK1 : Hid (keyB k1 n1 s1 = true)) (HK2 : Hid (keyB k2 n2 s2 = true)) (h1 : 0 ≤ cmpK k n s k1 n1 s1) (h2 : cmpK k n s k2 n2 s2 ≤ 0) :
    Calls Try.prog 111 #[.agg #[.int .i64 k, .int .i64 n, .string s], .agg #[.bool true, .bool true, .int .i64 k1, .int .i64 n1, .string s1, .int .i64 k2, .int .i64 n2, .string s2]] w fun e w' => e = .returned (.bool true) ∧ Below w.heap.size w w' := by
  go_enter Try.func111, Try.ntmps111
  go_wp2_with fail
  refine (specIsKey_any k n s true _ _hs HK0.out.symm).mono ?_
  rintro e w1 ⟨rfl, b1⟩
  have B1 := Below.trans (al (al (Below.refl _ _))) (b1.mono (by simp; omega))
  have c0 : w1.cell? ⟨w.heap.size, 0, none⟩ = some (.int .i64 k) := kcell b1 (by simp)
  have c1 : w1.cell? ⟨w.heap.size, 1, none⟩ = some (.int .i64 n) := kcell b1 (by simp)
  have c2 : w1.cell? ⟨w.heap.size, 2, none⟩ = some (.string s) := kcell b1 (by simp)
  have c3 : w1.cell? ⟨w.heap.size + 1, 0, none⟩ = some (.bool true) := kcell b1 (by simp)
  have c4 : w1.cell? ⟨w.heap.size + 1, 1, none⟩ = some (.bool true) := kcell b1 (by simp)
  have c5 : w1.cell? ⟨w.heap.size + 1, 2, none⟩ = some (.int .i64 k1) := kcell b1 (by simp)
  have c6 : w1.cell? ⟨w.heap.size + 1, 3, none⟩ = some (.int .i64 n1) := kcell b1 (by simp)
  have c7 : w1.cell? ⟨w.heap.size + 1, 4, none⟩ = some (.string s1) := kcell b1 (by simp)
  have c8 : w1.cell? ⟨w.heap.size + 1, 5, none⟩ = some (.int .i64 k2) := kcell b1 (by simp)
  have c9 : w1.cell? ⟨w.heap.size + 1, 6, none⟩ = some (.int .i64 n2) := kcell b1 (by simp)
  have c10 : w1.cell? ⟨w.heap.size + 1, 7, none⟩ = some (.string s2) := kcell b1 (by simp)
  clear b1
  go_wp2_with fail
  refine (specIsKey_any k1 n1 s1 true _ _hs1 HK1.out.symm).mono ?_
  rintro e w2 ⟨rfl, b2⟩
  have B2 := B1.trans (b2.mono B1.size)
  replace c0 := kcell b2 c0
  replace c1 := kcell b2 c1
  replace c2 := kcell b2 c2
  replace c3 := kcell b2 c3
  replace c4 := kcell b2 c4
  replace c5 := kcell b2 c5
  replace c6 := kcell b2 c6
  replace c7 := kcell b2 c7
  replace c8 := kcell b2 c8
  replace c9 := kcell b2 c9
  replace c10 := kcell b2 c10
  clear b2
  go_wp2_with fail
  refine (specIsKey_any k2 n2 s2 true _ _hs2 HK2.out.symm).mono ?_
  rintro e w3 ⟨rfl, b3⟩
  have B3 := B2.trans (b3.mono B2.size)
  replace c0 := kcell b3 c0
  replace c1 := kcell b3 c1
  replace c2 := kcell b3 c2
  replace c3 := kcell b3 c3
  replace c4 := kcell b3 c4
  replace c5 := kcell b3 c5
  replace c6 := kcell b3 c6
  replace c7 := kcell b3 c7
  replace c8 := kcell b3 c8
  replace c9 := kcell b3 c9
  replace c10 := kcell b3 c10
  clear b3
  go_wp2_with fail
  refine (specCompareKeys_any k1 n1 k n s1 s _ _hs1 _hs).mono ?_
  rintro e w4 ⟨rfl, b4⟩
  have B4 := B3.trans (b4.mono B3.size)
  replace c0 := kcell b4 c0
  replace c1 := kcell b4 c1
  replace c2 := kcell b4 c2
  replace c3 := kcell b4 c3
  replace c4 := kcell b4 c4
  replace c5 := kcell b4 c5
  replace c6 := kcell b4 c6
  replace c7 := kcell b4 c7
  replace c8 := kcell b4 c8
  replace c9 := kcell b4 c9
  replace c10 := kcell b4 c10
  clear b4
  obtain ⟨x1, hx1⟩ : ∃ x, x = cmpK k1 n1 s1 k n s := ⟨_, rfl⟩
  rw [← hx1]
  have HX1 := Lib.hid hx1
  clear hx1
  have g1 : x1 ≤ 0 := by have h1 := HX1.out; have h2 := cmpK_turn k n s k1 n1 s1; omega
  go_wp2_with fail
  refine (specCompareKeys_any k n k2 n2 s s2 _ _hs _hs2).mono ?_
  rintro e w5 ⟨rfl, b5⟩
  have B5 := B4.trans (b5.mono B4.size)
  replace c0 := kcell b5 c0
  replace c1 := kcell b5 c1
  replace c2 := kcell b5 c2
  replace c3 := kcell b5 c3
  replace c4 := kcell b5 c4
  replace c5 := kcell b5 c5
  replace c6 := kcell b5 c6
  replace c7 := kcell b5 c7
  replace c8 := kcell b5 c8
  replace c9 := kcell b5 c9
  replace c10 := kcell b5 c10
  clear b5
  obtain ⟨x2, hx2⟩ : ∃ x, x = cmpK k n s k2 n2 s2 := ⟨_, rfl⟩
  rw [← hx2]
  have HX2 := Lib.hid hx2
  clear hx2
  have g2 : x2 ≤ 0 := by have q := HX2.out; omega
  go_wp2
  go_ret
  exact ⟨by first | rfl | exact ret_bool (decide_eq_false (by omega)).symm | exact ret_bool (decide_eq_true (by omega)).symm | exact ret_bool (by simp; omega), B5⟩

set_option maxRecDepth 100000 in
theorem specInR_p5T (k n : Int) (s : ByteArray) (k1 n1 : Int) (s1 : ByteArray) (k2 n2 : Int) (s2 : ByteArray) (w : World) (_hs : s.size ≤ maxLen) (_hs1 : s1.size ≤ maxLen) (_hs2 : s2.size ≤ maxLen) (HK0 : Hid (keyB k n s = true)) (HK2 : Hid (keyB k2 n2 s2 = true)) (h2 : cmpK k n s k2 n2 s2 ≤ 0) :
    Calls Try.prog 111 #[.agg #[.int .i64 k, .int .i64 n, .string s], .agg #[.bool false, .bool true, .int .i64 k1, .int .i64 n1, .string s1, .int .i64 k2, .int .i64 n2, .string s2]] w fun e w' => e = .returned (.bool true) ∧ Below w.heap.size w w' := by
  go_enter Try.func111, Try.ntmps111
  go_wp2_with fail
  refine (specIsKey_any k n s true _ _hs HK0.out.symm).mono ?_
  rintro e w1 ⟨rfl, b1⟩
  have B1 := Below.trans (al (al (Below.refl _ _))) (b1.mono (by simp; omega))
  have c0 : w1.cell? ⟨w.heap.size, 0, none⟩ = some (.int .i64 k) := kcell b1 (by simp)
  have c1 : w1.cell? ⟨w.heap.size, 1, none⟩ = some (.int .i64 n) := kcell b1 (by simp)
  have c2 : w1.cell? ⟨w.heap.size, 2, none⟩ = some (.string s) := kcell b1 (by simp)
  have c3 : w1.cell? ⟨w.heap.size + 1, 0, none⟩ = some (.bool false) := kcell b1 (by simp)
  have c4 : w1.cell? ⟨w.heap.size + 1, 1, none⟩ = some (.bool true) := kcell b1 (by simp)
  have c5 : w1.cell? ⟨w.heap.size + 1, 2, none⟩ = some (.int .i64 k1) := kcell b1 (by simp)
  have c6 : w1.cell? ⟨w.heap.size + 1, 3, none⟩ = some (.int .i64 n1) := kcell b1 (by simp)
  have c7 : w1.cell? ⟨w.heap.size + 1, 4, none⟩ = some (.string s1) := kcell b1 (by simp)
  have c8 : w1.cell? ⟨w.heap.size + 1, 5, none⟩ = some (.int .i64 k2) := kcell b1 (by simp)
  have c9 : w1.cell? ⟨w.heap.size + 1, 6, none⟩ = some (.int .i64 n2) := kcell b1 (by simp)
  have c10 : w1.cell? ⟨w.heap.size + 1, 7, none⟩ = some (.string s2) := kcell b1 (by simp)
  clear b1
  go_wp2_with fail
  refine (specIsKey_any k2 n2 s2 true _ _hs2 HK2.out.symm).mono ?_
  rintro e w2 ⟨rfl, b2⟩
  have B2 := B1.trans (b2.mono B1.size)
  replace c0 := kcell b2 c0
  replace c1 := kcell b2 c1
  replace c2 := kcell b2 c2
  replace c3 := kcell b2 c3
  replace c4 := kcell b2 c4
  replace c5 := kcell b2 c5
  replace c6 := kcell b2 c6
  replace c7 := kcell b2 c7
  replace c8 := kcell b2 c8
  replace c9 := kcell b2 c9
  replace c10 := kcell b2 c10
  clear b2
  go_wp2_with fail
  refine (specCompareKeys_any k n k2 n2 s s2 _ _hs _hs2).mono ?_
  rintro e w3 ⟨rfl, b3⟩
  have B3 := B2.trans (b3.mono B2.size)
  replace c0 := kcell b3 c0
  replace c1 := kcell b3 c1
  replace c2 := kcell b3 c2
  replace c3 := kcell b3 c3
  replace c4 := kcell b3 c4
  replace c5 := kcell b3 c5
  replace c6 := kcell b3 c6
  replace c7 := kcell b3 c7
  replace c8 := kcell b3 c8
  replace c9 := kcell b3 c9
  replace c10 := kcell b3 c10
  clear b3
  obtain ⟨x2, hx2⟩ : ∃ x, x = cmpK k n s k2 n2 s2 := ⟨_, rfl⟩
  rw [← hx2]
  have HX2 := Lib.hid hx2
  clear hx2
  have g2 : x2 ≤ 0 := by have q := HX2.out; omega
  go_wp2
  go_ret
  exact ⟨by first | rfl | exact ret_bool (decide_eq_false (by omega)).symm | exact ret_bool (decide_eq_true (by omega)).symm | exact ret_bool (by simp; omega), B3⟩

set_option maxRecDepth 100000 in
theorem specInR_p6TF (k n : Int) (s : ByteArray) (k1 n1 : Int) (s1 : ByteArray) (k2 n2 : Int) (s2 : ByteArray) (w : World) (_hs : s.size ≤ maxLen) (_hs1 : s1.size ≤ maxLen) (_hs2 : s2.size ≤ maxLen) (HK0 : Hid (keyB k n s = true)) (HK1 : Hid (keyB k1 n1 s1 = true)) (HK2 : Hid (keyB k2 n2 s2 = true)) (h1 : 0 ≤ cmpK k n s k1 n1 s1) (h2 : 0 < cmpK k n s k2 n2 s2) :
    Calls Try.prog 111 #[.agg #[.int .i64 k, .int .i64 n, .string s], .agg #[.bool true, .bool true, .int .i64 k1, .int .i64 n1, .string s1, .int .i64 k2, .int .i64 n2, .string s2]] w fun e w' => e = .returned (.bool false) ∧ Below w.heap.size w w' := by
  go_enter Try.func111, Try.ntmps111
  go_wp2_with fail
  refine (specIsKey_any k n s true _ _hs HK0.out.symm).mono ?_
  rintro e w1 ⟨rfl, b1⟩
  have B1 := Below.trans (al (al (Below.refl _ _))) (b1.mono (by simp; omega))
  have c0 : w1.cell? ⟨w.heap.size, 0, none⟩ = some (.int .i64 k) := kcell b1 (by simp)
  have c1 : w1.cell? ⟨w.heap.size, 1, none⟩ = some (.int .i64 n) := kcell b1 (by simp)
  have c2 : w1.cell? ⟨w.heap.size, 2, none⟩ = some (.string s) := kcell b1 (by simp)
  have c3 : w1.cell? ⟨w.heap.size + 1, 0, none⟩ = some (.bool true) := kcell b1 (by simp)
  have c4 : w1.cell? ⟨w.heap.size + 1, 1, none⟩ = some (.bool true) := kcell b1 (by simp)
  have c5 : w1.cell? ⟨w.heap.size + 1, 2, none⟩ = some (.int .i64 k1) := kcell b1 (by simp)
  have c6 : w1.cell? ⟨w.heap.size + 1, 3, none⟩ = some (.int .i64 n1) := kcell b1 (by simp)
  have c7 : w1.cell? ⟨w.heap.size + 1, 4, none⟩ = some (.string s1) := kcell b1 (by simp)
  have c8 : w1.cell? ⟨w.heap.size + 1, 5, none⟩ = some (.int .i64 k2) := kcell b1 (by simp)
  have c9 : w1.cell? ⟨w.heap.size + 1, 6, none⟩ = some (.int .i64 n2) := kcell b1 (by simp)
  have c10 : w1.cell? ⟨w.heap.size + 1, 7, none⟩ = some (.string s2) := kcell b1 (by simp)
  clear b1
  go_wp2_with fail
  refine (specIsKey_any k1 n1 s1 true _ _hs1 HK1.out.symm).mono ?_
  rintro e w2 ⟨rfl, b2⟩
  have B2 := B1.trans (b2.mono B1.size)
  replace c0 := kcell b2 c0
  replace c1 := kcell b2 c1
  replace c2 := kcell b2 c2
  replace c3 := kcell b2 c3
  replace c4 := kcell b2 c4
  replace c5 := kcell b2 c5
  replace c6 := kcell b2 c6
  replace c7 := kcell b2 c7
  replace c8 := kcell b2 c8
  replace c9 := kcell b2 c9
  replace c10 := kcell b2 c10
  clear b2
  go_wp2_with fail
  refine (specIsKey_any k2 n2 s2 true _ _hs2 HK2.out.symm).mono ?_
  rintro e w3 ⟨rfl, b3⟩
  have B3 := B2.trans (b3.mono B2.size)
  replace c0 := kcell b3 c0
  replace c1 := kcell b3 c1
  replace c2 := kcell b3 c2
  replace c3 := kcell b3 c3
  replace c4 := kcell b3 c4
  replace c5 := kcell b3 c5
  replace c6 := kcell b3 c6
  replace c7 := kcell b3 c7
  replace c8 := kcell b3 c8
  replace c9 := kcell b3 c9
  replace c10 := kcell b3 c10
  clear b3
  go_wp2_with fail
  refine (specCompareKeys_any k1 n1 k n s1 s _ _hs1 _hs).mono ?_
  rintro e w4 ⟨rfl, b4⟩
  have B4 := B3.trans (b4.mono B3.size)
  replace c0 := kcell b4 c0
  replace c1 := kcell b4 c1
  replace c2 := kcell b4 c2
  replace c3 := kcell b4 c3
  replace c4 := kcell b4 c4
  replace c5 := kcell b4 c5
  replace c6 := kcell b4 c6
  replace c7 := kcell b4 c7
  replace c8 := kcell b4 c8
  replace c9 := kcell b4 c9
  replace c10 := kcell b4 c10
  clear b4
  obtain ⟨x1, hx1⟩ : ∃ x, x = cmpK k1 n1 s1 k n s := ⟨_, rfl⟩
  rw [← hx1]
  have HX1 := Lib.hid hx1
  clear hx1
  have g1 : x1 ≤ 0 := by have h1 := HX1.out; have h2 := cmpK_turn k n s k1 n1 s1; omega
  go_wp2_with fail
  refine (specCompareKeys_any k n k2 n2 s s2 _ _hs _hs2).mono ?_
  rintro e w5 ⟨rfl, b5⟩
  have B5 := B4.trans (b5.mono B4.size)
  replace c0 := kcell b5 c0
  replace c1 := kcell b5 c1
  replace c2 := kcell b5 c2
  replace c3 := kcell b5 c3
  replace c4 := kcell b5 c4
  replace c5 := kcell b5 c5
  replace c6 := kcell b5 c6
  replace c7 := kcell b5 c7
  replace c8 := kcell b5 c8
  replace c9 := kcell b5 c9
  replace c10 := kcell b5 c10
  clear b5
  obtain ⟨x2, hx2⟩ : ∃ x, x = cmpK k n s k2 n2 s2 := ⟨_, rfl⟩
  rw [← hx2]
  have HX2 := Lib.hid hx2
  clear hx2
  have g2 : 0 < x2 := by have q := HX2.out; omega
  go_wp2
  go_ret
  exact ⟨by first | rfl | exact ret_bool (decide_eq_false (by omega)).symm | exact ret_bool (decide_eq_true (by omega)).symm | exact ret_bool (by simp; omega), B5⟩

set_option maxRecDepth 100000 in
theorem specInR_p5F (k n : Int) (s : ByteArray) (k1 n1 : Int) (s1 : ByteArray) (k2 n2 : Int) (s2 : ByteArray) (w : World) (_hs : s.size ≤ maxLen) (_hs1 : s1.size ≤ maxLen) (_hs2 : s2.size ≤ maxLen) (HK0 : Hid (keyB k n s = true)) (HK2 : Hid (keyB k2 n2 s2 = true)) (h2 : 0 < cmpK k n s k2 n2 s2) :
    Calls Try.prog 111 #[.agg #[.int .i64 k, .int .i64 n, .string s], .agg #[.bool false, .bool true, .int .i64 k1, .int .i64 n1, .string s1, .int .i64 k2, .int .i64 n2, .string s2]] w fun e w' => e = .returned (.bool false) ∧ Below w.heap.size w w' := by
  go_enter Try.func111, Try.ntmps111
  go_wp2_with fail
  refine (specIsKey_any k n s true _ _hs HK0.out.symm).mono ?_
  rintro e w1 ⟨rfl, b1⟩
  have B1 := Below.trans (al (al (Below.refl _ _))) (b1.mono (by simp; omega))
  have c0 : w1.cell? ⟨w.heap.size, 0, none⟩ = some (.int .i64 k) := kcell b1 (by simp)
  have c1 : w1.cell? ⟨w.heap.size, 1, none⟩ = some (.int .i64 n) := kcell b1 (by simp)
  have c2 : w1.cell? ⟨w.heap.size, 2, none⟩ = some (.string s) := kcell b1 (by simp)
  have c3 : w1.cell? ⟨w.heap.size + 1, 0, none⟩ = some (.bool false) := kcell b1 (by simp)
  have c4 : w1.cell? ⟨w.heap.size + 1, 1, none⟩ = some (.bool true) := kcell b1 (by simp)
  have c5 : w1.cell? ⟨w.heap.size + 1, 2, none⟩ = some (.int .i64 k1) := kcell b1 (by simp)
  have c6 : w1.cell? ⟨w.heap.size + 1, 3, none⟩ = some (.int .i64 n1) := kcell b1 (by simp)
  have c7 : w1.cell? ⟨w.heap.size + 1, 4, none⟩ = some (.string s1) := kcell b1 (by simp)
  have c8 : w1.cell? ⟨w.heap.size + 1, 5, none⟩ = some (.int .i64 k2) := kcell b1 (by simp)
  have c9 : w1.cell? ⟨w.heap.size + 1, 6, none⟩ = some (.int .i64 n2) := kcell b1 (by simp)
  have c10 : w1.cell? ⟨w.heap.size + 1, 7, none⟩ = some (.string s2) := kcell b1 (by simp)
  clear b1
  go_wp2_with fail
  refine (specIsKey_any k2 n2 s2 true _ _hs2 HK2.out.symm).mono ?_
  rintro e w2 ⟨rfl, b2⟩
  have B2 := B1.trans (b2.mono B1.size)
  replace c0 := kcell b2 c0
  replace c1 := kcell b2 c1
  replace c2 := kcell b2 c2
  replace c3 := kcell b2 c3
  replace c4 := kcell b2 c4
  replace c5 := kcell b2 c5
  replace c6 := kcell b2 c6
  replace c7 := kcell b2 c7
  replace c8 := kcell b2 c8
  replace c9 := kcell b2 c9
  replace c10 := kcell b2 c10
  clear b2
  go_wp2_with fail
  refine (specCompareKeys_any k n k2 n2 s s2 _ _hs _hs2).mono ?_
  rintro e w3 ⟨rfl, b3⟩
  have B3 := B2.trans (b3.mono B2.size)
  replace c0 := kcell b3 c0
  replace c1 := kcell b3 c1
  replace c2 := kcell b3 c2
  replace c3 := kcell b3 c3
  replace c4 := kcell b3 c4
  replace c5 := kcell b3 c5
  replace c6 := kcell b3 c6
  replace c7 := kcell b3 c7
  replace c8 := kcell b3 c8
  replace c9 := kcell b3 c9
  replace c10 := kcell b3 c10
  clear b3
  obtain ⟨x2, hx2⟩ : ∃ x, x = cmpK k n s k2 n2 s2 := ⟨_, rfl⟩
  rw [← hx2]
  have HX2 := Lib.hid hx2
  clear hx2
  have g2 : 0 < x2 := by have q := HX2.out; omega
  go_wp2
  go_ret
  exact ⟨by first | rfl | exact ret_bool (decide_eq_false (by omega)).symm | exact ret_bool (decide_eq_true (by omega)).symm | exact ret_bool (by simp; omega), B3⟩

set_option maxRecDepth 100000 in
theorem specInR_p4F (k n : Int) (s : ByteArray) (k1 n1 : Int) (s1 : ByteArray) (k2 n2 : Int) (s2 : ByteArray) (w : World) (_hs : s.size ≤ maxLen) (_hs1 : s1.size ≤ maxLen) (_hs2 : s2.size ≤ maxLen) (HK0 : Hid (keyB k n s = true)) (HK1 : Hid (keyB k1 n1 s1 = true)) (h1 : cmpK k n s k1 n1 s1 < 0) :
    Calls Try.prog 111 #[.agg #[.int .i64 k, .int .i64 n, .string s], .agg #[.bool true, .bool false, .int .i64 k1, .int .i64 n1, .string s1, .int .i64 k2, .int .i64 n2, .string s2]] w fun e w' => e = .returned (.bool false) ∧ Below w.heap.size w w' := by
  go_enter Try.func111, Try.ntmps111
  go_wp2_with fail
  refine (specIsKey_any k n s true _ _hs HK0.out.symm).mono ?_
  rintro e w1 ⟨rfl, b1⟩
  have B1 := Below.trans (al (al (Below.refl _ _))) (b1.mono (by simp; omega))
  have c0 : w1.cell? ⟨w.heap.size, 0, none⟩ = some (.int .i64 k) := kcell b1 (by simp)
  have c1 : w1.cell? ⟨w.heap.size, 1, none⟩ = some (.int .i64 n) := kcell b1 (by simp)
  have c2 : w1.cell? ⟨w.heap.size, 2, none⟩ = some (.string s) := kcell b1 (by simp)
  have c3 : w1.cell? ⟨w.heap.size + 1, 0, none⟩ = some (.bool true) := kcell b1 (by simp)
  have c4 : w1.cell? ⟨w.heap.size + 1, 1, none⟩ = some (.bool false) := kcell b1 (by simp)
  have c5 : w1.cell? ⟨w.heap.size + 1, 2, none⟩ = some (.int .i64 k1) := kcell b1 (by simp)
  have c6 : w1.cell? ⟨w.heap.size + 1, 3, none⟩ = some (.int .i64 n1) := kcell b1 (by simp)
  have c7 : w1.cell? ⟨w.heap.size + 1, 4, none⟩ = some (.string s1) := kcell b1 (by simp)
  have c8 : w1.cell? ⟨w.heap.size + 1, 5, none⟩ = some (.int .i64 k2) := kcell b1 (by simp)
  have c9 : w1.cell? ⟨w.heap.size + 1, 6, none⟩ = some (.int .i64 n2) := kcell b1 (by simp)
  have c10 : w1.cell? ⟨w.heap.size + 1, 7, none⟩ = some (.string s2) := kcell b1 (by simp)
  clear b1
  go_wp2_with fail
  refine (specIsKey_any k1 n1 s1 true _ _hs1 HK1.out.symm).mono ?_
  rintro e w2 ⟨rfl, b2⟩
  have B2 := B1.trans (b2.mono B1.size)
  replace c0 := kcell b2 c0
  replace c1 := kcell b2 c1
  replace c2 := kcell b2 c2
  replace c3 := kcell b2 c3
  replace c4 := kcell b2 c4
  replace c5 := kcell b2 c5
  replace c6 := kcell b2 c6
  replace c7 := kcell b2 c7
  replace c8 := kcell b2 c8
  replace c9 := kcell b2 c9
  replace c10 := kcell b2 c10
  clear b2
  go_wp2_with fail
  refine (specCompareKeys_any k1 n1 k n s1 s _ _hs1 _hs).mono ?_
  rintro e w3 ⟨rfl, b3⟩
  have B3 := B2.trans (b3.mono B2.size)
  replace c0 := kcell b3 c0
  replace c1 := kcell b3 c1
  replace c2 := kcell b3 c2
  replace c3 := kcell b3 c3
  replace c4 := kcell b3 c4
  replace c5 := kcell b3 c5
  replace c6 := kcell b3 c6
  replace c7 := kcell b3 c7
  replace c8 := kcell b3 c8
  replace c9 := kcell b3 c9
  replace c10 := kcell b3 c10
  clear b3
  obtain ⟨x1, hx1⟩ : ∃ x, x = cmpK k1 n1 s1 k n s := ⟨_, rfl⟩
  rw [← hx1]
  have HX1 := Lib.hid hx1
  clear hx1
  have g1 : 0 < x1 := by have h1 := HX1.out; have h2 := cmpK_turn k n s k1 n1 s1; omega
  go_wp2
  go_ret
  exact ⟨by first | rfl | exact ret_bool (decide_eq_false (by omega)).symm | exact ret_bool (decide_eq_true (by omega)).symm | exact ret_bool (by simp; omega), B3⟩

set_option maxRecDepth 100000 in
theorem specInR_p6F (k n : Int) (s : ByteArray) (k1 n1 : Int) (s1 : ByteArray) (k2 n2 : Int) (s2 : ByteArray) (w : World) (_hs : s.size ≤ maxLen) (_hs1 : s1.size ≤ maxLen) (_hs2 : s2.size ≤ maxLen) (HK0 : Hid (keyB k n s = true)) (HK1 : Hid (keyB k1 n1 s1 = true)) (HK2 : Hid (keyB k2 n2 s2 = true)) (h1 : cmpK k n s k1 n1 s1 < 0) :
    Calls Try.prog 111 #[.agg #[.int .i64 k, .int .i64 n, .string s], .agg #[.bool true, .bool true, .int .i64 k1, .int .i64 n1, .string s1, .int .i64 k2, .int .i64 n2, .string s2]] w fun e w' => e = .returned (.bool false) ∧ Below w.heap.size w w' := by
  go_enter Try.func111, Try.ntmps111
  go_wp2_with fail
  refine (specIsKey_any k n s true _ _hs HK0.out.symm).mono ?_
  rintro e w1 ⟨rfl, b1⟩
  have B1 := Below.trans (al (al (Below.refl _ _))) (b1.mono (by simp; omega))
  have c0 : w1.cell? ⟨w.heap.size, 0, none⟩ = some (.int .i64 k) := kcell b1 (by simp)
  have c1 : w1.cell? ⟨w.heap.size, 1, none⟩ = some (.int .i64 n) := kcell b1 (by simp)
  have c2 : w1.cell? ⟨w.heap.size, 2, none⟩ = some (.string s) := kcell b1 (by simp)
  have c3 : w1.cell? ⟨w.heap.size + 1, 0, none⟩ = some (.bool true) := kcell b1 (by simp)
  have c4 : w1.cell? ⟨w.heap.size + 1, 1, none⟩ = some (.bool true) := kcell b1 (by simp)
  have c5 : w1.cell? ⟨w.heap.size + 1, 2, none⟩ = some (.int .i64 k1) := kcell b1 (by simp)
  have c6 : w1.cell? ⟨w.heap.size + 1, 3, none⟩ = some (.int .i64 n1) := kcell b1 (by simp)
  have c7 : w1.cell? ⟨w.heap.size + 1, 4, none⟩ = some (.string s1) := kcell b1 (by simp)
  have c8 : w1.cell? ⟨w.heap.size + 1, 5, none⟩ = some (.int .i64 k2) := kcell b1 (by simp)
  have c9 : w1.cell? ⟨w.heap.size + 1, 6, none⟩ = some (.int .i64 n2) := kcell b1 (by simp)
  have c10 : w1.cell? ⟨w.heap.size + 1, 7, none⟩ = some (.string s2) := kcell b1 (by simp)
  clear b1
  go_wp2_with fail
  refine (specIsKey_any k1 n1 s1 true _ _hs1 HK1.out.symm).mono ?_
  rintro e w2 ⟨rfl, b2⟩
  have B2 := B1.trans (b2.mono B1.size)
  replace c0 := kcell b2 c0
  replace c1 := kcell b2 c1
  replace c2 := kcell b2 c2
  replace c3 := kcell b2 c3
  replace c4 := kcell b2 c4
  replace c5 := kcell b2 c5
  replace c6 := kcell b2 c6
  replace c7 := kcell b2 c7
  replace c8 := kcell b2 c8
  replace c9 := kcell b2 c9
  replace c10 := kcell b2 c10
  clear b2
  go_wp2_with fail
  refine (specIsKey_any k2 n2 s2 true _ _hs2 HK2.out.symm).mono ?_
  rintro e w3 ⟨rfl, b3⟩
  have B3 := B2.trans (b3.mono B2.size)
  replace c0 := kcell b3 c0
  replace c1 := kcell b3 c1
  replace c2 := kcell b3 c2
  replace c3 := kcell b3 c3
  replace c4 := kcell b3 c4
  replace c5 := kcell b3 c5
  replace c6 := kcell b3 c6
  replace c7 := kcell b3 c7
  replace c8 := kcell b3 c8
  replace c9 := kcell b3 c9
  replace c10 := kcell b3 c10
  clear b3
  go_wp2_with fail
  refine (specCompareKeys_any k1 n1 k n s1 s _ _hs1 _hs).mono ?_
  rintro e w4 ⟨rfl, b4⟩
  have B4 := B3.trans (b4.mono B3.size)
  replace c0 := kcell b4 c0
  replace c1 := kcell b4 c1
  replace c2 := kcell b4 c2
  replace c3 := kcell b4 c3
  replace c4 := kcell b4 c4
  replace c5 := kcell b4 c5
  replace c6 := kcell b4 c6
  replace c7 := kcell b4 c7
  replace c8 := kcell b4 c8
  replace c9 := kcell b4 c9
  replace c10 := kcell b4 c10
  clear b4
  obtain ⟨x1, hx1⟩ : ∃ x, x = cmpK k1 n1 s1 k n s := ⟨_, rfl⟩
  rw [← hx1]
  have HX1 := Lib.hid hx1
  clear hx1
  have g1 : 0 < x1 := by have h1 := HX1.out; have h2 := cmpK_turn k n s k1 n1 s1; omega
  go_wp2
  go_ret
  exact ⟨by first | rfl | exact ret_bool (decide_eq_false (by omega)).symm | exact ret_bool (decide_eq_true (by omega)).symm | exact ret_bool (by simp; omega), B4⟩

theorem specInRangeOf_any (k n : Int) (s : ByteArray) (a b : Bool) (k1 n1 : Int) (s1 : ByteArray) (k2 n2 : Int) (s2 : ByteArray) (r : Bool) (w : World) (hs : s.size ≤ maxLen) (hs1 : s1.size ≤ maxLen) (hs2 : s2.size ≤ maxLen) (hr : r = inRF k n s a b k1 n1 s1 k2 n2 s2) :
    Calls Try.prog 111 #[.agg #[.int .i64 k, .int .i64 n, .string s], .agg #[.bool a, .bool b, .int .i64 k1, .int .i64 n1, .string s1, .int .i64 k2, .int .i64 n2, .string s2]] w fun e w' => e = .returned (.bool r) ∧ Below w.heap.size w w' := by
  subst hr
  unfold inRF
  cases q0 : keyB k n s
  · exact specInR_p0 a b k n s k1 n1 s1 k2 n2 s2 w hs hs1 hs2 q0
  cases a
  · cases b
    · exact specInR_p3 k n s k1 n1 s1 k2 n2 s2 w hs hs1 hs2 q0
    cases q2 : keyB k2 n2 s2
    · exact specInR_p2f k n s k1 n1 s1 k2 n2 s2 w hs hs1 hs2 q0 q2
    by_cases h2 : cmpK k n s k2 n2 s2 ≤ 0
    · rw [decide_eq_true h2]
      exact specInR_p5T k n s k1 n1 s1 k2 n2 s2 w hs hs1 hs2 q0 q2 h2
    · rw [decide_eq_false h2]
      exact specInR_p5F k n s k1 n1 s1 k2 n2 s2 w hs hs1 hs2 q0 q2 (by omega)
  cases q1 : keyB k1 n1 s1
  · exact specInR_p1 b k n s k1 n1 s1 k2 n2 s2 w hs hs1 hs2 q0 q1
  by_cases h1 : 0 ≤ cmpK k n s k1 n1 s1
  · rw [decide_eq_true h1]
    cases b
    · exact specInR_p4T k n s k1 n1 s1 k2 n2 s2 w hs hs1 hs2 q0 q1 h1
    cases q2 : keyB k2 n2 s2
    · exact specInR_p2t k n s k1 n1 s1 k2 n2 s2 w hs hs1 hs2 q0 q1 q2
    by_cases h2 : cmpK k n s k2 n2 s2 ≤ 0
    · rw [decide_eq_true h2]
      exact specInR_p6TT k n s k1 n1 s1 k2 n2 s2 w hs hs1 hs2 q0 q1 q2 h1 h2
    · rw [decide_eq_false h2]
      exact specInR_p6TF k n s k1 n1 s1 k2 n2 s2 w hs hs1 hs2 q0 q1 q2 h1 (by omega)
  · rw [decide_eq_false h1]
    cases b
    · exact specInR_p4F k n s k1 n1 s1 k2 n2 s2 w hs hs1 hs2 q0 q1 (by omega)
    cases q2 : keyB k2 n2 s2
    · exact specInR_p2t k n s k1 n1 s1 k2 n2 s2 w hs hs1 hs2 q0 q1 q2
    exact specInR_p6F k n s k1 n1 s1 k2 n2 s2 w hs hs1 hs2 q0 q1 q2 (by omega)

set_option maxRecDepth 100000 in
theorem implInR_p0 (a b : Bool) (k n : Int) (s : ByteArray) (k1 n1 : Int) (s1 : ByteArray) (k2 n2 : Int) (s2 : ByteArray) (w : World) (_hs : s.size ≤ maxLen) (_hs1 : s1.size ≤ maxLen) (_hs2 : s2.size ≤ maxLen) (HK0 : Hid (keyB k n s = false)) :
    Calls Try.prog 113 #[.agg #[.int .i64 k, .int .i64 n, .string s], .agg #[.bool a, .bool b, .int .i64 k1, .int .i64 n1, .string s1, .int .i64 k2, .int .i64 n2, .string s2]] w fun e w' => e = .returned (.bool false) ∧ Below w.heap.size w w' := by
  go_enter Try.func113, Try.ntmps113
  go_wp2_with fail
  refine (implIsKey_any k n s false _ _hs HK0.out.symm).mono ?_
  rintro e w1 ⟨rfl, b1⟩
  have B1 := Below.trans (al (al (Below.refl _ _))) (b1.mono (by simp; omega))
  have c0 : w1.cell? ⟨w.heap.size, 0, none⟩ = some (.int .i64 k) := kcell b1 (by simp)
  have c1 : w1.cell? ⟨w.heap.size, 1, none⟩ = some (.int .i64 n) := kcell b1 (by simp)
  have c2 : w1.cell? ⟨w.heap.size, 2, none⟩ = some (.string s) := kcell b1 (by simp)
  have c3 : w1.cell? ⟨w.heap.size + 1, 0, none⟩ = some (.bool a) := kcell b1 (by simp)
  have c4 : w1.cell? ⟨w.heap.size + 1, 1, none⟩ = some (.bool b) := kcell b1 (by simp)
  have c5 : w1.cell? ⟨w.heap.size + 1, 2, none⟩ = some (.int .i64 k1) := kcell b1 (by simp)
  have c6 : w1.cell? ⟨w.heap.size + 1, 3, none⟩ = some (.int .i64 n1) := kcell b1 (by simp)
  have c7 : w1.cell? ⟨w.heap.size + 1, 4, none⟩ = some (.string s1) := kcell b1 (by simp)
  have c8 : w1.cell? ⟨w.heap.size + 1, 5, none⟩ = some (.int .i64 k2) := kcell b1 (by simp)
  have c9 : w1.cell? ⟨w.heap.size + 1, 6, none⟩ = some (.int .i64 n2) := kcell b1 (by simp)
  have c10 : w1.cell? ⟨w.heap.size + 1, 7, none⟩ = some (.string s2) := kcell b1 (by simp)
  clear b1
  go_wp2
  go_ret
  exact ⟨by first | rfl | exact ret_bool (decide_eq_false (by omega)).symm | exact ret_bool (decide_eq_true (by omega)).symm | exact ret_bool (by simp; omega), B1⟩

set_option maxRecDepth 100000 in
theorem implInR_p1 (b : Bool) (k n : Int) (s : ByteArray) (k1 n1 : Int) (s1 : ByteArray) (k2 n2 : Int) (s2 : ByteArray) (w : World) (_hs : s.size ≤ maxLen) (_hs1 : s1.size ≤ maxLen) (_hs2 : s2.size ≤ maxLen) (HK0 : Hid (keyB k n s = true)) (HK1 : Hid (keyB k1 n1 s1 = false)) :
    Calls Try.prog 113 #[.agg #[.int .i64 k, .int .i64 n, .string s], .agg #[.bool true, .bool b, .int .i64 k1, .int .i64 n1, .string s1, .int .i64 k2, .int .i64 n2, .string s2]] w fun e w' => e = .returned (.bool false) ∧ Below w.heap.size w w' := by
  go_enter Try.func113, Try.ntmps113
  go_wp2_with fail
  refine (implIsKey_any k n s true _ _hs HK0.out.symm).mono ?_
  rintro e w1 ⟨rfl, b1⟩
  have B1 := Below.trans (al (al (Below.refl _ _))) (b1.mono (by simp; omega))
  have c0 : w1.cell? ⟨w.heap.size, 0, none⟩ = some (.int .i64 k) := kcell b1 (by simp)
  have c1 : w1.cell? ⟨w.heap.size, 1, none⟩ = some (.int .i64 n) := kcell b1 (by simp)
  have c2 : w1.cell? ⟨w.heap.size, 2, none⟩ = some (.string s) := kcell b1 (by simp)
  have c3 : w1.cell? ⟨w.heap.size + 1, 0, none⟩ = some (.bool true) := kcell b1 (by simp)
  have c4 : w1.cell? ⟨w.heap.size + 1, 1, none⟩ = some (.bool b) := kcell b1 (by simp)
  have c5 : w1.cell? ⟨w.heap.size + 1, 2, none⟩ = some (.int .i64 k1) := kcell b1 (by simp)
  have c6 : w1.cell? ⟨w.heap.size + 1, 3, none⟩ = some (.int .i64 n1) := kcell b1 (by simp)
  have c7 : w1.cell? ⟨w.heap.size + 1, 4, none⟩ = some (.string s1) := kcell b1 (by simp)
  have c8 : w1.cell? ⟨w.heap.size + 1, 5, none⟩ = some (.int .i64 k2) := kcell b1 (by simp)
  have c9 : w1.cell? ⟨w.heap.size + 1, 6, none⟩ = some (.int .i64 n2) := kcell b1 (by simp)
  have c10 : w1.cell? ⟨w.heap.size + 1, 7, none⟩ = some (.string s2) := kcell b1 (by simp)
  clear b1
  go_wp2_with fail
  refine (implIsKey_any k1 n1 s1 false _ _hs1 HK1.out.symm).mono ?_
  rintro e w2 ⟨rfl, b2⟩
  have B2 := B1.trans (b2.mono B1.size)
  replace c0 := kcell b2 c0
  replace c1 := kcell b2 c1
  replace c2 := kcell b2 c2
  replace c3 := kcell b2 c3
  replace c4 := kcell b2 c4
  replace c5 := kcell b2 c5
  replace c6 := kcell b2 c6
  replace c7 := kcell b2 c7
  replace c8 := kcell b2 c8
  replace c9 := kcell b2 c9
  replace c10 := kcell b2 c10
  clear b2
  go_wp2
  go_ret
  exact ⟨by first | rfl | exact ret_bool (decide_eq_false (by omega)).symm | exact ret_bool (decide_eq_true (by omega)).symm | exact ret_bool (by simp; omega), B2⟩

set_option maxRecDepth 100000 in
theorem implInR_p2f (k n : Int) (s : ByteArray) (k1 n1 : Int) (s1 : ByteArray) (k2 n2 : Int) (s2 : ByteArray) (w : World) (_hs : s.size ≤ maxLen) (_hs1 : s1.size ≤ maxLen) (_hs2 : s2.size ≤ maxLen) (HK0 : Hid (keyB k n s = true)) (HK2 : Hid (keyB k2 n2 s2 = false)) :
    Calls Try.prog 113 #[.agg #[.int .i64 k, .int .i64 n, .string s], .agg #[.bool false, .bool true, .int .i64 k1, .int .i64 n1, .string s1, .int .i64 k2, .int .i64 n2, .string s2]] w fun e w' => e = .returned (.bool false) ∧ Below w.heap.size w w' := by
  go_enter Try.func113, Try.ntmps113
  go_wp2_with fail
  refine (implIsKey_any k n s true _ _hs HK0.out.symm).mono ?_
  rintro e w1 ⟨rfl, b1⟩
  have B1 := Below.trans (al (al (Below.refl _ _))) (b1.mono (by simp; omega))
  have c0 : w1.cell? ⟨w.heap.size, 0, none⟩ = some (.int .i64 k) := kcell b1 (by simp)
  have c1 : w1.cell? ⟨w.heap.size, 1, none⟩ = some (.int .i64 n) := kcell b1 (by simp)
  have c2 : w1.cell? ⟨w.heap.size, 2, none⟩ = some (.string s) := kcell b1 (by simp)
  have c3 : w1.cell? ⟨w.heap.size + 1, 0, none⟩ = some (.bool false) := kcell b1 (by simp)
  have c4 : w1.cell? ⟨w.heap.size + 1, 1, none⟩ = some (.bool true) := kcell b1 (by simp)
  have c5 : w1.cell? ⟨w.heap.size + 1, 2, none⟩ = some (.int .i64 k1) := kcell b1 (by simp)
  have c6 : w1.cell? ⟨w.heap.size + 1, 3, none⟩ = some (.int .i64 n1) := kcell b1 (by simp)
  have c7 : w1.cell? ⟨w.heap.size + 1, 4, none⟩ = some (.string s1) := kcell b1 (by simp)
  have c8 : w1.cell? ⟨w.heap.size + 1, 5, none⟩ = some (.int .i64 k2) := kcell b1 (by simp)
  have c9 : w1.cell? ⟨w.heap.size + 1, 6, none⟩ = some (.int .i64 n2) := kcell b1 (by simp)
  have c10 : w1.cell? ⟨w.heap.size + 1, 7, none⟩ = some (.string s2) := kcell b1 (by simp)
  clear b1
  go_wp2_with fail
  refine (implIsKey_any k2 n2 s2 false _ _hs2 HK2.out.symm).mono ?_
  rintro e w2 ⟨rfl, b2⟩
  have B2 := B1.trans (b2.mono B1.size)
  replace c0 := kcell b2 c0
  replace c1 := kcell b2 c1
  replace c2 := kcell b2 c2
  replace c3 := kcell b2 c3
  replace c4 := kcell b2 c4
  replace c5 := kcell b2 c5
  replace c6 := kcell b2 c6
  replace c7 := kcell b2 c7
  replace c8 := kcell b2 c8
  replace c9 := kcell b2 c9
  replace c10 := kcell b2 c10
  clear b2
  go_wp2
  go_ret
  exact ⟨by first | rfl | exact ret_bool (decide_eq_false (by omega)).symm | exact ret_bool (decide_eq_true (by omega)).symm | exact ret_bool (by simp; omega), B2⟩

set_option maxRecDepth 100000 in
theorem implInR_p2t (k n : Int) (s : ByteArray) (k1 n1 : Int) (s1 : ByteArray) (k2 n2 : Int) (s2 : ByteArray) (w : World) (_hs : s.size ≤ maxLen) (_hs1 : s1.size ≤ maxLen) (_hs2 : s2.size ≤ maxLen) (HK0 : Hid (keyB k n s = true)) (HK1 : Hid (keyB k1 n1 s1 = true)) (HK2 : Hid (keyB k2 n2 s2 = false)) :
    Calls Try.prog 113 #[.agg #[.int .i64 k, .int .i64 n, .string s], .agg #[.bool true, .bool true, .int .i64 k1, .int .i64 n1, .string s1, .int .i64 k2, .int .i64 n2, .string s2]] w fun e w' => e = .returned (.bool false) ∧ Below w.heap.size w w' := by
  go_enter Try.func113, Try.ntmps113
  go_wp2_with fail
  refine (implIsKey_any k n s true _ _hs HK0.out.symm).mono ?_
  rintro e w1 ⟨rfl, b1⟩
  have B1 := Below.trans (al (al (Below.refl _ _))) (b1.mono (by simp; omega))
  have c0 : w1.cell? ⟨w.heap.size, 0, none⟩ = some (.int .i64 k) := kcell b1 (by simp)
  have c1 : w1.cell? ⟨w.heap.size, 1, none⟩ = some (.int .i64 n) := kcell b1 (by simp)
  have c2 : w1.cell? ⟨w.heap.size, 2, none⟩ = some (.string s) := kcell b1 (by simp)
  have c3 : w1.cell? ⟨w.heap.size + 1, 0, none⟩ = some (.bool true) := kcell b1 (by simp)
  have c4 : w1.cell? ⟨w.heap.size + 1, 1, none⟩ = some (.bool true) := kcell b1 (by simp)
  have c5 : w1.cell? ⟨w.heap.size + 1, 2, none⟩ = some (.int .i64 k1) := kcell b1 (by simp)
  have c6 : w1.cell? ⟨w.heap.size + 1, 3, none⟩ = some (.int .i64 n1) := kcell b1 (by simp)
  have c7 : w1.cell? ⟨w.heap.size + 1, 4, none⟩ = some (.string s1) := kcell b1 (by simp)
  have c8 : w1.cell? ⟨w.heap.size + 1, 5, none⟩ = some (.int .i64 k2) := kcell b1 (by simp)
  have c9 : w1.cell? ⟨w.heap.size + 1, 6, none⟩ = some (.int .i64 n2) := kcell b1 (by simp)
  have c10 : w1.cell? ⟨w.heap.size + 1, 7, none⟩ = some (.string s2) := kcell b1 (by simp)
  clear b1
  go_wp2_with fail
  refine (implIsKey_any k1 n1 s1 true _ _hs1 HK1.out.symm).mono ?_
  rintro e w2 ⟨rfl, b2⟩
  have B2 := B1.trans (b2.mono B1.size)
  replace c0 := kcell b2 c0
  replace c1 := kcell b2 c1
  replace c2 := kcell b2 c2
  replace c3 := kcell b2 c3
  replace c4 := kcell b2 c4
  replace c5 := kcell b2 c5
  replace c6 := kcell b2 c6
  replace c7 := kcell b2 c7
  replace c8 := kcell b2 c8
  replace c9 := kcell b2 c9
  replace c10 := kcell b2 c10
  clear b2
  go_wp2_with fail
  refine (implIsKey_any k2 n2 s2 false _ _hs2 HK2.out.symm).mono ?_
  rintro e w3 ⟨rfl, b3⟩
  have B3 := B2.trans (b3.mono B2.size)
  replace c0 := kcell b3 c0
  replace c1 := kcell b3 c1
  replace c2 := kcell b3 c2
  replace c3 := kcell b3 c3
  replace c4 := kcell b3 c4
  replace c5 := kcell b3 c5
  replace c6 := kcell b3 c6
  replace c7 := kcell b3 c7
  replace c8 := kcell b3 c8
  replace c9 := kcell b3 c9
  replace c10 := kcell b3 c10
  clear b3
  go_wp2
  go_ret
  exact ⟨by first | rfl | exact ret_bool (decide_eq_false (by omega)).symm | exact ret_bool (decide_eq_true (by omega)).symm | exact ret_bool (by simp; omega), B3⟩

set_option maxRecDepth 100000 in
theorem implInR_p3 (k n : Int) (s : ByteArray) (k1 n1 : Int) (s1 : ByteArray) (k2 n2 : Int) (s2 : ByteArray) (w : World) (_hs : s.size ≤ maxLen) (_hs1 : s1.size ≤ maxLen) (_hs2 : s2.size ≤ maxLen) (HK0 : Hid (keyB k n s = true)) :
    Calls Try.prog 113 #[.agg #[.int .i64 k, .int .i64 n, .string s], .agg #[.bool false, .bool false, .int .i64 k1, .int .i64 n1, .string s1, .int .i64 k2, .int .i64 n2, .string s2]] w fun e w' => e = .returned (.bool true) ∧ Below w.heap.size w w' := by
  go_enter Try.func113, Try.ntmps113
  go_wp2_with fail
  refine (implIsKey_any k n s true _ _hs HK0.out.symm).mono ?_
  rintro e w1 ⟨rfl, b1⟩
  have B1 := Below.trans (al (al (Below.refl _ _))) (b1.mono (by simp; omega))
  have c0 : w1.cell? ⟨w.heap.size, 0, none⟩ = some (.int .i64 k) := kcell b1 (by simp)
  have c1 : w1.cell? ⟨w.heap.size, 1, none⟩ = some (.int .i64 n) := kcell b1 (by simp)
  have c2 : w1.cell? ⟨w.heap.size, 2, none⟩ = some (.string s) := kcell b1 (by simp)
  have c3 : w1.cell? ⟨w.heap.size + 1, 0, none⟩ = some (.bool false) := kcell b1 (by simp)
  have c4 : w1.cell? ⟨w.heap.size + 1, 1, none⟩ = some (.bool false) := kcell b1 (by simp)
  have c5 : w1.cell? ⟨w.heap.size + 1, 2, none⟩ = some (.int .i64 k1) := kcell b1 (by simp)
  have c6 : w1.cell? ⟨w.heap.size + 1, 3, none⟩ = some (.int .i64 n1) := kcell b1 (by simp)
  have c7 : w1.cell? ⟨w.heap.size + 1, 4, none⟩ = some (.string s1) := kcell b1 (by simp)
  have c8 : w1.cell? ⟨w.heap.size + 1, 5, none⟩ = some (.int .i64 k2) := kcell b1 (by simp)
  have c9 : w1.cell? ⟨w.heap.size + 1, 6, none⟩ = some (.int .i64 n2) := kcell b1 (by simp)
  have c10 : w1.cell? ⟨w.heap.size + 1, 7, none⟩ = some (.string s2) := kcell b1 (by simp)
  clear b1
  go_wp2
  go_ret
  exact ⟨by first | rfl | exact ret_bool (decide_eq_false (by omega)).symm | exact ret_bool (decide_eq_true (by omega)).symm | exact ret_bool (by simp; omega), B1⟩

set_option maxRecDepth 100000 in
theorem implInR_p4T (k n : Int) (s : ByteArray) (k1 n1 : Int) (s1 : ByteArray) (k2 n2 : Int) (s2 : ByteArray) (w : World) (_hs : s.size ≤ maxLen) (_hs1 : s1.size ≤ maxLen) (_hs2 : s2.size ≤ maxLen) (HK0 : Hid (keyB k n s = true)) (HK1 : Hid (keyB k1 n1 s1 = true)) (h1 : 0 ≤ cmpK k n s k1 n1 s1) :
    Calls Try.prog 113 #[.agg #[.int .i64 k, .int .i64 n, .string s], .agg #[.bool true, .bool false, .int .i64 k1, .int .i64 n1, .string s1, .int .i64 k2, .int .i64 n2, .string s2]] w fun e w' => e = .returned (.bool true) ∧ Below w.heap.size w w' := by
  go_enter Try.func113, Try.ntmps113
  go_wp2_with fail
  refine (implIsKey_any k n s true _ _hs HK0.out.symm).mono ?_
  rintro e w1 ⟨rfl, b1⟩
  have B1 := Below.trans (al (al (Below.refl _ _))) (b1.mono (by simp; omega))
  have c0 : w1.cell? ⟨w.heap.size, 0, none⟩ = some (.int .i64 k) := kcell b1 (by simp)
  have c1 : w1.cell? ⟨w.heap.size, 1, none⟩ = some (.int .i64 n) := kcell b1 (by simp)
  have c2 : w1.cell? ⟨w.heap.size, 2, none⟩ = some (.string s) := kcell b1 (by simp)
  have c3 : w1.cell? ⟨w.heap.size + 1, 0, none⟩ = some (.bool true) := kcell b1 (by simp)
  have c4 : w1.cell? ⟨w.heap.size + 1, 1, none⟩ = some (.bool false) := kcell b1 (by simp)
  have c5 : w1.cell? ⟨w.heap.size + 1, 2, none⟩ = some (.int .i64 k1) := kcell b1 (by simp)
  have c6 : w1.cell? ⟨w.heap.size + 1, 3, none⟩ = some (.int .i64 n1) := kcell b1 (by simp)
  have c7 : w1.cell? ⟨w.heap.size + 1, 4, none⟩ = some (.string s1) := kcell b1 (by simp)
  have c8 : w1.cell? ⟨w.heap.size + 1, 5, none⟩ = some (.int .i64 k2) := kcell b1 (by simp)
  have c9 : w1.cell? ⟨w.heap.size + 1, 6, none⟩ = some (.int .i64 n2) := kcell b1 (by simp)
  have c10 : w1.cell? ⟨w.heap.size + 1, 7, none⟩ = some (.string s2) := kcell b1 (by simp)
  clear b1
  go_wp2_with fail
  refine (implIsKey_any k1 n1 s1 true _ _hs1 HK1.out.symm).mono ?_
  rintro e w2 ⟨rfl, b2⟩
  have B2 := B1.trans (b2.mono B1.size)
  replace c0 := kcell b2 c0
  replace c1 := kcell b2 c1
  replace c2 := kcell b2 c2
  replace c3 := kcell b2 c3
  replace c4 := kcell b2 c4
  replace c5 := kcell b2 c5
  replace c6 := kcell b2 c6
  replace c7 := kcell b2 c7
  replace c8 := kcell b2 c8
  replace c9 := kcell b2 c9
  replace c10 := kcell b2 c10
  clear b2
  go_wp2_with fail
  refine (implCompareKeys_any k n k1 n1 s s1 _ _hs _hs1).mono ?_
  rintro e w3 ⟨rfl, b3⟩
  have B3 := B2.trans (b3.mono B2.size)
  replace c0 := kcell b3 c0
  replace c1 := kcell b3 c1
  replace c2 := kcell b3 c2
  replace c3 := kcell b3 c3
  replace c4 := kcell b3 c4
  replace c5 := kcell b3 c5
  replace c6 := kcell b3 c6
  replace c7 := kcell b3 c7
  replace c8 := kcell b3 c8
  replace c9 := kcell b3 c9
  replace c10 := kcell b3 c10
  clear b3
  obtain ⟨x1, hx1⟩ : ∃ x, x = cmpK k n s k1 n1 s1 := ⟨_, rfl⟩
  rw [← hx1]
  have HX1 := Lib.hid hx1
  clear hx1
  have g1 : 0 ≤ x1 := by have h1 := HX1.out; have h2 := cmpK_turn k n s k1 n1 s1; omega
  go_wp2
  go_ret
  exact ⟨by first | rfl | exact ret_bool (decide_eq_false (by omega)).symm | exact ret_bool (decide_eq_true (by omega)).symm | exact ret_bool (by simp; omega), B3⟩

set_option maxRecDepth 100000 in
theorem implInR_p6TT (k n : Int) (s : ByteArray) (k1 n1 : Int) (s1 : ByteArray) (k2 n2 : Int) (s2 : ByteArray) (w : World) (_hs : s.size ≤ maxLen) (_hs1 : s1.size ≤ maxLen) (_hs2 : s2.size ≤ maxLen) (HK0 : Hid (keyB k n s = true)) (HK1 : Hid (keyB k1 n1 s1 = true)) (HK2 : Hid (keyB k2 n2 s2 = true)) (h1 : 0 ≤ cmpK k n s k1 n1 s1) (h2 : cmpK k n s k2 n2 s2 ≤ 0) :
    Calls Try.prog 113 #[.agg #[.int .i64 k, .int .i64 n, .string s], .agg #[.bool true, .bool true, .int .i64 k1, .int .i64 n1, .string s1, .int .i64 k2, .int .i64 n2, .string s2]] w fun e w' => e = .returned (.bool true) ∧ Below w.heap.size w w' := by
  go_enter Try.func113, Try.ntmps113
  go_wp2_with fail
  refine (implIsKey_any k n s true _ _hs HK0.out.symm).mono ?_
  rintro e w1 ⟨rfl, b1⟩
  have B1 := Below.trans (al (al (Below.refl _ _))) (b1.mono (by simp; omega))
  have c0 : w1.cell? ⟨w.heap.size, 0, none⟩ = some (.int .i64 k) := kcell b1 (by simp)
  have c1 : w1.cell? ⟨w.heap.size, 1, none⟩ = some (.int .i64 n) := kcell b1 (by simp)
  have c2 : w1.cell? ⟨w.heap.size, 2, none⟩ = some (.string s) := kcell b1 (by simp)
  have c3 : w1.cell? ⟨w.heap.size + 1, 0, none⟩ = some (.bool true) := kcell b1 (by simp)
  have c4 : w1.cell? ⟨w.heap.size + 1, 1, none⟩ = some (.bool true) := kcell b1 (by simp)
  have c5 : w1.cell? ⟨w.heap.size + 1, 2, none⟩ = some (.int .i64 k1) := kcell b1 (by simp)
  have c6 : w1.cell? ⟨w.heap.size + 1, 3, none⟩ = some (.int .i64 n1) := kcell b1 (by simp)
  have c7 : w1.cell? ⟨w.heap.size + 1, 4, none⟩ = some (.string s1) := kcell b1 (by simp)
  have c8 : w1.cell? ⟨w.heap.size + 1, 5, none⟩ = some (.int .i64 k2) := kcell b1 (by simp)
  have c9 : w1.cell? ⟨w.heap.size + 1, 6, none⟩ = some (.int .i64 n2) := kcell b1 (by simp)
  have c10 : w1.cell? ⟨w.heap.size + 1, 7, none⟩ = some (.string s2) := kcell b1 (by simp)
  clear b1
  go_wp2_with fail
  refine (implIsKey_any k1 n1 s1 true _ _hs1 HK1.out.symm).mono ?_
  rintro e w2 ⟨rfl, b2⟩
  have B2 := B1.trans (b2.mono B1.size)
  replace c0 := kcell b2 c0
  replace c1 := kcell b2 c1
  replace c2 := kcell b2 c2
  replace c3 := kcell b2 c3
  replace c4 := kcell b2 c4
  replace c5 := kcell b2 c5
  replace c6 := kcell b2 c6
  replace c7 := kcell b2 c7
  replace c8 := kcell b2 c8
  replace c9 := kcell b2 c9
  replace c10 := kcell b2 c10
  clear b2
  go_wp2_with fail
  refine (implIsKey_any k2 n2 s2 true _ _hs2 HK2.out.symm).mono ?_
  rintro e w3 ⟨rfl, b3⟩
  have B3 := B2.trans (b3.mono B2.size)
  replace c0 := kcell b3 c0
  replace c1 := kcell b3 c1
  replace c2 := kcell b3 c2
  replace c3 := kcell b3 c3
  replace c4 := kcell b3 c4
  replace c5 := kcell b3 c5
  replace c6 := kcell b3 c6
  replace c7 := kcell b3 c7
  replace c8 := kcell b3 c8
  replace c9 := kcell b3 c9
  replace c10 := kcell b3 c10
  clear b3
  go_wp2_with fail
  refine (implCompareKeys_any k n k1 n1 s s1 _ _hs _hs1).mono ?_
  rintro e w4 ⟨rfl, b4⟩
  have B4 := B3.trans (b4.mono B3.size)
  replace c0 := kcell b4 c0
  replace c1 := kcell b4 c1
  replace c2 := kcell b4 c2
  replace c3 := kcell b4 c3
  replace c4 := kcell b4 c4
  replace c5 := kcell b4 c5
  replace c6 := kcell b4 c6
  replace c7 := kcell b4 c7
  replace c8 := kcell b4 c8
  replace c9 := kcell b4 c9
  replace c10 := kcell b4 c10
  clear b4
  obtain ⟨x1, hx1⟩ : ∃ x, x = cmpK k n s k1 n1 s1 := ⟨_, rfl⟩
  rw [← hx1]
  have HX1 := Lib.hid hx1
  clear hx1
  have g1 : 0 ≤ x1 := by have h1 := HX1.out; have h2 := cmpK_turn k n s k1 n1 s1; omega
  go_wp2_with fail
  refine (implCompareKeys_any k n k2 n2 s s2 _ _hs _hs2).mono ?_
  rintro e w5 ⟨rfl, b5⟩
  have B5 := B4.trans (b5.mono B4.size)
  replace c0 := kcell b5 c0
  replace c1 := kcell b5 c1
  replace c2 := kcell b5 c2
  replace c3 := kcell b5 c3
  replace c4 := kcell b5 c4
  replace c5 := kcell b5 c5
  replace c6 := kcell b5 c6
  replace c7 := kcell b5 c7
  replace c8 := kcell b5 c8
  replace c9 := kcell b5 c9
  replace c10 := kcell b5 c10
  clear b5
  obtain ⟨x2, hx2⟩ : ∃ x, x = cmpK k n s k2 n2 s2 := ⟨_, rfl⟩
  rw [← hx2]
  have HX2 := Lib.hid hx2
  clear hx2
  have g2 : x2 ≤ 0 := by have q := HX2.out; omega
  go_wp2
  go_ret
  exact ⟨by first | rfl | exact ret_bool (decide_eq_false (by omega)).symm | exact ret_bool (decide_eq_true (by omega)).symm | exact ret_bool (by simp; omega), B5⟩

set_option maxRecDepth 100000 in
theorem implInR_p5T (k n : Int) (s : ByteArray) (k1 n1 : Int) (s1 : ByteArray) (k2 n2 : Int) (s2 : ByteArray) (w : World) (_hs : s.size ≤ maxLen) (_hs1 : s1.size ≤ maxLen) (_hs2 : s2.size ≤ maxLen) (HK0 : Hid (keyB k n s = true)) (HK2 : Hid (keyB k2 n2 s2 = true)) (h2 : cmpK k n s k2 n2 s2 ≤ 0) :
    Calls Try.prog 113 #[.agg #[.int .i64 k, .int .i64 n, .string s], .agg #[.bool false, .bool true, .int .i64 k1, .int .i64 n1, .string s1, .int .i64 k2, .int .i64 n2, .string s2]] w fun e w' => e = .returned (.bool true) ∧ Below w.heap.size w w' := by
  go_enter Try.func113, Try.ntmps113
  go_wp2_with fail
  refine (implIsKey_any k n s true _ _hs HK0.out.symm).mono ?_
  rintro e w1 ⟨rfl, b1⟩
  have B1 := Below.trans (al (al (Below.refl _ _))) (b1.mono (by simp; omega))
  have c0 : w1.cell? ⟨w.heap.size, 0, none⟩ = some (.int .i64 k) := kcell b1 (by simp)
  have c1 : w1.cell? ⟨w.heap.size, 1, none⟩ = some (.int .i64 n) := kcell b1 (by simp)
  have c2 : w1.cell? ⟨w.heap.size, 2, none⟩ = some (.string s) := kcell b1 (by simp)
  have c3 : w1.cell? ⟨w.heap.size + 1, 0, none⟩ = some (.bool false) := kcell b1 (by simp)
  have c4 : w1.cell? ⟨w.heap.size + 1, 1, none⟩ = some (.bool true) := kcell b1 (by simp)
  have c5 : w1.cell? ⟨w.heap.size + 1, 2, none⟩ = some (.int .i64 k1) := kcell b1 (by simp)
  have c6 : w1.cell? ⟨w.heap.size + 1, 3, none⟩ = some (.int .i64 n1) := kcell b1 (by simp)
  have c7 : w1.cell? ⟨w.heap.size + 1, 4, none⟩ = some (.string s1) := kcell b1 (by simp)
  have c8 : w1.cell? ⟨w.heap.size + 1, 5, none⟩ = some (.int .i64 k2) := kcell b1 (by simp)
  have c9 : w1.cell? ⟨w.heap.size + 1, 6, none⟩ = some (.int .i64 n2) := kcell b1 (by simp)
  have c10 : w1.cell? ⟨w.heap.size + 1, 7, none⟩ = some (.string s2) := kcell b1 (by simp)
  clear b1
  go_wp2_with fail
  refine (implIsKey_any k2 n2 s2 true _ _hs2 HK2.out.symm).mono ?_
  rintro e w2 ⟨rfl, b2⟩
  have B2 := B1.trans (b2.mono B1.size)
  replace c0 := kcell b2 c0
  replace c1 := kcell b2 c1
  replace c2 := kcell b2 c2
  replace c3 := kcell b2 c3
  replace c4 := kcell b2 c4
  replace c5 := kcell b2 c5
  replace c6 := kcell b2 c6
  replace c7 := kcell b2 c7
  replace c8 := kcell b2 c8
  replace c9 := kcell b2 c9
  replace c10 := kcell b2 c10
  clear b2
  go_wp2_with fail
  refine (implCompareKeys_any k n k2 n2 s s2 _ _hs _hs2).mono ?_
  rintro e w3 ⟨rfl, b3⟩
  have B3 := B2.trans (b3.mono B2.size)
  replace c0 := kcell b3 c0
  replace c1 := kcell b3 c1
  replace c2 := kcell b3 c2
  replace c3 := kcell b3 c3
  replace c4 := kcell b3 c4
  replace c5 := kcell b3 c5
  replace c6 := kcell b3 c6
  replace c7 := kcell b3 c7
  replace c8 := kcell b3 c8
  replace c9 := kcell b3 c9
  replace c10 := kcell b3 c10
  clear b3
  obtain ⟨x2, hx2⟩ : ∃ x, x = cmpK k n s k2 n2 s2 := ⟨_, rfl⟩
  rw [← hx2]
  have HX2 := Lib.hid hx2
  clear hx2
  have g2 : x2 ≤ 0 := by have q := HX2.out; omega
  go_wp2
  go_ret
  exact ⟨by first | rfl | exact ret_bool (decide_eq_false (by omega)).symm | exact ret_bool (decide_eq_true (by omega)).symm | exact ret_bool (by simp; omega), B3⟩

set_option maxRecDepth 100000 in
theorem implInR_p6TF (k n : Int) (s : ByteArray) (k1 n1 : Int) (s1 : ByteArray) (k2 n2 : Int) (s2 : ByteArray) (w : World) (_hs : s.size ≤ maxLen) (_hs1 : s1.size ≤ maxLen) (_hs2 : s2.size ≤ maxLen) (HK0 : Hid (keyB k n s = true)) (HK1 : Hid (keyB k1 n1 s1 = true)) (HK2 : Hid (keyB k2 n2 s2 = true)) (h1 : 0 ≤ cmpK k n s k1 n1 s1) (h2 : 0 < cmpK k n s k2 n2 s2) :
    Calls Try.prog 113 #[.agg #[.int .i64 k, .int .i64 n, .string s], .agg #[.bool true, .bool true, .int .i64 k1, .int .i64 n1, .string s1, .int .i64 k2, .int .i64 n2, .string s2]] w fun e w' => e = .returned (.bool false) ∧ Below w.heap.size w w' := by
  go_enter Try.func113, Try.ntmps113
  go_wp2_with fail
  refine (implIsKey_any k n s true _ _hs HK0.out.symm).mono ?_
  rintro e w1 ⟨rfl, b1⟩
  have B1 := Below.trans (al (al (Below.refl _ _))) (b1.mono (by simp; omega))
  have c0 : w1.cell? ⟨w.heap.size, 0, none⟩ = some (.int .i64 k) := kcell b1 (by simp)
  have c1 : w1.cell? ⟨w.heap.size, 1, none⟩ = some (.int .i64 n) := kcell b1 (by simp)
  have c2 : w1.cell? ⟨w.heap.size, 2, none⟩ = some (.string s) := kcell b1 (by simp)
  have c3 : w1.cell? ⟨w.heap.size + 1, 0, none⟩ = some (.bool true) := kcell b1 (by simp)
  have c4 : w1.cell? ⟨w.heap.size + 1, 1, none⟩ = some (.bool true) := kcell b1 (by simp)
  have c5 : w1.cell? ⟨w.heap.size + 1, 2, none⟩ = some (.int .i64 k1) := kcell b1 (by simp)
  have c6 : w1.cell? ⟨w.heap.size + 1, 3, none⟩ = some (.int .i64 n1) := kcell b1 (by simp)
  have c7 : w1.cell? ⟨w.heap.size + 1, 4, none⟩ = some (.string s1) := kcell b1 (by simp)
  have c8 : w1.cell? ⟨w.heap.size + 1, 5, none⟩ = some (.int .i64 k2) := kcell b1 (by simp)
  have c9 : w1.cell? ⟨w.heap.size + 1, 6, none⟩ = some (.int .i64 n2) := kcell b1 (by simp)
  have c10 : w1.cell? ⟨w.heap.size + 1, 7, none⟩ = some (.string s2) := kcell b1 (by simp)
  clear b1
  go_wp2_with fail
  refine (implIsKey_any k1 n1 s1 true _ _hs1 HK1.out.symm).mono ?_
  rintro e w2 ⟨rfl, b2⟩
  have B2 := B1.trans (b2.mono B1.size)
  replace c0 := kcell b2 c0
  replace c1 := kcell b2 c1
  replace c2 := kcell b2 c2
  replace c3 := kcell b2 c3
  replace c4 := kcell b2 c4
  replace c5 := kcell b2 c5
  replace c6 := kcell b2 c6
  replace c7 := kcell b2 c7
  replace c8 := kcell b2 c8
  replace c9 := kcell b2 c9
  replace c10 := kcell b2 c10
  clear b2
  go_wp2_with fail
  refine (implIsKey_any k2 n2 s2 true _ _hs2 HK2.out.symm).mono ?_
  rintro e w3 ⟨rfl, b3⟩
  have B3 := B2.trans (b3.mono B2.size)
  replace c0 := kcell b3 c0
  replace c1 := kcell b3 c1
  replace c2 := kcell b3 c2
  replace c3 := kcell b3 c3
  replace c4 := kcell b3 c4
  replace c5 := kcell b3 c5
  replace c6 := kcell b3 c6
  replace c7 := kcell b3 c7
  replace c8 := kcell b3 c8
  replace c9 := kcell b3 c9
  replace c10 := kcell b3 c10
  clear b3
  go_wp2_with fail
  refine (implCompareKeys_any k n k1 n1 s s1 _ _hs _hs1).mono ?_
  rintro e w4 ⟨rfl, b4⟩
  have B4 := B3.trans (b4.mono B3.size)
  replace c0 := kcell b4 c0
  replace c1 := kcell b4 c1
  replace c2 := kcell b4 c2
  replace c3 := kcell b4 c3
  replace c4 := kcell b4 c4
  replace c5 := kcell b4 c5
  replace c6 := kcell b4 c6
  replace c7 := kcell b4 c7
  replace c8 := kcell b4 c8
  replace c9 := kcell b4 c9
  replace c10 := kcell b4 c10
  clear b4
  obtain ⟨x1, hx1⟩ : ∃ x, x = cmpK k n s k1 n1 s1 := ⟨_, rfl⟩
  rw [← hx1]
  have HX1 := Lib.hid hx1
  clear hx1
  have g1 : 0 ≤ x1 := by have h1 := HX1.out; have h2 := cmpK_turn k n s k1 n1 s1; omega
  go_wp2_with fail
  refine (implCompareKeys_any k n k2 n2 s s2 _ _hs _hs2).mono ?_
  rintro e w5 ⟨rfl, b5⟩
  have B5 := B4.trans (b5.mono B4.size)
  replace c0 := kcell b5 c0
  replace c1 := kcell b5 c1
  replace c2 := kcell b5 c2
  replace c3 := kcell b5 c3
  replace c4 := kcell b5 c4
  replace c5 := kcell b5 c5
  replace c6 := kcell b5 c6
  replace c7 := kcell b5 c7
  replace c8 := kcell b5 c8
  replace c9 := kcell b5 c9
  replace c10 := kcell b5 c10
  clear b5
  obtain ⟨x2, hx2⟩ : ∃ x, x = cmpK k n s k2 n2 s2 := ⟨_, rfl⟩
  rw [← hx2]
  have HX2 := Lib.hid hx2
  clear hx2
  have g2 : 0 < x2 := by have q := HX2.out; omega
  go_wp2
  go_ret
  exact ⟨by first | rfl | exact ret_bool (decide_eq_false (by omega)).symm | exact ret_bool (decide_eq_true (by omega)).symm | exact ret_bool (by simp; omega), B5⟩

set_option maxRecDepth 100000 in
theorem implInR_p5F (k n : Int) (s : ByteArray) (k1 n1 : Int) (s1 : ByteArray) (k2 n2 : Int) (s2 : ByteArray) (w : World) (_hs : s.size ≤ maxLen) (_hs1 : s1.size ≤ maxLen) (_hs2 : s2.size ≤ maxLen) (HK0 : Hid (keyB k n s = true)) (HK2 : Hid (keyB k2 n2 s2 = true)) (h2 : 0 < cmpK k n s k2 n2 s2) :
    Calls Try.prog 113 #[.agg #[.int .i64 k, .int .i64 n, .string s], .agg #[.bool false, .bool true, .int .i64 k1, .int .i64 n1, .string s1, .int .i64 k2, .int .i64 n2, .string s2]] w fun e w' => e = .returned (.bool false) ∧ Below w.heap.size w w' := by
  go_enter Try.func113, Try.ntmps113
  go_wp2_with fail
  refine (implIsKey_any k n s true _ _hs HK0.out.symm).mono ?_
  rintro e w1 ⟨rfl, b1⟩
  have B1 := Below.trans (al (al (Below.refl _ _))) (b1.mono (by simp; omega))
  have c0 : w1.cell? ⟨w.heap.size, 0, none⟩ = some (.int .i64 k) := kcell b1 (by simp)
  have c1 : w1.cell? ⟨w.heap.size, 1, none⟩ = some (.int .i64 n) := kcell b1 (by simp)
  have c2 : w1.cell? ⟨w.heap.size, 2, none⟩ = some (.string s) := kcell b1 (by simp)
  have c3 : w1.cell? ⟨w.heap.size + 1, 0, none⟩ = some (.bool false) := kcell b1 (by simp)
  have c4 : w1.cell? ⟨w.heap.size + 1, 1, none⟩ = some (.bool true) := kcell b1 (by simp)
  have c5 : w1.cell? ⟨w.heap.size + 1, 2, none⟩ = some (.int .i64 k1) := kcell b1 (by simp)
  have c6 : w1.cell? ⟨w.heap.size + 1, 3, none⟩ = some (.int .i64 n1) := kcell b1 (by simp)
  have c7 : w1.cell? ⟨w.heap.size + 1, 4, none⟩ = some (.string s1) := kcell b1 (by simp)
  have c8 : w1.cell? ⟨w.heap.size + 1, 5, none⟩ = some (.int .i64 k2) := kcell b1 (by simp)
  have c9 : w1.cell? ⟨w.heap.size + 1, 6, none⟩ = some (.int .i64 n2) := kcell b1 (by simp)
  have c10 : w1.cell? ⟨w.heap.size + 1, 7, none⟩ = some (.string s2) := kcell b1 (by simp)
  clear b1
  go_wp2_with fail
  refine (implIsKey_any k2 n2 s2 true _ _hs2 HK2.out.symm).mono ?_
  rintro e w2 ⟨rfl, b2⟩
  have B2 := B1.trans (b2.mono B1.size)
  replace c0 := kcell b2 c0
  replace c1 := kcell b2 c1
  replace c2 := kcell b2 c2
  replace c3 := kcell b2 c3
  replace c4 := kcell b2 c4
  replace c5 := kcell b2 c5
  replace c6 := kcell b2 c6
  replace c7 := kcell b2 c7
  replace c8 := kcell b2 c8
  replace c9 := kcell b2 c9
  replace c10 := kcell b2 c10
  clear b2
  go_wp2_with fail
  refine (implCompareKeys_any k n k2 n2 s s2 _ _hs _hs2).mono ?_
  rintro e w3 ⟨rfl, b3⟩
  have B3 := B2.trans (b3.mono B2.size)
  replace c0 := kcell b3 c0
  replace c1 := kcell b3 c1
  replace c2 := kcell b3 c2
  replace c3 := kcell b3 c3
  replace c4 := kcell b3 c4
  replace c5 := kcell b3 c5
  replace c6 := kcell b3 c6
  replace c7 := kcell b3 c7
  replace c8 := kcell b3 c8
  replace c9 := kcell b3 c9
  replace c10 := kcell b3 c10
  clear b3
  obtain ⟨x2, hx2⟩ : ∃ x, x = cmpK k n s k2 n2 s2 := ⟨_, rfl⟩
  rw [← hx2]
  have HX2 := Lib.hid hx2
  clear hx2
  have g2 : 0 < x2 := by have q := HX2.out; omega
  go_wp2
  go_ret
  exact ⟨by first | rfl | exact ret_bool (decide_eq_false (by omega)).symm | exact ret_bool (decide_eq_true (by omega)).symm | exact ret_bool (by simp; omega), B3⟩

set_option maxRecDepth 100000 in
theorem implInR_p4F (k n : Int) (s : ByteArray) (k1 n1 : Int) (s1 : ByteArray) (k2 n2 : Int) (s2 : ByteArray) (w : World) (_hs : s.size ≤ maxLen) (_hs1 : s1.size ≤ maxLen) (_hs2 : s2.size ≤ maxLen) (HK0 : Hid (keyB k n s = true)) (HK1 : Hid (keyB k1 n1 s1 = true)) (h1 : cmpK k n s k1 n1 s1 < 0) :
    Calls Try.prog 113 #[.agg #[.int .i64 k, .int .i64 n, .string s], .agg #[.bool true, .bool false, .int .i64 k1, .int .i64 n1, .string s1, .int .i64 k2, .int .i64 n2, .string s2]] w fun e w' => e = .returned (.bool false) ∧ Below w.heap.size w w' := by
  go_enter Try.func113, Try.ntmps113
  go_wp2_with fail
  refine (implIsKey_any k n s true _ _hs HK0.out.symm).mono ?_
  rintro e w1 ⟨rfl, b1⟩
  have B1 := Below.trans (al (al (Below.refl _ _))) (b1.mono (by simp; omega))
  have c0 : w1.cell? ⟨w.heap.size, 0, none⟩ = some (.int .i64 k) := kcell b1 (by simp)
  have c1 : w1.cell? ⟨w.heap.size, 1, none⟩ = some (.int .i64 n) := kcell b1 (by simp)
  have c2 : w1.cell? ⟨w.heap.size, 2, none⟩ = some (.string s) := kcell b1 (by simp)
  have c3 : w1.cell? ⟨w.heap.size + 1, 0, none⟩ = some (.bool true) := kcell b1 (by simp)
  have c4 : w1.cell? ⟨w.heap.size + 1, 1, none⟩ = some (.bool false) := kcell b1 (by simp)
  have c5 : w1.cell? ⟨w.heap.size + 1, 2, none⟩ = some (.int .i64 k1) := kcell b1 (by simp)
  have c6 : w1.cell? ⟨w.heap.size + 1, 3, none⟩ = some (.int .i64 n1) := kcell b1 (by simp)
  have c7 : w1.cell? ⟨w.heap.size + 1, 4, none⟩ = some (.string s1) := kcell b1 (by simp)
  have c8 : w1.cell? ⟨w.heap.size + 1, 5, none⟩ = some (.int .i64 k2) := kcell b1 (by simp)
  have c9 : w1.cell? ⟨w.heap.size + 1, 6, none⟩ = some (.int .i64 n2) := kcell b1 (by simp)
  have c10 : w1.cell? ⟨w.heap.size + 1, 7, none⟩ = some (.string s2) := kcell b1 (by simp)
  clear b1
  go_wp2_with fail
  refine (implIsKey_any k1 n1 s1 true _ _hs1 HK1.out.symm).mono ?_
  rintro e w2 ⟨rfl, b2⟩
  have B2 := B1.trans (b2.mono B1.size)
  replace c0 := kcell b2 c0
  replace c1 := kcell b2 c1
  replace c2 := kcell b2 c2
  replace c3 := kcell b2 c3
  replace c4 := kcell b2 c4
  replace c5 := kcell b2 c5
  replace c6 := kcell b2 c6
  replace c7 := kcell b2 c7
  replace c8 := kcell b2 c8
  replace c9 := kcell b2 c9
  replace c10 := kcell b2 c10
  clear b2
  go_wp2_with fail
  refine (implCompareKeys_any k n k1 n1 s s1 _ _hs _hs1).mono ?_
  rintro e w3 ⟨rfl, b3⟩
  have B3 := B2.trans (b3.mono B2.size)
  replace c0 := kcell b3 c0
  replace c1 := kcell b3 c1
  replace c2 := kcell b3 c2
  replace c3 := kcell b3 c3
  replace c4 := kcell b3 c4
  replace c5 := kcell b3 c5
  replace c6 := kcell b3 c6
  replace c7 := kcell b3 c7
  replace c8 := kcell b3 c8
  replace c9 := kcell b3 c9
  replace c10 := kcell b3 c10
  clear b3
  obtain ⟨x1, hx1⟩ : ∃ x, x = cmpK k n s k1 n1 s1 := ⟨_, rfl⟩
  rw [← hx1]
  have HX1 := Lib.hid hx1
  clear hx1
  have g1 : x1 < 0 := by have h1 := HX1.out; have h2 := cmpK_turn k n s k1 n1 s1; omega
  go_wp2
  go_ret
  exact ⟨by first | rfl | exact ret_bool (decide_eq_false (by omega)).symm | exact ret_bool (decide_eq_true (by omega)).symm | exact ret_bool (by simp; omega), B3⟩

set_option maxRecDepth 100000 in
theorem implInR_p6F (k n : Int) (s : ByteArray) (k1 n1 : Int) (s1 : ByteArray) (k2 n2 : Int) (s2 : ByteArray) (w : World) (_hs : s.size ≤ maxLen) (_hs1 : s1.size ≤ maxLen) (_hs2 : s2.size ≤ maxLen) (HK0 : Hid (keyB k n s = true)) (HK1 : Hid (keyB k1 n1 s1 = true)) (HK2 : Hid (keyB k2 n2 s2 = true)) (h1 : cmpK k n s k1 n1 s1 < 0) :
    Calls Try.prog 113 #[.agg #[.int .i64 k, .int .i64 n, .string s], .agg #[.bool true, .bool true, .int .i64 k1, .int .i64 n1, .string s1, .int .i64 k2, .int .i64 n2, .string s2]] w fun e w' => e = .returned (.bool false) ∧ Below w.heap.size w w' := by
  go_enter Try.func113, Try.ntmps113
  go_wp2_with fail
  refine (implIsKey_any k n s true _ _hs HK0.out.symm).mono ?_
  rintro e w1 ⟨rfl, b1⟩
  have B1 := Below.trans (al (al (Below.refl _ _))) (b1.mono (by simp; omega))
  have c0 : w1.cell? ⟨w.heap.size, 0, none⟩ = some (.int .i64 k) := kcell b1 (by simp)
  have c1 : w1.cell? ⟨w.heap.size, 1, none⟩ = some (.int .i64 n) := kcell b1 (by simp)
  have c2 : w1.cell? ⟨w.heap.size, 2, none⟩ = some (.string s) := kcell b1 (by simp)
  have c3 : w1.cell? ⟨w.heap.size + 1, 0, none⟩ = some (.bool true) := kcell b1 (by simp)
  have c4 : w1.cell? ⟨w.heap.size + 1, 1, none⟩ = some (.bool true) := kcell b1 (by simp)
  have c5 : w1.cell? ⟨w.heap.size + 1, 2, none⟩ = some (.int .i64 k1) := kcell b1 (by simp)
  have c6 : w1.cell? ⟨w.heap.size + 1, 3, none⟩ = some (.int .i64 n1) := kcell b1 (by simp)
  have c7 : w1.cell? ⟨w.heap.size + 1, 4, none⟩ = some (.string s1) := kcell b1 (by simp)
  have c8 : w1.cell? ⟨w.heap.size + 1, 5, none⟩ = some (.int .i64 k2) := kcell b1 (by simp)
  have c9 : w1.cell? ⟨w.heap.size + 1, 6, none⟩ = some (.int .i64 n2) := kcell b1 (by simp)
  have c10 : w1.cell? ⟨w.heap.size + 1, 7, none⟩ = some (.string s2) := kcell b1 (by simp)
  clear b1
  go_wp2_with fail
  refine (implIsKey_any k1 n1 s1 true _ _hs1 HK1.out.symm).mono ?_
  rintro e w2 ⟨rfl, b2⟩
  have B2 := B1.trans (b2.mono B1.size)
  replace c0 := kcell b2 c0
  replace c1 := kcell b2 c1
  replace c2 := kcell b2 c2
  replace c3 := kcell b2 c3
  replace c4 := kcell b2 c4
  replace c5 := kcell b2 c5
  replace c6 := kcell b2 c6
  replace c7 := kcell b2 c7
  replace c8 := kcell b2 c8
  replace c9 := kcell b2 c9
  replace c10 := kcell b2 c10
  clear b2
  go_wp2_with fail
  refine (implIsKey_any k2 n2 s2 true _ _hs2 HK2.out.symm).mono ?_
  rintro e w3 ⟨rfl, b3⟩
  have B3 := B2.trans (b3.mono B2.size)
  replace c0 := kcell b3 c0
  replace c1 := kcell b3 c1
  replace c2 := kcell b3 c2
  replace c3 := kcell b3 c3
  replace c4 := kcell b3 c4
  replace c5 := kcell b3 c5
  replace c6 := kcell b3 c6
  replace c7 := kcell b3 c7
  replace c8 := kcell b3 c8
  replace c9 := kcell b3 c9
  replace c10 := kcell b3 c10
  clear b3
  go_wp2_with fail
  refine (implCompareKeys_any k n k1 n1 s s1 _ _hs _hs1).mono ?_
  rintro e w4 ⟨rfl, b4⟩
  have B4 := B3.trans (b4.mono B3.size)
  replace c0 := kcell b4 c0
  replace c1 := kcell b4 c1
  replace c2 := kcell b4 c2
  replace c3 := kcell b4 c3
  replace c4 := kcell b4 c4
  replace c5 := kcell b4 c5
  replace c6 := kcell b4 c6
  replace c7 := kcell b4 c7
  replace c8 := kcell b4 c8
  replace c9 := kcell b4 c9
  replace c10 := kcell b4 c10
  clear b4
  obtain ⟨x1, hx1⟩ : ∃ x, x = cmpK k n s k1 n1 s1 := ⟨_, rfl⟩
  rw [← hx1]
  have HX1 := Lib.hid hx1
  clear hx1
  have g1 : x1 < 0 := by have h1 := HX1.out; have h2 := cmpK_turn k n s k1 n1 s1; omega
  go_wp2
  go_ret
  exact ⟨by first | rfl | exact ret_bool (decide_eq_false (by omega)).symm | exact ret_bool (decide_eq_true (by omega)).symm | exact ret_bool (by simp; omega), B4⟩

theorem implInRangeOf_any (k n : Int) (s : ByteArray) (a b : Bool) (k1 n1 : Int) (s1 : ByteArray) (k2 n2 : Int) (s2 : ByteArray) (r : Bool) (w : World) (hs : s.size ≤ maxLen) (hs1 : s1.size ≤ maxLen) (hs2 : s2.size ≤ maxLen) (hr : r = inRF k n s a b k1 n1 s1 k2 n2 s2) :
    Calls Try.prog 113 #[.agg #[.int .i64 k, .int .i64 n, .string s], .agg #[.bool a, .bool b, .int .i64 k1, .int .i64 n1, .string s1, .int .i64 k2, .int .i64 n2, .string s2]] w fun e w' => e = .returned (.bool r) ∧ Below w.heap.size w w' := by
  subst hr
  unfold inRF
  cases q0 : keyB k n s
  · exact implInR_p0 a b k n s k1 n1 s1 k2 n2 s2 w hs hs1 hs2 q0
  cases a
  · cases b
    · exact implInR_p3 k n s k1 n1 s1 k2 n2 s2 w hs hs1 hs2 q0
    cases q2 : keyB k2 n2 s2
    · exact implInR_p2f k n s k1 n1 s1 k2 n2 s2 w hs hs1 hs2 q0 q2
    by_cases h2 : cmpK k n s k2 n2 s2 ≤ 0
    · rw [decide_eq_true h2]
      exact implInR_p5T k n s k1 n1 s1 k2 n2 s2 w hs hs1 hs2 q0 q2 h2
    · rw [decide_eq_false h2]
      exact implInR_p5F k n s k1 n1 s1 k2 n2 s2 w hs hs1 hs2 q0 q2 (by omega)
  cases q1 : keyB k1 n1 s1
  · exact implInR_p1 b k n s k1 n1 s1 k2 n2 s2 w hs hs1 hs2 q0 q1
  by_cases h1 : 0 ≤ cmpK k n s k1 n1 s1
  · rw [decide_eq_true h1]
    cases b
    · exact implInR_p4T k n s k1 n1 s1 k2 n2 s2 w hs hs1 hs2 q0 q1 h1
    cases q2 : keyB k2 n2 s2
    · exact implInR_p2t k n s k1 n1 s1 k2 n2 s2 w hs hs1 hs2 q0 q1 q2
    by_cases h2 : cmpK k n s k2 n2 s2 ≤ 0
    · rw [decide_eq_true h2]
      exact implInR_p6TT k n s k1 n1 s1 k2 n2 s2 w hs hs1 hs2 q0 q1 q2 h1 h2
    · rw [decide_eq_false h2]
      exact implInR_p6TF k n s k1 n1 s1 k2 n2 s2 w hs hs1 hs2 q0 q1 q2 h1 (by omega)
  · rw [decide_eq_false h1]
    cases b
    · exact implInR_p4F k n s k1 n1 s1 k2 n2 s2 w hs hs1 hs2 q0 q1 (by omega)
    cases q2 : keyB k2 n2 s2
    · exact implInR_p2t k n s k1 n1 s1 k2 n2 s2 w hs hs1 hs2 q0 q1 q2
    exact implInR_p6F k n s k1 n1 s1 k2 n2 s2 w hs hs1 hs2 q0 q1 q2 (by omega)
end Go.Proofs.Ytbbngihmjdndoaa
