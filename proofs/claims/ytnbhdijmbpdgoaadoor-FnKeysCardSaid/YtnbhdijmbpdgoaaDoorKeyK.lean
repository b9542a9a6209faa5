/-
  Proved: the contracts of CompareKeys, of the program and of the reference, and of the comparisons of ints. Conditions: the texts' lengths are lengths.
  By an AI agent; no person has read it.
-/
import Derived.Test.YtnbhdijmbpdgoaaDoorKeyC
import Derived.Test.YtnbhdijmbpdgoaaDoorCmp
namespace Go.Proofs.YtnbhdijmbpdgoaaDoor
open Go.RowKit

def cmpI (a b : Int) : Int := if a < b then -1 else if b < a then 1 else 0
theorem cmpI_lt {a b : Int} (h : a < b) : cmpI a b = -1 := if_pos h
theorem cmpI_gt {a b : Int} (h : b < a) : cmpI a b = 1 := by
  unfold cmpI
  rw [if_neg (by omega), if_pos h]
theorem cmpI_eq (a : Int) : cmpI a a = 0 := by
  unfold cmpI
  rw [if_neg (by omega), if_neg (by omega)]
/-- The order of keys; 0 where one is no key. -/
def cmpK (k n : Int) (s : ByteArray) (k2 n2 : Int) (s2 : ByteArray) : Int :=
  if keyB k n s = true ∧ keyB k2 n2 s2 = true then (if k = k2 then (if n = n2 then Lib.compareBytes s.data.toList s2.data.toList else cmpI n n2) else cmpI k k2) else 0

theorem compareInts_any (a b : Int) (w : World) :
    Calls Tryd.prog 39 #[.int .i64 a, .int .i64 b] w fun e w' => e = .returned (.int .i64 (cmpI a b)) ∧ w = w' := by
  rcases (by omega : a < b ∨ b < a ∨ a = b) with h | h | rfl
  · have H := Lib.hid (cmpI_lt h)
    go_enter Tryd.func39, Tryd.ntmps39
    go_wp2
    go_ret
    exact ⟨ret_int H.out, rfl⟩
  · have H := Lib.hid (cmpI_gt h)
    have h2 : ¬ a < b := by omega
    go_enter Tryd.func39, Tryd.ntmps39
    go_wp2
    go_ret
    exact ⟨ret_int H.out, rfl⟩
  · have H := Lib.hid (cmpI_eq a)
    go_enter Tryd.func39, Tryd.ntmps39
    go_wp2
    go_ret
    exact ⟨ret_int H.out, rfl⟩

set_option maxRecDepth 100000 in
theorem stringsCompare_any (a b : ByteArray) (w : World) :
    Calls Tryd.prog 40 #[.string a, .string b] w fun e w' => e = .returned (.int .i64 (Lib.compareBytes a.data.toList b.data.toList)) ∧ w = w' := by
  go_enter Tryd.func40, Tryd.ntmps40
  go_wp2_with go_in
  rw [run_callFunc_extern Tryd.func69 (by kernel_rfl) (by kernel_rfl) (by kernel_rfl) (e := Extern.BytealgCompare.compare) (by kernel_rfl), Lib.run_compareString]
  simp only [Result.andThen]
  rw [Oper.upon_value]
  go_wp2
  go_ret
  exact ⟨rfl, rfl⟩

/-- The cells of two keys in two new blocks, behind a call. -/
theorem key_cells2 {w w1 : World} {k n : Int} {s : ByteArray} {k2 n2 : Int} {s2 : ByteArray} {T T2 : TypeId}
    (hb : Below ((w.alloc (.cells #[.int .i64 k, .int .i64 n, .string s] T)).alloc (.cells #[.int .i64 k2, .int .i64 n2, .string s2] T2)).heap.size ((w.alloc (.cells #[.int .i64 k, .int .i64 n, .string s] T)).alloc (.cells #[.int .i64 k2, .int .i64 n2, .string s2] T2)) w1) :
    Below w.heap.size w w1 ∧ (w1.cell? ⟨w.heap.size, 0, none⟩ = some (.int .i64 k) ∧ w1.cell? ⟨w.heap.size, 1, none⟩ = some (.int .i64 n) ∧ w1.cell? ⟨w.heap.size, 2, none⟩ = some (.string s)) ∧
      (w1.cell? ⟨w.heap.size + 1, 0, none⟩ = some (.int .i64 k2) ∧ w1.cell? ⟨w.heap.size + 1, 1, none⟩ = some (.int .i64 n2) ∧ w1.cell? ⟨w.heap.size + 1, 2, none⟩ = some (.string s2)) :=
  ⟨(al (al (Below.refl _ _))).trans (hb.mono (by simp; omega)), ⟨kcell hb (by simp), kcell hb (by simp), kcell hb (by simp)⟩, kcell hb (by simp), kcell hb (by simp), kcell hb (by simp)⟩

set_option maxRecDepth 100000 in
theorem implCompareKeys_no1 (k n k2 n2 : Int) (s s2 : ByteArray) (w : World) (hs : s.size ≤ maxLen) (_hs2 : s2.size ≤ maxLen) (H1 : Hid (keyB k n s = false)) :
    Calls Tryd.prog 14 #[.agg #[.int .i64 k, .int .i64 n, .string s], .agg #[.int .i64 k2, .int .i64 n2, .string s2]] w fun e w' => e = .returned (.int .i64 (0)) ∧ Below w.heap.size w w' := by
  go_enter Tryd.func14, Tryd.ntmps14
  go_wp2_with fail
  refine (implIsKey_any _ _ s false _ hs H1.out.symm).mono ?_
  rintro e w1 ⟨rfl, b1⟩
  obtain ⟨B1, ⟨c0, c1, c2⟩, d0, d1, d2⟩ := key_cells2 b1
  go_wp2
  go_ret
  exact ⟨rfl, B1⟩

set_option maxRecDepth 100000 in
theorem implCompareKeys_no2 (k n k2 n2 : Int) (s s2 : ByteArray) (w : World) (hs : s.size ≤ maxLen) (hs2 : s2.size ≤ maxLen) (H1 : Hid (keyB k n s = true)) (H2 : Hid (keyB k2 n2 s2 = false)) :
    Calls Tryd.prog 14 #[.agg #[.int .i64 k, .int .i64 n, .string s], .agg #[.int .i64 k2, .int .i64 n2, .string s2]] w fun e w' => e = .returned (.int .i64 (0)) ∧ Below w.heap.size w w' := by
  go_enter Tryd.func14, Tryd.ntmps14
  go_wp2_with fail
  refine (implIsKey_any _ _ s true _ hs H1.out.symm).mono ?_
  rintro e w1 ⟨rfl, b1⟩
  obtain ⟨B1, ⟨c0, c1, c2⟩, d0, d1, d2⟩ := key_cells2 b1
  go_wp2_with fail
  refine (implIsKey_any _ _ s2 false _ hs2 H2.out.symm).mono ?_
  rintro e w2 ⟨rfl, b2⟩
  have B2 : Below w.heap.size w w2 := B1.trans (b2.mono B1.size)
  replace c0 := kcell b2 c0
  replace c1 := kcell b2 c1
  replace c2 := kcell b2 c2
  replace d0 := kcell b2 d0
  replace d1 := kcell b2 d1
  replace d2 := kcell b2 d2
  go_wp2
  go_ret
  exact ⟨rfl, B2⟩

set_option maxRecDepth 100000 in
theorem implCompareKeys_klt (k n k2 n2 : Int) (s s2 : ByteArray) (w : World) (hs : s.size ≤ maxLen) (hs2 : s2.size ≤ maxLen) (H1 : Hid (keyB k n s = true)) (H2 : Hid (keyB k2 n2 s2 = true)) (h : k < k2) :
    Calls Tryd.prog 14 #[.agg #[.int .i64 k, .int .i64 n, .string s], .agg #[.int .i64 k2, .int .i64 n2, .string s2]] w fun e w' => e = .returned (.int .i64 (-1)) ∧ Below w.heap.size w w' := by
  go_enter Tryd.func14, Tryd.ntmps14
  go_wp2_with fail
  refine (implIsKey_any _ _ s true _ hs H1.out.symm).mono ?_
  rintro e w1 ⟨rfl, b1⟩
  obtain ⟨B1, ⟨c0, c1, c2⟩, d0, d1, d2⟩ := key_cells2 b1
  go_wp2_with fail
  refine (implIsKey_any _ _ s2 true _ hs2 H2.out.symm).mono ?_
  rintro e w2 ⟨rfl, b2⟩
  have B2 : Below w.heap.size w w2 := B1.trans (b2.mono B1.size)
  replace c0 := kcell b2 c0
  replace c1 := kcell b2 c1
  replace c2 := kcell b2 c2
  replace d0 := kcell b2 d0
  replace d1 := kcell b2 d1
  replace d2 := kcell b2 d2
  go_wp2_with fail
  refine (compareInts_any _ _ _).mono ?_
  rintro e w3 ⟨rfl, rfl⟩
  rw [cmpI_lt h]
  go_wp2
  go_ret
  exact ⟨rfl, B2⟩

set_option maxRecDepth 100000 in
theorem implCompareKeys_kgt (k n k2 n2 : Int) (s s2 : ByteArray) (w : World) (hs : s.size ≤ maxLen) (hs2 : s2.size ≤ maxLen) (H1 : Hid (keyB k n s = true)) (H2 : Hid (keyB k2 n2 s2 = true)) (h : k2 < k) :
    Calls Tryd.prog 14 #[.agg #[.int .i64 k, .int .i64 n, .string s], .agg #[.int .i64 k2, .int .i64 n2, .string s2]] w fun e w' => e = .returned (.int .i64 (1)) ∧ Below w.heap.size w w' := by
  go_enter Tryd.func14, Tryd.ntmps14
  go_wp2_with fail
  refine (implIsKey_any _ _ s true _ hs H1.out.symm).mono ?_
  rintro e w1 ⟨rfl, b1⟩
  obtain ⟨B1, ⟨c0, c1, c2⟩, d0, d1, d2⟩ := key_cells2 b1
  go_wp2_with fail
  refine (implIsKey_any _ _ s2 true _ hs2 H2.out.symm).mono ?_
  rintro e w2 ⟨rfl, b2⟩
  have B2 : Below w.heap.size w w2 := B1.trans (b2.mono B1.size)
  replace c0 := kcell b2 c0
  replace c1 := kcell b2 c1
  replace c2 := kcell b2 c2
  replace d0 := kcell b2 d0
  replace d1 := kcell b2 d1
  replace d2 := kcell b2 d2
  go_wp2_with fail
  refine (compareInts_any _ _ _).mono ?_
  rintro e w3 ⟨rfl, rfl⟩
  rw [cmpI_gt h]
  go_wp2
  go_ret
  exact ⟨rfl, B2⟩

set_option maxRecDepth 100000 in
theorem implCompareKeys_nlt (k n n2 : Int) (s s2 : ByteArray) (w : World) (hs : s.size ≤ maxLen) (hs2 : s2.size ≤ maxLen) (H1 : Hid (keyB k n s = true)) (H2 : Hid (keyB k n2 s2 = true)) (h : n < n2) :
    Calls Tryd.prog 14 #[.agg #[.int .i64 k, .int .i64 n, .string s], .agg #[.int .i64 k, .int .i64 n2, .string s2]] w fun e w' => e = .returned (.int .i64 (-1)) ∧ Below w.heap.size w w' := by
  go_enter Tryd.func14, Tryd.ntmps14
  go_wp2_with fail
  refine (implIsKey_any _ _ s true _ hs H1.out.symm).mono ?_
  rintro e w1 ⟨rfl, b1⟩
  obtain ⟨B1, ⟨c0, c1, c2⟩, d0, d1, d2⟩ := key_cells2 b1
  go_wp2_with fail
  refine (implIsKey_any _ _ s2 true _ hs2 H2.out.symm).mono ?_
  rintro e w2 ⟨rfl, b2⟩
  have B2 : Below w.heap.size w w2 := B1.trans (b2.mono B1.size)
  replace c0 := kcell b2 c0
  replace c1 := kcell b2 c1
  replace c2 := kcell b2 c2
  replace d0 := kcell b2 d0
  replace d1 := kcell b2 d1
  replace d2 := kcell b2 d2
  go_wp2_with fail
  refine (compareInts_any _ _ _).mono ?_
  rintro e w3 ⟨rfl, rfl⟩
  rw [cmpI_eq]
  go_wp2_with fail
  refine (compareInts_any _ _ _).mono ?_
  rintro e w4 ⟨rfl, rfl⟩
  rw [cmpI_lt h]
  go_wp2
  go_ret
  exact ⟨rfl, B2⟩

set_option maxRecDepth 100000 in
theorem implCompareKeys_ngt (k n n2 : Int) (s s2 : ByteArray) (w : World) (hs : s.size ≤ maxLen) (hs2 : s2.size ≤ maxLen) (H1 : Hid (keyB k n s = true)) (H2 : Hid (keyB k n2 s2 = true)) (h : n2 < n) :
    Calls Tryd.prog 14 #[.agg #[.int .i64 k, .int .i64 n, .string s], .agg #[.int .i64 k, .int .i64 n2, .string s2]] w fun e w' => e = .returned (.int .i64 (1)) ∧ Below w.heap.size w w' := by
  go_enter Tryd.func14, Tryd.ntmps14
  go_wp2_with fail
  refine (implIsKey_any _ _ s true _ hs H1.out.symm).mono ?_
  rintro e w1 ⟨rfl, b1⟩
  obtain ⟨B1, ⟨c0, c1, c2⟩, d0, d1, d2⟩ := key_cells2 b1
  go_wp2_with fail
  refine (implIsKey_any _ _ s2 true _ hs2 H2.out.symm).mono ?_
  rintro e w2 ⟨rfl, b2⟩
  have B2 : Below w.heap.size w w2 := B1.trans (b2.mono B1.size)
  replace c0 := kcell b2 c0
  replace c1 := kcell b2 c1
  replace c2 := kcell b2 c2
  replace d0 := kcell b2 d0
  replace d1 := kcell b2 d1
  replace d2 := kcell b2 d2
  go_wp2_with fail
  refine (compareInts_any _ _ _).mono ?_
  rintro e w3 ⟨rfl, rfl⟩
  rw [cmpI_eq]
  go_wp2_with fail
  refine (compareInts_any _ _ _).mono ?_
  rintro e w4 ⟨rfl, rfl⟩
  rw [cmpI_gt h]
  go_wp2
  go_ret
  exact ⟨rfl, B2⟩

set_option maxRecDepth 100000 in
theorem implCompareKeys_eq (k n : Int) (s s2 : ByteArray) (w : World) (hs : s.size ≤ maxLen) (hs2 : s2.size ≤ maxLen) (H1 : Hid (keyB k n s = true)) (H2 : Hid (keyB k n s2 = true)) :
    Calls Tryd.prog 14 #[.agg #[.int .i64 k, .int .i64 n, .string s], .agg #[.int .i64 k, .int .i64 n, .string s2]] w fun e w' => e = .returned (.int .i64 (Lib.compareBytes s.data.toList s2.data.toList)) ∧ Below w.heap.size w w' := by
  go_enter Tryd.func14, Tryd.ntmps14
  go_wp2_with fail
  refine (implIsKey_any _ _ s true _ hs H1.out.symm).mono ?_
  rintro e w1 ⟨rfl, b1⟩
  obtain ⟨B1, ⟨c0, c1, c2⟩, d0, d1, d2⟩ := key_cells2 b1
  go_wp2_with fail
  refine (implIsKey_any _ _ s2 true _ hs2 H2.out.symm).mono ?_
  rintro e w2 ⟨rfl, b2⟩
  have B2 : Below w.heap.size w w2 := B1.trans (b2.mono B1.size)
  replace c0 := kcell b2 c0
  replace c1 := kcell b2 c1
  replace c2 := kcell b2 c2
  replace d0 := kcell b2 d0
  replace d1 := kcell b2 d1
  replace d2 := kcell b2 d2
  go_wp2_with fail
  refine (compareInts_any _ _ _).mono ?_
  rintro e w3 ⟨rfl, rfl⟩
  rw [cmpI_eq]
  go_wp2_with fail
  refine (compareInts_any _ _ _).mono ?_
  rintro e w4 ⟨rfl, rfl⟩
  rw [cmpI_eq]
  go_wp2_with fail
  refine (stringsCompare_any _ _ _).mono ?_
  rintro e w5 ⟨rfl, rfl⟩
  go_wp2
  go_ret
  exact ⟨rfl, B2⟩

theorem implCompareKeys_any (k n k2 n2 : Int) (s s2 : ByteArray) (w : World) (hs : s.size ≤ maxLen) (hs2 : s2.size ≤ maxLen) :
    Calls Tryd.prog 14 #[.agg #[.int .i64 k, .int .i64 n, .string s], .agg #[.int .i64 k2, .int .i64 n2, .string s2]] w fun e w' => e = .returned (.int .i64 (cmpK k n s k2 n2 s2)) ∧ Below w.heap.size w w' := by
  unfold cmpK
  cases h1 : keyB k n s
  · rw [if_neg (by simp)]
    exact implCompareKeys_no1 k n k2 n2 s s2 w hs hs2 h1
  cases h2 : keyB k2 n2 s2
  · rw [if_neg (by simp)]
    exact implCompareKeys_no2 k n k2 n2 s s2 w hs hs2 h1 h2
  rw [if_pos ⟨rfl, rfl⟩]
  rcases (by omega : k < k2 ∨ k2 < k ∨ k = k2) with h | h | rfl
  · rw [if_neg (by omega), cmpI_lt h]
    exact implCompareKeys_klt k n k2 n2 s s2 w hs hs2 h1 h2 h
  · rw [if_neg (by omega), cmpI_gt h]
    exact implCompareKeys_kgt k n k2 n2 s s2 w hs hs2 h1 h2 h
  rw [if_pos rfl]
  rcases (by omega : n < n2 ∨ n2 < n ∨ n = n2) with h | h | rfl
  · rw [if_neg (by omega), cmpI_lt h]
    exact implCompareKeys_nlt k n n2 s s2 w hs hs2 h1 h2 h
  · rw [if_neg (by omega), cmpI_gt h]
    exact implCompareKeys_ngt k n n2 s s2 w hs hs2 h1 h2 h
  rw [if_pos rfl]
  exact implCompareKeys_eq k n s s2 w hs hs2 h1 h2
end Go.Proofs.YtnbhdijmbpdgoaaDoor
