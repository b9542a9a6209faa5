/-
  Proved: the contracts of the laws' own functions on keys (size, copy, comparison). Conditions: the text's length is a length.
  By an AI agent; no person has read it.
-/
import Derived.Test.YtnbhdijmbpdgoaaDoorIn
import Derived.WalkLawsBesides
namespace Go.Proofs.YtnbhdijmbpdgoaaDoor
open Go.RowKit

/-- A key as a value. -/
abbrev keyV (k n : Int) (s : ByteArray) : Value := .agg #[.int .i64 k, .int .i64 n, .string s]

set_option maxRecDepth 100000 in
theorem szKey_ok (k n : Int) (s : ByteArray) (q : Int) (w : World) (hs : s.size ≤ 9223372036854775807) (h0 : 0 ≤ q) (hq : q ≤ 1048576) (h : (s.size : Int) ≤ q) :
    Calls Tryd.prog 23 #[.agg #[.int .i64 k, .int .i64 n, .string s], .int .i64 q] w fun e w' => e = .returned (.int .i64 (q - s.size)) ∧ w' = w.alloc (.cells #[.int .i64 k, .int .i64 n, .string s] 41) := by
  go_enter Tryd.func23, Tryd.ntmps23
  go_wp2
  go_ret
  exact ⟨rfl, rfl⟩
set_option maxRecDepth 100000 in
theorem szKey_big (k n : Int) (s : ByteArray) (q : Int) (w : World) (hs : s.size ≤ 9223372036854775807) (h0 : 0 ≤ q) (hq : q ≤ 1048576) (h : q < (s.size : Int)) :
    Calls Tryd.prog 23 #[.agg #[.int .i64 k, .int .i64 n, .string s], .int .i64 q] w fun e w' => e = .returned (.int .i64 (-1)) ∧ w' = w.alloc (.cells #[.int .i64 k, .int .i64 n, .string s] 41) := by
  go_enter Tryd.func23, Tryd.ntmps23
  go_wp2
  go_ret
  exact ⟨rfl, rfl⟩
set_option maxRecDepth 100000 in
theorem toKey_eq (k n : Int) (s : ByteArray) (w : World) :
    Calls Tryd.prog 25 #[.agg #[.int .i64 k, .int .i64 n, .string s]] w fun e w' => e = .returned (.agg #[.int .i64 k, .int .i64 n, .string s]) ∧ w' = ((w.alloc (.cells #[.int .i64 k, .int .i64 n, .string s] 41)).alloc (.cells #[.int .i64 k, .int .i64 n, .string s] 23)).alloc (.cells #[.int .i64 k, .int .i64 n, .string s] 23) := by
  go_enter Tryd.func25, Tryd.ntmps25
  go_wp2
  exact bodyPost_ret (v := .agg #[.int .i64 k, .int .i64 n, .string s]) (by simp [results, Tryd.results25, go_sem]) rfl ⟨rfl, rfl⟩
theorem toKey_any (k n : Int) (s : ByteArray) (w : World) :
    Calls Tryd.prog 25 #[.agg #[.int .i64 k, .int .i64 n, .string s]] w fun e w' => e = .returned (.agg #[.int .i64 k, .int .i64 n, .string s]) ∧ Below w.heap.size w w' :=
  (toKey_eq k n s w).mono fun _ _ ⟨he, hw⟩ => ⟨he, by
    rw [hw]
    exact (((Below.refl _ _).alloc (Nat.le_refl _) _).alloc (by simp) _).alloc (by simp; omega) _⟩

set_option maxRecDepth 100000 in
theorem eqKey_same (k n : Int) (s : ByteArray) (w : World) :
    Calls Tryd.prog 11 #[.agg #[.int .i64 k, .int .i64 n, .string s], .agg #[.int .i64 k, .int .i64 n, .string s]] w fun e w' => e = .returned (.bool true) ∧ Below w.heap.size w w' := by
  go_enter Tryd.func11, Tryd.ntmps11
  go_wp2
  go_ret
  exact ⟨rfl, ((Below.refl _ _).alloc (Nat.le_refl _) _).alloc (by simp) _⟩

/-- A range of keys as a value. -/
abbrev rangeV (a b : Bool) (k n : Int) (s : ByteArray) (k2 n2 : Int) (s2 : ByteArray) : Value := .agg #[.bool a, .bool b, .int .i64 k, .int .i64 n, .string s, .int .i64 k2, .int .i64 n2, .string s2]

theorem szKey_okB (k n : Int) (s : ByteArray) (q : Int) (w : World) (hs : s.size ≤ 9223372036854775807) (h0 : 0 ≤ q) (hq : q ≤ 1048576) (h : (s.size : Int) ≤ q) :
    Calls Tryd.prog 23 #[.agg #[.int .i64 k, .int .i64 n, .string s], .int .i64 q] w fun e w' => e = .returned (.int .i64 (q - s.size)) ∧ Below w.heap.size w w' :=
  (szKey_ok k n s q w hs h0 hq h).mono fun _ _ ⟨he, hw⟩ => ⟨he, by rw [hw]; exact al (Below.refl _ _)⟩
theorem szKey_bigB (k n : Int) (s : ByteArray) (q : Int) (w : World) (hs : s.size ≤ 9223372036854775807) (h0 : 0 ≤ q) (hq : q ≤ 1048576) (h : q < (s.size : Int)) :
    Calls Tryd.prog 23 #[.agg #[.int .i64 k, .int .i64 n, .string s], .int .i64 q] w fun e w' => e = .returned (.int .i64 (-1)) ∧ Below w.heap.size w w' :=
  (szKey_big k n s q w hs h0 hq h).mono fun _ _ ⟨he, hw⟩ => ⟨he, by rw [hw]; exact al (Below.refl _ _)⟩
end Go.Proofs.YtnbhdijmbpdgoaaDoor
