/-
  Proved: the contracts of the laws' own functions on keys (size, copy, comparison). Conditions: the text's length is a length.
  By an AI agent; no person has read it.
-/
import Derived.Test.YtnbhdijmbpdgoaaIn
import Derived.WalkLawsBesides
namespace Go.Proofs.Ytnbhdijmbpdgoaa
open Go.RowKit

/-- A key as a value. -/
abbrev keyV (k n : Int) (s : ByteArray) : Value := .agg #[.int .i64 k, .int .i64 n, .string s]

set_option maxRecDepth 100000 in
theorem szKey_ok (k n : Int) (s : ByteArray) (q : Int) (w : World) (hs : s.size ≤ 9223372036854775807) (h0 : 0 ≤ q) (hq : q ≤ 1048576) (h : (s.size : Int) ≤ q) :
    Calls Try.prog 9 #[.agg #[.int .i64 k, .int .i64 n, .string s], .int .i64 q] w fun e w' => e = .returned (.int .i64 (q - s.size)) ∧ w' = w.alloc (.cells #[.int .i64 k, .int .i64 n, .string s] 23) := by
  go_enter Try.func9, Try.ntmps9
  go_wp2
  go_ret
  exact ⟨rfl, rfl⟩
set_option maxRecDepth 100000 in
theorem szKey_big (k n : Int) (s : ByteArray) (q : Int) (w : World) (hs : s.size ≤ 9223372036854775807) (h0 : 0 ≤ q) (hq : q ≤ 1048576) (h : q < (s.size : Int)) :
    Calls Try.prog 9 #[.agg #[.int .i64 k, .int .i64 n, .string s], .int .i64 q] w fun e w' => e = .returned (.int .i64 (-1)) ∧ w' = w.alloc (.cells #[.int .i64 k, .int .i64 n, .string s] 23) := by
  go_enter Try.func9, Try.ntmps9
  go_wp2
  go_ret
  exact ⟨rfl, rfl⟩
set_option maxRecDepth 100000 in
theorem toKey_eq (k n : Int) (s : ByteArray) (w : World) :
    Calls Try.prog 11 #[.agg #[.int .i64 k, .int .i64 n, .string s]] w fun e w' => e = .returned (.agg #[.int .i64 k, .int .i64 n, .string s]) ∧ w' = ((w.alloc (.cells #[.int .i64 k, .int .i64 n, .string s] 23)).alloc (.cells #[.int .i64 k, .int .i64 n, .string s] 26)).alloc (.cells #[.int .i64 k, .int .i64 n, .string s] 26) := by
  go_enter Try.func11, Try.ntmps11
  go_wp2
  exact bodyPost_ret (v := .agg #[.int .i64 k, .int .i64 n, .string s]) (by simp [results, Try.results11, go_sem]) rfl ⟨rfl, rfl⟩
theorem toKey_any (k n : Int) (s : ByteArray) (w : World) :
    Calls Try.prog 11 #[.agg #[.int .i64 k, .int .i64 n, .string s]] w fun e w' => e = .returned (.agg #[.int .i64 k, .int .i64 n, .string s]) ∧ Below w.heap.size w w' :=
  (toKey_eq k n s w).mono fun _ _ ⟨he, hw⟩ => ⟨he, by
    rw [hw]
    exact (((Below.refl _ _).alloc (Nat.le_refl _) _).alloc (by simp) _).alloc (by simp; omega) _⟩

set_option maxRecDepth 100000 in
theorem eqKey_same (k n : Int) (s : ByteArray) (w : World) :
    Calls Try.prog 27 #[.agg #[.int .i64 k, .int .i64 n, .string s], .agg #[.int .i64 k, .int .i64 n, .string s]] w fun e w' => e = .returned (.bool true) ∧ Below w.heap.size w w' := by
  go_enter Try.func27, Try.ntmps27
  go_wp2
  go_ret
  exact ⟨rfl, ((Below.refl _ _).alloc (Nat.le_refl _) _).alloc (by simp) _⟩

/-- A range of keys as a value. -/
abbrev rangeV (a b : Bool) (k n : Int) (s : ByteArray) (k2 n2 : Int) (s2 : ByteArray) : Value := .agg #[.bool a, .bool b, .int .i64 k, .int .i64 n, .string s, .int .i64 k2, .int .i64 n2, .string s2]

set_option maxRecDepth 100000 in
theorem toKeyRange_any (a b : Bool) (k n : Int) (s : ByteArray) (k2 n2 : Int) (s2 : ByteArray) (w : World) :
    Calls Try.prog 22 #[.agg #[.bool a, .bool b, .int .i64 k, .int .i64 n, .string s, .int .i64 k2, .int .i64 n2, .string s2]] w fun e w' => e = .returned (.agg #[.bool a, .bool b, .int .i64 k, .int .i64 n, .string s, .int .i64 k2, .int .i64 n2, .string s2]) ∧ Below w.heap.size w w' := by
  go_enter Try.func22, Try.ntmps22
  go_wp2_with (refine (toKey_eq _ _ _ _).mono ?_; rintro e w1 ⟨rfl, rfl⟩)
  refine bodyPost_ret (v := .agg #[.bool a, .bool b, .int .i64 k, .int .i64 n, .string s, .int .i64 k2, .int .i64 n2, .string s2]) (by simp [results, Try.results22, go_sem]) rfl ⟨rfl, ?_⟩
  repeat refine al ?_
  exact Below.refl _ _

set_option maxRecDepth 100000 in
theorem szKeyRange_ok (a b : Bool) (k n : Int) (s : ByteArray) (k2 n2 : Int) (s2 : ByteArray) (q : Int) (w : World) (hs : s.size ≤ 9223372036854775807) (hs2 : s2.size ≤ 9223372036854775807) (h0 : 0 ≤ q) (hq : q ≤ 1048576) (h : (s.size : Int) ≤ q) (h2 : (s2.size : Int) ≤ q - s.size) :
    Calls Try.prog 20 #[.agg #[.bool a, .bool b, .int .i64 k, .int .i64 n, .string s, .int .i64 k2, .int .i64 n2, .string s2], .int .i64 q] w fun e w' => e = .returned (.int .i64 (q - s.size - s2.size)) ∧ Below w.heap.size w w' := by
  go_enter Try.func20, Try.ntmps20
  go_wp2_with fail
  refine (szKey_ok k n s q _ hs h0 hq h).mono ?_
  rintro e w1 ⟨rfl, rfl⟩
  go_wp2_with fail
  refine (szKey_ok k2 n2 s2 (q - s.size) _ hs2 (by omega) (by omega) h2).mono ?_
  rintro e w1 ⟨rfl, rfl⟩
  go_wp2
  go_ret
  refine ⟨rfl, ?_⟩
  repeat refine al ?_
  exact Below.refl _ _

set_option maxRecDepth 100000 in
theorem szKeyRange_one (a b : Bool) (k n : Int) (s : ByteArray) (k2 n2 : Int) (s2 : ByteArray) (q : Int) (w : World) (hs : s.size ≤ 9223372036854775807) (_hs2 : s2.size ≤ 9223372036854775807) (h0 : 0 ≤ q) (hq : q ≤ 1048576) (h : q < (s.size : Int)) :
    Calls Try.prog 20 #[.agg #[.bool a, .bool b, .int .i64 k, .int .i64 n, .string s, .int .i64 k2, .int .i64 n2, .string s2], .int .i64 q] w fun e w' => e = .returned (.int .i64 (-1)) ∧ Below w.heap.size w w' := by
  go_enter Try.func20, Try.ntmps20
  go_wp2_with fail
  refine (szKey_big k n s q _ hs h0 hq h).mono ?_
  rintro e w1 ⟨rfl, rfl⟩
  go_wp2
  go_ret
  refine ⟨rfl, ?_⟩
  repeat refine al ?_
  exact Below.refl _ _

set_option maxRecDepth 100000 in
theorem szKeyRange_two (a b : Bool) (k n : Int) (s : ByteArray) (k2 n2 : Int) (s2 : ByteArray) (q : Int) (w : World) (hs : s.size ≤ 9223372036854775807) (hs2 : s2.size ≤ 9223372036854775807) (h0 : 0 ≤ q) (hq : q ≤ 1048576) (h : (s.size : Int) ≤ q) (h2 : q - s.size < (s2.size : Int)) :
    Calls Try.prog 20 #[.agg #[.bool a, .bool b, .int .i64 k, .int .i64 n, .string s, .int .i64 k2, .int .i64 n2, .string s2], .int .i64 q] w fun e w' => e = .returned (.int .i64 (-1)) ∧ Below w.heap.size w w' := by
  go_enter Try.func20, Try.ntmps20
  go_wp2_with fail
  refine (szKey_ok k n s q _ hs h0 hq h).mono ?_
  rintro e w1 ⟨rfl, rfl⟩
  go_wp2_with fail
  refine (szKey_big k2 n2 s2 (q - s.size) _ hs2 (by omega) (by omega) h2).mono ?_
  rintro e w1 ⟨rfl, rfl⟩
  go_wp2
  go_ret
  refine ⟨rfl, ?_⟩
  repeat refine al ?_
  exact Below.refl _ _

theorem szKey_okB (k n : Int) (s : ByteArray) (q : Int) (w : World) (hs : s.size ≤ 9223372036854775807) (h0 : 0 ≤ q) (hq : q ≤ 1048576) (h : (s.size : Int) ≤ q) :
    Calls Try.prog 9 #[.agg #[.int .i64 k, .int .i64 n, .string s], .int .i64 q] w fun e w' => e = .returned (.int .i64 (q - s.size)) ∧ Below w.heap.size w w' :=
  (szKey_ok k n s q w hs h0 hq h).mono fun _ _ ⟨he, hw⟩ => ⟨he, by rw [hw]; exact al (Below.refl _ _)⟩
theorem szKey_bigB (k n : Int) (s : ByteArray) (q : Int) (w : World) (hs : s.size ≤ 9223372036854775807) (h0 : 0 ≤ q) (hq : q ≤ 1048576) (h : q < (s.size : Int)) :
    Calls Try.prog 9 #[.agg #[.int .i64 k, .int .i64 n, .string s], .int .i64 q] w fun e w' => e = .returned (.int .i64 (-1)) ∧ Below w.heap.size w w' :=
  (szKey_big k n s q w hs h0 hq h).mono fun _ _ ⟨he, hw⟩ => ⟨he, by rw [hw]; exact al (Below.refl _ _)⟩
end Go.Proofs.Ytnbhdijmbpdgoaa
