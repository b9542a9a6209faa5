/-
  Proved: the contracts of KeyedHash, of the program and of the reference. Conditions: the slice reads as a list of ints of 64 bits.
  By an AI agent; no person has read it.
-/
import Derived.Test.YtiliahafaldfcaaHash
namespace Go.Proofs.Ytiliahafaldfcaa
open Go.RowKit

theorem khF_app (k : Int) (l : List Int) : [iv k] ++ l.map iv ++ [iv k] = (k :: l ++ [k]).map iv := by simp
theorem kh_rng {k : Int} {l : List Int} (hk : -9223372036854775808 ≤ k ∧ k ≤ 9223372036854775807) (hr : ∀ z ∈ l, -9223372036854775808 ≤ z ∧ z ≤ 9223372036854775807) : ∀ z ∈ (k :: l ++ [k]), -9223372036854775808 ≤ z ∧ z ≤ 9223372036854775807 := by
  intro z hz
  simp only [List.cons_append, List.mem_cons, List.mem_append, List.not_mem_nil, or_false] at hz
  rcases hz with rfl | hz | rfl
  · exact hk
  · exact hr z hz
  · exact hk

set_option maxRecDepth 100000 in
set_option maxHeartbeats 400000 in
theorem implKeyedHash_any (k : Int) (A : Option Addr) (n c : Nat) (l : List Int) (w : World) (hn : n ≤ 1099511627000) (hk : -9223372036854775808 ≤ k ∧ k ≤ 9223372036854775807) (ha : Rd w 1 A n (l.map iv)) (hr : ∀ z ∈ l, -9223372036854775808 ≤ z ∧ z ≤ 9223372036854775807) :
    Calls Try.prog 13 #[.int .i64 k, .slice A n c] w fun e w' => e = .returned (.int .i64 (khF k l)) ∧ Below w.heap.size w w' := by
  obtain ⟨i0, hi, hz0, hz1, hz2⟩ := info_parts infoI
  have HR := Lib.hid (kh_rng hk hr)
  have HK := Lib.hid (khF_app k l)
  clear hk hr
  go_enter Try.func13, Try.ntmps13
  go_wp2_with (at_builtin; refine wpList_cat (w.alloc (.cells #[.int .i64 k] 3)) rfl _ _ 28 rfl w.heap.size 3 i0 (.int .i64 0) 1 8 Try.underlying28 hi hz0 hz1 hz2 rfl (by decide) _ _ _ [iv k] (by rfl) (World.ownsRow_lit w #[iv k] 1 (Nat.le_refl _) (by decide) (by rfl)) A n c (l.map iv) (by rfl) (ha.alloc _) (ones_iv l) ?c1 ?c2 ?c3 ?_)
  case c1 => unfold maxLen; omega
  case c2 => omega
  case c3 => simp
  intro A1 n1 c1 w1 hk1 ho1 hb1 _
  have hn1 : n1 ≤ 1099511627001 := by omega
  have hbs : w.heap.size ≤ w1.heap.size := by have := hb1.size; simp at this; omega
  have HB1 := Lib.hid (((Below.refl _ _).alloc (Nat.le_refl _) _).trans hb1 : Below w.heap.size w w1)
  clear hk1 hb1
  go_wp2_with (at_builtin; refine wpList_push w1 rfl _ _ 28 rfl w.heap.size 3 i0 (.int .i64 0) 8 Try.underlying28 hi hz0 hz1 hz2 rfl A1 n1 c1 _ (by rfl) ho1 _ (by rfl) (by rfl) ?d1 ?d2 ?d3 ?_)
  case d1 => unfold maxLen; omega
  case d2 => omega
  case d3 => exact hbs
  intro A2 n2 c2 w2 hk2 ho2 hb2
  have hn2 : n2 ≤ 1099511627002 := by omega
  have ho3 : w2.ownsRow w.heap.size 3 1 (.slice A2 n2 c2) n2 ((k :: l ++ [k]).map iv) := by rw [← HK.out]; exact ho2
  have HO := Lib.hid ho3
  have HB2 := Lib.hid (HB1.out.trans hb2)
  clear hk2 ho2 hb2 ho3 ho1
  go_wp2_with fail
  refine (implHash_any A2 n2 c2 (k :: l ++ [k]) w2 (by omega) (Rd.of_own HO.out) HR.out).mono ?_
  rintro e w3 ⟨rfl, hb3⟩
  have HB3 := Lib.hid (HB2.out.trans (hb3.mono HB2.out.size))
  clear hb3
  go_wp2
  go_ret
  exact ⟨rfl, HB3.out⟩
end Go.Proofs.Ytiliahafaldfcaa
