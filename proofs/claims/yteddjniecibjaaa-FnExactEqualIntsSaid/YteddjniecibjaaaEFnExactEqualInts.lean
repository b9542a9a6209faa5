/-
  Proved: the law FnExactEqualInts answers true for every input and changes nothing that was there: the program's EqualInts returns what the reference's EqualInts returns. Conditions: none beyond those of the row.
  By an AI agent; no person has read it.
-/
import Derived.Test.YteddjniecibjaaaLaw
import Derived.Test.YteddjniecibjaaaEqI
import Derived.Test.YteddjniecibjaaaToI
import Derived.Test.YteddjniecibjaaaEqP
import Derived.Test.YteddjniecibjaaaEqImpl
namespace Go.Proofs.Yteddjniecibjaaa.fnExactEqualInts
open Go.ChangeShapes Go.WideShapes Go.ChangeAt Go.RowKit
open Go.ChangeMaps (open_string)
set_option linter.unusedVariables false

set_option maxHeartbeats 1000000 in
theorem walk (w : World) (A0 : Option Addr) (n0 c0 : Nat) (l0 : List Int) (h0 : Rd w 1 A0 n0 (l0.map iv)) (m0 : n0 ≤ maxLen) (r0 : ∀ z ∈ l0, -9223372036854775808 ≤ z ∧ z ≤ 9223372036854775807) (A1 : Option Addr) (n1 c1 : Nat) (l1 : List Int) (h1 : Rd w 1 A1 n1 (l1.map iv)) (m1 : n1 ≤ maxLen) (r1 : ∀ z ∈ l1, -9223372036854775808 ≤ z ∧ z ≤ 9223372036854775807) :
    Calls Try.prog 7 #[.slice A0 n0 c0, .slice A1 n1 c1] w fun e w' => e = .returned (.bool true) ∧ Below w.heap.size w w' := by
  unfold maxLen at m0
  by_cases hbig0 : 1048576 < n0
  · go_enter Try.func7, Try.ntmps7
    go_wp2
    go_ret
    exact ⟨rfl, Below.refl _ _⟩
  have hs0 : n0 ≤ 1048576 := by omega
  clear hbig0
  unfold maxLen at m1
  by_cases hbig1 : 1048576 < n1
  · go_enter Try.func7, Try.ntmps7
    go_wp2
    go_ret
    exact ⟨rfl, Below.refl _ _⟩
  have hs1 : n1 ≤ 1048576 := by omega
  clear hbig1
  obtain ⟨r, hr⟩ : ∃ r, r = decide (l0 = l1) := ⟨_, rfl⟩
  have HR := Lib.hid hr
  clear hr
  go_enter Try.func7, Try.ntmps7
  go_wp2_with fail
  refine (toIntS_any A0 n0 c0 l0 _ (by omega) h0).mono ?_
  rintro e w1 ⟨A1_, n1_, c1_, rfl, o1, b1⟩
  have B1 : Below w.heap.size w w1 := b1
  have R1 := own_rng o1
  have hn1 : n1_ ≤ 1048576 := by have q1 := own_lenI o1; have q2 := h0.lenI; omega
  go_wp2_with fail
  refine (toIntS_any A1 n1 c1 l1 _ (by omega) (h1.below B1)).mono ?_
  rintro e w2 ⟨A2_, n2_, c2_, rfl, o2, b2⟩
  have B2 : Below w.heap.size w w2 := B1.trans (b2.mono B1.size)
  replace o1 := own_below o1 b2
  have R2 := own_rng o2
  have hn2 : n2_ ≤ 1048576 := by have q1 := own_lenI o2; have q2 := h1.lenI; omega
  go_wp2_with fail
  refine (specEqualInts_any A1_ A2_ n1_ n2_ c1_ c2_ l0 l1 r _ (by unfold maxLen; omega) (by unfold maxLen; omega) (Rd.of_own o1) (Rd.of_own o2) HR.out).mono ?_
  rintro e w3 ⟨rfl, b3⟩
  have B3 : Below w.heap.size w w3 := B2.trans (b3.mono B2.size)
  replace o1 := own_below o1 b3
  replace o2 := own_below o2 b3
  go_wp2_with fail
  refine (toIntS_any A0 n0 c0 l0 _ (by omega) (h0.below B3)).mono ?_
  rintro e w4 ⟨A4_, n4_, c4_, rfl, o4, b4⟩
  have B4 : Below w.heap.size w w4 := B3.trans (b4.mono B3.size)
  have R4 := own_rng o4
  have hn4 : n4_ ≤ 1048576 := by have q1 := own_lenI o4; have q2 := h0.lenI; omega
  go_wp2_with fail
  refine (toIntS_any A1 n1 c1 l1 _ (by omega) (h1.below B4)).mono ?_
  rintro e w5 ⟨A5_, n5_, c5_, rfl, o5, b5⟩
  have B5 : Below w.heap.size w w5 := B4.trans (b5.mono B4.size)
  replace o4 := own_below o4 b5
  have R5 := own_rng o5
  have hn5 : n5_ ≤ 1048576 := by have q1 := own_lenI o5; have q2 := h1.lenI; omega
  go_wp2_with fail
  refine (implEqualInts_any A4_ A5_ n4_ n5_ c4_ c5_ l0 l1 r _ (by unfold maxLen; omega) (by unfold maxLen; omega) (Rd.of_own o4) (Rd.of_own o5) HR.out).mono ?_
  rintro e w6 ⟨rfl, b6⟩
  have B6 : Below w.heap.size w w6 := B5.trans (b6.mono B5.size)
  replace o4 := own_below o4 b6
  replace o5 := own_below o5 b6
  go_wp2_with fail
  refine (toIntS_any A0 n0 c0 l0 _ (by omega) (h0.below B6)).mono ?_
  rintro e w7 ⟨A7_, n7_, c7_, rfl, o7, b7⟩
  have B7 : Below w.heap.size w w7 := B6.trans (b7.mono B6.size)
  replace o4 := own_below o4 b7
  replace o5 := own_below o5 b7
  have R7 := own_rng o7
  have hn7 : n7_ ≤ 1048576 := by have q1 := own_lenI o7; have q2 := h0.lenI; omega
  go_wp2_with fail
  refine (eqIntS_any A4_ A7_ n4_ n7_ c4_ c7_ _ _ true _ (by unfold maxLen; omega) (by unfold maxLen; omega) (Rd.of_own o4) (Rd.of_own o7) (by simp)).mono ?_
  rintro e w8 ⟨rfl, b8⟩
  have B8 : Below w.heap.size w w8 := B7.trans (b8.mono B7.size)
  replace o4 := own_below o4 b8
  replace o5 := own_below o5 b8
  replace o7 := own_below o7 b8
  go_wp2_with fail
  refine (toIntS_any A1 n1 c1 l1 _ (by omega) (h1.below B8)).mono ?_
  rintro e w9 ⟨A9_, n9_, c9_, rfl, o9, b9⟩
  have B9 : Below w.heap.size w w9 := B8.trans (b9.mono B8.size)
  replace o4 := own_below o4 b9
  replace o5 := own_below o5 b9
  have R9 := own_rng o9
  have hn9 : n9_ ≤ 1048576 := by have q1 := own_lenI o9; have q2 := h1.lenI; omega
  go_wp2_with fail
  refine (eqIntS_any A5_ A9_ n5_ n9_ c5_ c9_ _ _ true _ (by unfold maxLen; omega) (by unfold maxLen; omega) (Rd.of_own o5) (Rd.of_own o9) (by simp)).mono ?_
  rintro e w10 ⟨rfl, b10⟩
  have B10 : Below w.heap.size w w10 := B9.trans (b10.mono B9.size)
  replace o4 := own_below o4 b10
  replace o5 := own_below o5 b10
  replace o9 := own_below o9 b10
  go_wp2
  go_ret
  exact ⟨rfl, B10⟩

set_option maxRecDepth 100000 in
theorem lifted (os : Os) (started : os.Started) (H : Type) (enc : TypeId × Value → H) :
    ReturnsInHanded {} Try.checked os 7 .any (Rows.fnExactEqualIntsSpec.pre6 enc Try.prog Try.f7 Rows.fnExactEqualIntsRow.domain false) (Rows.fnExactEqualIntsSpec.post enc Try.prog Try.f7 false true false false) := by
  refine returnsInHanded_of_change (C := Try.checked) own started (by kernel_rfl) Try.func7
    (ChangeSpec.witness6 (enc := enc) (C := Try.checked) false ⟨#[], #[.slice none 0 0, .slice none 0 0], []⟩ 8 (by kernel_rfl) (by kernel_rfl) (by kernel_rfl) (by kernel_rfl)) ?_
  intro W base args ds gs before hval0 hW hcnd _
  have hval : ∀ (j : Nat) t v, Try.f7.params[j]? = some t → args[j]? = some v → Value.okWide Try.prog W .any base t v := hval0
  have hW' := hW
  obtain ⟨p, q, hA0, hV, rfl, hfz, hnd⟩ := hW
  have hA : DataW.TrodAll enc Try.prog W 0 (fun _ => true) true Try.f7.params.toList args.toList ds p := hA0
  rw [Try.params7] at hA hval
  obtain ⟨v0, vs0, d0, ds0, p0, q0, hargs, rfl, rfl, h0, z0⟩ := trodAll_cons hA
  obtain ⟨v1, vs1, d1, ds1, p1, q1, rfl, rfl, rfl, h1, z1⟩ := trodAll_cons z0
  obtain ⟨rfl, rfl, rfl⟩ := trodAll_nil z1
  obtain rfl : args = #[v0, v1] := by cases args; simp_all
  obtain ⟨rfl, rfl⟩ := trodVars_none hV
  obtain ⟨A0, n0, c0, rfl⟩ := okWide_slice Try.underlying29 (hval 0 29 v0 rfl rfl)
  obtain ⟨fu0, hf0⟩ := h0
  obtain ⟨l0, k0, m0, r0⟩ := open_intl Try.underlying29 Try.underlying3 cellsI hf0
  obtain ⟨A1, n1, c1, rfl⟩ := okWide_slice Try.underlying29 (hval 1 29 v1 rfl rfl)
  obtain ⟨fu1, hf1⟩ := h1
  obtain ⟨l1, k1, m1, r1⟩ := open_intl Try.underlying29 Try.underlying3 cellsI hf1
  clear hA0 hval0
  exact (walk W A0 n0 c0 l0 k0 m0 r0 A1 n1 c1 l1 k1 m1 r1).mono fun e W' ⟨he, hb⟩ => ⟨_, he, law_post laidOut (by kernel_rfl) (tb := 4) rfl Try.underlying4 rfl hW' rfl hb⟩

theorem proved : Rows.FnExactEqualIntsSaid :=
  OpenClaim.holds_of_wide 7 Try.f7 rfl rfl rfl rfl rfl rfl rfl ⟨rfl, rfl, rfl, rfl, rfl⟩ rfl rfl rfl rfl rfl (by kernel_rfl) Try.func7 (joined_of (by kernel_rfl))
    (of_decide_eq_true (by kernel_rfl)) (by unfold Func.isWrapper; first | (rw [if_pos (by decide +kernel)]; kernel_rfl) | (rw [if_neg (by decide +kernel)]; exact ⟨rfl, rfl⟩))
    (fun os started H enc _ => lifted os started H enc)
#print axioms proved
end Go.Proofs.Yteddjniecibjaaa.fnExactEqualInts
