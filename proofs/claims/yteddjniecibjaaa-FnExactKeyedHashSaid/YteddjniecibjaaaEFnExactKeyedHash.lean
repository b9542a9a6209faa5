/-
  Proved: the law FnExactKeyedHash answers true for every input and changes nothing that was there: the program's KeyedHash returns what the reference's KeyedHash returns. Conditions: none beyond those of the row.
  By an AI agent; no person has read it.
-/
import Derived.Test.YteddjniecibjaaaLaw
import Derived.Test.YteddjniecibjaaaEqI
import Derived.Test.YteddjniecibjaaaToI
import Derived.Test.YteddjniecibjaaaKh
namespace Go.Proofs.Yteddjniecibjaaa.fnExactKeyedHash
open Go.ChangeShapes Go.WideShapes Go.ChangeAt Go.RowKit
open Go.ChangeMaps (open_string)
set_option linter.unusedVariables false

set_option maxHeartbeats 1000000 in
theorem walk (w : World) (a0 : Int) (h0 : -9223372036854775808 ≤ a0 ∧ a0 ≤ 9223372036854775807) (A1 : Option Addr) (n1 c1 : Nat) (l1 : List Int) (h1 : Rd w 1 A1 n1 (l1.map iv)) (m1 : n1 ≤ maxLen) (r1 : ∀ z ∈ l1, -9223372036854775808 ≤ z ∧ z ≤ 9223372036854775807) :
    Calls Try.prog 10 #[.int .i64 a0, .slice A1 n1 c1] w fun e w' => e = .returned (.bool true) ∧ Below w.heap.size w w' := by
  unfold maxLen at m1
  by_cases hbig1 : 1048576 < n1
  · go_enter Try.func10, Try.ntmps10
    go_wp2
    go_ret
    exact ⟨rfl, Below.refl _ _⟩
  have hs1 : n1 ≤ 1048576 := by omega
  clear hbig1
  go_enter Try.func10, Try.ntmps10
  go_wp2_with fail
  refine (toIntS_any A1 n1 c1 l1 _ (by omega) h1).mono ?_
  rintro e w1 ⟨A1_, n1_, c1_, rfl, o1, b1⟩
  have B1 : Below w.heap.size w w1 := b1
  have R1 := own_rng o1
  have hn1 : n1_ ≤ 1048576 := by have q1 := own_lenI o1; have q2 := h1.lenI; omega
  go_wp2_with fail
  refine (specKeyedHash_any a0 A1_ n1_ c1_ l1 _ (by omega) h0 (Rd.of_own o1) r1).mono ?_
  rintro e w2 ⟨rfl, b2⟩
  have B2 : Below w.heap.size w w2 := B1.trans (b2.mono B1.size)
  replace o1 := own_below o1 b2
  go_wp2_with fail
  refine (toIntS_any A1 n1 c1 l1 _ (by omega) (h1.below B2)).mono ?_
  rintro e w3 ⟨A3_, n3_, c3_, rfl, o3, b3⟩
  have B3 : Below w.heap.size w w3 := B2.trans (b3.mono B2.size)
  have R3 := own_rng o3
  have hn3 : n3_ ≤ 1048576 := by have q1 := own_lenI o3; have q2 := h1.lenI; omega
  go_wp2_with fail
  refine (implKeyedHash_any a0 A3_ n3_ c3_ l1 _ (by omega) h0 (Rd.of_own o3) r1).mono ?_
  rintro e w4 ⟨rfl, b4⟩
  have B4 : Below w.heap.size w w4 := B3.trans (b4.mono B3.size)
  replace o3 := own_below o3 b4
  go_wp2_with fail
  refine (toIntS_any A1 n1 c1 l1 _ (by omega) (h1.below B4)).mono ?_
  rintro e w5 ⟨A5_, n5_, c5_, rfl, o5, b5⟩
  have B5 : Below w.heap.size w w5 := B4.trans (b5.mono B4.size)
  replace o3 := own_below o3 b5
  have R5 := own_rng o5
  have hn5 : n5_ ≤ 1048576 := by have q1 := own_lenI o5; have q2 := h1.lenI; omega
  go_wp2_with fail
  refine (eqIntS_any A3_ A5_ n3_ n5_ c3_ c5_ _ _ true _ (by unfold maxLen; omega) (by unfold maxLen; omega) (Rd.of_own o3) (Rd.of_own o5) (by simp)).mono ?_
  rintro e w6 ⟨rfl, b6⟩
  have B6 : Below w.heap.size w w6 := B5.trans (b6.mono B5.size)
  replace o3 := own_below o3 b6
  replace o5 := own_below o5 b6
  go_wp2
  go_ret
  exact ⟨rfl, B6⟩

set_option maxRecDepth 100000 in
theorem lifted (os : Os) (started : os.Started) (H : Type) (enc : TypeId × Value → H) :
    ReturnsInHanded {} Try.checked os 10 .any (Rows.fnExactKeyedHashSpec.pre6 enc Try.prog Try.f10 Rows.fnExactKeyedHashRow.domain false) (Rows.fnExactKeyedHashSpec.post enc Try.prog Try.f10 false true false false) := by
  refine returnsInHanded_of_change (C := Try.checked) own started (by kernel_rfl) Try.func10
    (ChangeSpec.witness6 (enc := enc) (C := Try.checked) false ⟨#[], #[.int .i64 0, .slice none 0 0], []⟩ 8 (by kernel_rfl) (by kernel_rfl) (by kernel_rfl) (by kernel_rfl)) ?_
  intro W base args ds gs before hval0 hW hcnd _
  have hval : ∀ (j : Nat) t v, Try.f10.params[j]? = some t → args[j]? = some v → Value.okWide Try.prog W .any base t v := hval0
  have hW' := hW
  obtain ⟨p, q, hA0, hV, rfl, hfz, hnd⟩ := hW
  have hA : DataW.TrodAll enc Try.prog W 0 (fun _ => true) true Try.f10.params.toList args.toList ds p := hA0
  rw [Try.params10] at hA hval
  obtain ⟨v0, vs0, d0, ds0, p0, q0, hargs, rfl, rfl, h0, z0⟩ := trodAll_cons hA
  obtain ⟨v1, vs1, d1, ds1, p1, q1, rfl, rfl, rfl, h1, z1⟩ := trodAll_cons z0
  obtain ⟨rfl, rfl, rfl⟩ := trodAll_nil z1
  obtain rfl : args = #[v0, v1] := by cases args; simp_all
  obtain ⟨rfl, rfl⟩ := trodVars_none hV
  obtain ⟨a0, rfl, rfl, rfl, w0⟩ := open_int Try.underlying3 (hval 0 3 v0 rfl rfl) h0
  obtain ⟨A1, n1, c1, rfl⟩ := okWide_slice Try.underlying29 (hval 1 29 v1 rfl rfl)
  obtain ⟨fu1, hf1⟩ := h1
  obtain ⟨l1, k1, m1, r1⟩ := open_intl Try.underlying29 Try.underlying3 cellsI hf1
  clear hA0 hval0
  exact (walk W a0 (wf_range w0) A1 n1 c1 l1 k1 m1 r1).mono fun e W' ⟨he, hb⟩ => ⟨_, he, law_post laidOut (by kernel_rfl) (tb := 4) rfl Try.underlying4 rfl hW' rfl hb⟩

theorem proved : Rows.FnExactKeyedHashSaid :=
  OpenClaim.holds_of_wide 10 Try.f10 rfl rfl rfl rfl rfl rfl rfl ⟨rfl, rfl, rfl, rfl, rfl⟩ rfl rfl rfl rfl rfl (by kernel_rfl) Try.func10 (joined_of (by kernel_rfl))
    (of_decide_eq_true (by kernel_rfl)) (by unfold Func.isWrapper; first | (rw [if_pos (by decide +kernel)]; kernel_rfl) | (rw [if_neg (by decide +kernel)]; exact ⟨rfl, rfl⟩))
    (fun os started H enc _ => lifted os started H enc)
#print axioms proved
end Go.Proofs.Yteddjniecibjaaa.fnExactKeyedHash
