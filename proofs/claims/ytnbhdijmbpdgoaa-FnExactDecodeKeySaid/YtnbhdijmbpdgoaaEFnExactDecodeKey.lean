/-
  Proved: the law FnExactDecodeKey answers true for every input and changes nothing that was there: the program's DecodeKey returns what the reference's DecodeKey returns. Conditions: none beyond those of the row.
  By an AI agent; no person has read it.
-/
import Derived.Test.YtnbhdijmbpdgoaaLaw
import Derived.Test.YtnbhdijmbpdgoaaKeyL
import Derived.Test.YtnbhdijmbpdgoaaKeyD
import Derived.Test.YtnbhdijmbpdgoaaEq
import Derived.Test.YtnbhdijmbpdgoaaTo
namespace Go.Proofs.Ytnbhdijmbpdgoaa.fnExactDecodeKey
open Go.ChangeShapes Go.WideShapes Go.ChangeAt Go.RowKit
open Go.ChangeMaps (open_string)
set_option linter.unusedVariables false

set_option maxRecDepth 100000 in
set_option maxHeartbeats 4000000 in
theorem walk (w : World) (A0 : Option Addr) (n0 c0 : Nat) (l0 : List UInt8) (h0 : Rd w 1 A0 n0 (l0.map bv)) (m0 : n0 ≤ maxLen) :
    Calls Try.prog 7 #[.slice A0 n0 c0] w fun e w' => e = .returned (.bool true) ∧ Below w.heap.size w w' := by
  unfold maxLen at m0
  by_cases hbig0 : 1048576 < n0
  · go_enter Try.func7, Try.ntmps7
    go_wp2
    go_ret
    exact ⟨rfl, Below.refl _ _⟩
  have hs0 : n0 ≤ 1048576 := by omega
  clear hbig0
  obtain ⟨k, n, s, bo, ht⟩ : ∃ k n s bo, dkT (decK l0) = (k, n, s, bo) := ⟨_, _, _, _, rfl⟩
  have HT := Lib.hid ht
  clear ht
  go_enter Try.func7, Try.ntmps7
  go_wp2_with fail
  refine (toByteS_any A0 n0 c0 l0 _ (by omega) h0).mono ?_
  rintro e w1 ⟨A1, n1, c1, rfl, o1, B1⟩
  have q1 : n1 ≤ 1048576 := by have z1 := own_lenB o1; have z2 := h0.lenB; omega
  go_wp2_with fail
  refine (specDecodeKey_t A1 n1 c1 l0 k n s bo _ (by omega) (own_cap o1).1 (own_cap o1).2 (Rd.of_own o1) HT.out).mono ?_
  rintro e w2 ⟨rfl, b2⟩
  have B2 := B1.trans (b2.mono B1.size)
  clear o1 b2
  have h2 := (h0.below B2).alloc (.cells #[.int .i64 k, .int .i64 n, .string s] 26)
  go_wp2_with fail
  refine (toByteS_any A0 n0 c0 l0 _ (by omega) h2).mono ?_
  rintro e w3 ⟨A3, n3, c3, rfl, o3, b3⟩
  have d0 : w3.cell? ⟨w2.heap.size, 0, none⟩ = some (.int .i64 k) := kcell b3 (by simp)
  have d1 : w3.cell? ⟨w2.heap.size, 1, none⟩ = some (.int .i64 n) := kcell b3 (by simp)
  have d2 : w3.cell? ⟨w2.heap.size, 2, none⟩ = some (.string s) := kcell b3 (by simp)
  have hz3 : w2.heap.size < w3.heap.size := by have := b3.size; simp at this; omega
  have B3 := B2.trans ((Below.trans (al (Below.refl _ _)) (b3.mono (by simp)) : Below w2.heap.size w2 w3).mono B2.size)
  have q3 : n3 ≤ 1048576 := by have z1 := own_lenB o3; have z2 := h0.lenB; omega
  clear b3 h2
  go_wp2_with fail
  refine (implDecodeKey_t A3 n3 c3 l0 k n s bo _ (by omega) (own_cap o3).1 (own_cap o3).2 (Rd.of_own o3) HT.out).mono ?_
  rintro e w4 ⟨rfl, b4⟩
  replace d0 := kcell b4 d0
  replace d1 := kcell b4 d1
  replace d2 := kcell b4 d2
  have hz4 : w2.heap.size < w4.heap.size := Nat.lt_of_lt_of_le hz3 b4.size
  replace o3 := own_below o3 b4
  have B4 := B3.trans (b4.mono B3.size)
  clear b4
  go_wp2_with fail
  refine (eqKey_same k n s _).mono ?_
  rintro e w5 ⟨rfl, b5⟩
  have b45 : Below w4.heap.size w4 w5 := Below.trans (al (Below.refl _ _)) (b5.mono (by simp))
  have B5 := B4.trans (b45.mono B4.size)
  replace o3 := own_below o3 b45
  clear b5 b45 d0 d1 d2
  go_wp2_with fail
  refine (toByteS_any A0 n0 c0 l0 _ (by omega) (h0.below B5)).mono ?_
  rintro e w6 ⟨A6, n6, c6, rfl, o6, b6⟩
  have q6 : n6 ≤ 1048576 := by have z1 := own_lenB o6; have z2 := h0.lenB; omega
  replace o3 := own_below o3 b6
  have B6 := B5.trans (b6.mono B5.size)
  go_wp2_with fail
  refine (eqByteS_any A3 A6 n3 n6 c3 c6 _ _ true _ (by unfold maxLen; omega) (by unfold maxLen; omega) (Rd.of_own o3) (Rd.of_own o6) (by simp)).mono ?_
  rintro e w7 ⟨rfl, b7⟩
  have B7 := B6.trans (b7.mono B6.size)
  go_wp2
  go_ret
  exact ⟨rfl, B7⟩

set_option maxRecDepth 100000 in
theorem lifted (os : Os) (started : os.Started) (H : Type) (enc : TypeId × Value → H) :
    ReturnsInHanded {} Try.checked os 7 .any (Rows.fnExactDecodeKeySpec.pre6 enc Try.prog Try.f7 Rows.fnExactDecodeKeyRow.domain false) (Rows.fnExactDecodeKeySpec.post enc Try.prog Try.f7 false true false false) := by
  refine returnsInHanded_of_change (C := Try.checked) own started (by kernel_rfl) Try.func7
    (ChangeSpec.witness6 (enc := enc) (C := Try.checked) false ⟨#[], #[.slice none 0 0], []⟩ 8 (by kernel_rfl) (by kernel_rfl) (by kernel_rfl) (by kernel_rfl)) ?_
  intro W base args ds gs before hval0 hW hcnd _
  have hval : ∀ (j : Nat) t v, Try.f7.params[j]? = some t → args[j]? = some v → Value.okWide Try.prog W .any base t v := hval0
  have hW' := hW
  obtain ⟨p, q, hA0, hV, rfl, hfz, hnd⟩ := hW
  have hA : DataW.TrodAll enc Try.prog W 0 (fun _ => true) true Try.f7.params.toList args.toList ds p := hA0
  rw [Try.params7] at hA hval
  obtain ⟨v0, vs0, d0, ds0, p0, q0, hargs, rfl, rfl, h0, z0⟩ := trodAll_cons hA
  obtain ⟨rfl, rfl, rfl⟩ := trodAll_nil z0
  obtain rfl : args = #[v0] := by cases args; simp_all
  obtain ⟨rfl, rfl⟩ := trodVars_none hV
  obtain ⟨A0, n0, c0, rfl⟩ := okWide_slice Try.underlying31 (hval 0 31 v0 rfl rfl)
  obtain ⟨fu0, hf0⟩ := h0
  obtain ⟨l0, k0, m0⟩ := open_bytes Try.underlying31 Try.underlying5 cellsU8 hf0
  clear hA0 hval0
  exact (walk W A0 n0 c0 l0 k0 m0).mono fun e W' ⟨he, hb⟩ => ⟨_, he, law_post laidOut (by kernel_rfl) (tb := 4) rfl Try.underlying4 rfl hW' rfl hb⟩

theorem proved : Rows.FnExactDecodeKeySaid :=
  OpenClaim.holds_of_wide 7 Try.f7 rfl rfl rfl rfl rfl rfl rfl ⟨rfl, rfl, rfl, rfl, rfl⟩ rfl rfl rfl rfl rfl (by kernel_rfl) Try.func7 (joined_of (by kernel_rfl))
    (of_decide_eq_true (by kernel_rfl)) (by unfold Func.isWrapper; first | (rw [if_pos (by decide +kernel)]; kernel_rfl) | (rw [if_neg (by decide +kernel)]; exact ⟨rfl, rfl⟩))
    (fun os started H enc _ => lifted os started H enc)
#print axioms proved
end Go.Proofs.Ytnbhdijmbpdgoaa.fnExactDecodeKey
