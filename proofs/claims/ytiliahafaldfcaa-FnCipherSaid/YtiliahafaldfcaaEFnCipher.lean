/-
  Proved: the law FnCipher answers true for every input and changes nothing that was there: decryption inverts encryption, and encryption inverts decryption. Conditions: none beyond those of the row.
  By an AI agent; no person has read it.
-/
import Derived.Test.YtiliahafaldfcaaLaw
import Derived.Test.YtiliahafaldfcaaPlA
import Derived.Test.YtiliahafaldfcaaDrawB
import Derived.Test.YtiliahafaldfcaaSame
namespace Go.Proofs.Ytiliahafaldfcaa.fnCipher
open Go.ChangeShapes Go.WideShapes Go.ChangeAt Go.RowKit
open Go.ChangeMaps (open_string)
set_option linter.unusedVariables false

set_option maxHeartbeats 1000000 in
theorem walk (w : World) (A0 : Option Addr) (n0 c0 : Nat) (l0 : List UInt8) (h0 : Rd w 1 A0 n0 (l0.map bv)) (m0 : n0 ≤ maxLen) :
    Calls Try.prog 3 #[.slice A0 n0 c0] w fun e w' => e = .returned (.bool true) ∧ Below w.heap.size w w' := by
  unfold maxLen at m0
  by_cases hb0 : (1048576 : Int) < (n0 : Int)
  · go_enter Try.func3, Try.ntmps3
    go_wp2_with fail
    refine (big_any A0 n0 c0 true _ (by omega) (decide_eq_true hb0).symm).mono ?_
    rintro e w1 ⟨rfl, rfl⟩
    go_wp2
    go_ret
    exact ⟨rfl, Below.refl _ _⟩
  have hn0 : n0 ≤ 1048576 := by omega
  go_enter Try.func3, Try.ntmps3
  go_wp2_with fail
  refine (big_any A0 n0 c0 false _ (by omega) (decide_eq_false (by omega)).symm).mono ?_
  rintro e w0 ⟨rfl, rfl⟩
  go_wp2_with fail
  refine (drawEncrypt_any A0 n0 c0 l0 _ (by omega) h0).mono ?_
  rintro e w1 ⟨k, A1, n1, c1, l1, rfl, o1, hk, hl, B1⟩
  have q1 : n1 ≤ 8 := by have z1 := own_lenB o1; omega
  have hk2 : -9223372036854775808 ≤ k ∧ k ≤ 9223372036854775807 := by unfold wordR at hk; omega
  clear hk
  go_wp2_with fail
  refine (implEncrypt_any k A1 n1 c1 l1 _ (by omega) hk2 (Rd.of_own o1)).mono ?_
  rintro e w2 ⟨A2, n2, c2, rfl, o2, b2⟩
  have B2 := B1.trans (b2.mono B1.size)
  replace o1 := own_below o1 b2
  have q2 : n2 ≤ 8 := by have z1 := own_lenB o2; rw [encF_len] at z1; omega
  go_wp2_with fail
  refine (implDecrypt_any k A2 n2 c2 _ _ (by omega) hk2 (Rd.of_own o2)).mono ?_
  rintro e w3 ⟨A3, n3, c3, rfl, o3, b3⟩
  have B3 := B2.trans (b3.mono B2.size)
  replace o1 := own_below o1 b3
  replace o2 := own_below o2 b3
  have q3 : n3 ≤ 8 := by have z1 := own_lenB o3; rw [decF_len, encF_len] at z1; omega
  go_wp2_with fail
  refine (sameBytes_any A3 A1 n3 n1 c3 c1 _ _ true _ (by unfold maxLen; omega) (by unfold maxLen; omega) (Rd.of_own o3) (Rd.of_own o1) (by rw [dec_enc]; simp)).mono ?_
  rintro e w4 ⟨rfl, b4⟩
  have B4 := B3.trans (b4.mono B3.size)
  replace o1 := own_below o1 b4
  replace o2 := own_below o2 b4
  replace o3 := own_below o3 b4
  go_wp2_with fail
  refine (implDecrypt_any k A1 n1 c1 l1 _ (by omega) hk2 (Rd.of_own o1)).mono ?_
  rintro e w5 ⟨A5, n5, c5, rfl, o5, b5⟩
  have B5 := B4.trans (b5.mono B4.size)
  replace o1 := own_below o1 b5
  replace o2 := own_below o2 b5
  replace o3 := own_below o3 b5
  have q5 : n5 ≤ 8 := by have z1 := own_lenB o5; rw [decF_len] at z1; omega
  go_wp2_with fail
  refine (implEncrypt_any k A5 n5 c5 _ _ (by omega) hk2 (Rd.of_own o5)).mono ?_
  rintro e w6 ⟨A6, n6, c6, rfl, o6, b6⟩
  have B6 := B5.trans (b6.mono B5.size)
  replace o1 := own_below o1 b6
  replace o2 := own_below o2 b6
  replace o3 := own_below o3 b6
  replace o5 := own_below o5 b6
  have q6 : n6 ≤ 8 := by have z1 := own_lenB o6; rw [encF_len, decF_len] at z1; omega
  go_wp2_with fail
  refine (sameBytes_any A6 A1 n6 n1 c6 c1 _ _ true _ (by unfold maxLen; omega) (by unfold maxLen; omega) (Rd.of_own o6) (Rd.of_own o1) (by rw [enc_dec]; simp)).mono ?_
  rintro e w7 ⟨rfl, b7⟩
  have B7 := B6.trans (b7.mono B6.size)
  replace o1 := own_below o1 b7
  replace o2 := own_below o2 b7
  replace o3 := own_below o3 b7
  replace o5 := own_below o5 b7
  replace o6 := own_below o6 b7
  go_wp2_with fail
  refine (implEncrypt_any k A1 n1 c1 l1 _ (by omega) hk2 (Rd.of_own o1)).mono ?_
  rintro e w8 ⟨A8, n8, c8, rfl, o8, b8⟩
  have B8 := B7.trans (b8.mono B7.size)
  replace o1 := own_below o1 b8
  replace o2 := own_below o2 b8
  replace o3 := own_below o3 b8
  replace o5 := own_below o5 b8
  replace o6 := own_below o6 b8
  have q8 : n8 ≤ 8 := by have z1 := own_lenB o8; rw [encF_len] at z1; omega
  obtain rfl : n8 = n1 := by
    have z1 := own_lenB o8
    have z2 := own_lenB o1
    rw [encF_len] at z1
    omega
  go_wp2
  go_ret
  exact ⟨rfl, B8⟩

set_option maxRecDepth 100000 in
theorem lifted (os : Os) (started : os.Started) (H : Type) (enc : TypeId × Value → H) :
    ReturnsInHanded {} Try.checked os 3 .any (Rows.fnCipherSpec.pre6 enc Try.prog Try.f3 Rows.fnCipherRow.domain false) (Rows.fnCipherSpec.post enc Try.prog Try.f3 false true false false) := by
  refine returnsInHanded_of_change (C := Try.checked) own started (by kernel_rfl) Try.func3
    (ChangeSpec.witness6 (enc := enc) (C := Try.checked) false ⟨#[], #[.slice none 0 0], []⟩ 8 (by kernel_rfl) (by kernel_rfl) (by kernel_rfl) (by kernel_rfl)) ?_
  intro W base args ds gs before hval0 hW hcnd _
  have hval : ∀ (j : Nat) t v, Try.f3.params[j]? = some t → args[j]? = some v → Value.okWide Try.prog W .any base t v := hval0
  have hW' := hW
  obtain ⟨p, q, hA0, hV, rfl, hfz, hnd⟩ := hW
  have hA : DataW.TrodAll enc Try.prog W 0 (fun _ => true) true Try.f3.params.toList args.toList ds p := hA0
  rw [Try.params3] at hA hval
  obtain ⟨v0, vs0, d0, ds0, p0, q0, hargs, rfl, rfl, h0, z0⟩ := trodAll_cons hA
  obtain ⟨rfl, rfl, rfl⟩ := trodAll_nil z0
  obtain rfl : args = #[v0] := by cases args; simp_all
  obtain ⟨rfl, rfl⟩ := trodVars_none hV
  obtain ⟨A0, n0, c0, rfl⟩ := okWide_slice Try.underlying22 (hval 0 22 v0 rfl rfl)
  obtain ⟨fu0, hf0⟩ := h0
  obtain ⟨l0, k0, m0⟩ := open_bytes Try.underlying22 Try.underlying5 cellsU8 hf0
  clear hA0 hval0
  exact (walk W A0 n0 c0 l0 k0 m0).mono fun e W' ⟨he, hb⟩ => ⟨_, he, law_post laidOut (by kernel_rfl) (tb := 4) rfl Try.underlying4 rfl hW' rfl hb⟩

theorem proved : Rows.FnCipherSaid :=
  OpenClaim.holds_of_wide 3 Try.f3 rfl rfl rfl rfl rfl rfl rfl ⟨rfl, rfl, rfl, rfl, rfl⟩ rfl rfl rfl rfl rfl (by kernel_rfl) Try.func3 (joined_of (by kernel_rfl))
    (of_decide_eq_true (by kernel_rfl)) (by unfold Func.isWrapper; first | (rw [if_pos (by decide +kernel)]; kernel_rfl) | (rw [if_neg (by decide +kernel)]; exact ⟨rfl, rfl⟩))
    (fun os started H enc _ => lifted os started H enc)
#print axioms proved
end Go.Proofs.Ytiliahafaldfcaa.fnCipher
