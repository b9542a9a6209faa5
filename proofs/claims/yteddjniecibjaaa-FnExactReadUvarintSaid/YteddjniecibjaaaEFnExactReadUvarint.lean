/-
  Proved: the law FnExactReadUvarint answers true for every input and changes nothing that was there: the program's ReadUvarint returns what the reference's ReadUvarint returns. Conditions: none beyond those of the row.
  By an AI agent; no person has read it.
-/
import Derived.Test.YteddjniecibjaaaLaw
import Derived.Test.YteddjniecibjaaaEq
import Derived.Test.YteddjniecibjaaaTo
import Derived.Test.YteddjniecibjaaaRd
namespace Go.Proofs.Yteddjniecibjaaa.fnExactReadUvarint
open Go.ChangeShapes Go.WideShapes Go.ChangeAt Go.RowKit
open Go.ChangeMaps (open_string)
set_option linter.unusedVariables false

set_option maxHeartbeats 1000000 in
theorem walk (w : World) (A0 : Option Addr) (n0 c0 : Nat) (l0 : List UInt8) (h0 : Rd w 1 A0 n0 (l0.map bv)) (m0 : n0 ≤ maxLen) (a1 : Int) (h1 : -9223372036854775808 ≤ a1 ∧ a1 ≤ 9223372036854775807) :
    Calls Try.prog 9 #[.slice A0 n0 c0, .int .i64 a1] w fun e w' => e = .returned (.bool true) ∧ Below w.heap.size w w' := by
  unfold maxLen at m0
  by_cases hbig0 : 1048576 < n0
  · go_enter Try.func9, Try.ntmps9
    go_wp2
    go_ret
    exact ⟨rfl, Below.refl _ _⟩
  have hs0 : n0 ≤ 1048576 := by omega
  clear hbig0
  rcases hr : readU l0 a1 with _ | ⟨m, k⟩
  · skip
    go_enter Try.func9, Try.ntmps9
    go_wp2_with fail
    refine (toByteS_any A0 n0 c0 l0 _ (by omega) h0).mono ?_
    rintro e w1 ⟨A1_, n1_, c1_, rfl, o1, b1⟩
    have B1 : Below w.heap.size w w1 := b1
    have R1 := own_rng o1
    have hn1 : n1_ ≤ 1048576 := by have q1 := own_lenB o1; have q2 := h0.lenB; omega
    go_wp2_with fail
    refine (specReadUvarint_none A1_ n1_ c1_ l0 a1 _ (by omega) (Rd.of_own o1) h1 hr).mono ?_
    rintro e w2 ⟨rfl, b2⟩
    have B2 : Below w.heap.size w w2 := B1.trans (b2.mono B1.size)
    replace o1 := own_below o1 b2
    go_wp2_with fail
    refine (toByteS_any A0 n0 c0 l0 _ (by omega) (h0.below B2)).mono ?_
    rintro e w3 ⟨A3_, n3_, c3_, rfl, o3, b3⟩
    have B3 : Below w.heap.size w w3 := B2.trans (b3.mono B2.size)
    have R3 := own_rng o3
    have hn3 : n3_ ≤ 1048576 := by have q1 := own_lenB o3; have q2 := h0.lenB; omega
    go_wp2_with fail
    refine (implReadUvarint_none A3_ n3_ c3_ l0 a1 _ (by omega) (Rd.of_own o3) hr).mono ?_
    rintro e w4 ⟨rfl, b4⟩
    have B4 : Below w.heap.size w w4 := B3.trans (b4.mono B3.size)
    replace o3 := own_below o3 b4
    go_wp2_with fail
    refine (toByteS_any A0 n0 c0 l0 _ (by omega) (h0.below B4)).mono ?_
    rintro e w5 ⟨A5_, n5_, c5_, rfl, o5, b5⟩
    have B5 : Below w.heap.size w w5 := B4.trans (b5.mono B4.size)
    replace o3 := own_below o3 b5
    have R5 := own_rng o5
    have hn5 : n5_ ≤ 1048576 := by have q1 := own_lenB o5; have q2 := h0.lenB; omega
    go_wp2_with fail
    refine (eqByteS_any A3_ A5_ n3_ n5_ c3_ c5_ _ _ true _ (by unfold maxLen; omega) (by unfold maxLen; omega) (Rd.of_own o3) (Rd.of_own o5) (by simp)).mono ?_
    rintro e w6 ⟨rfl, b6⟩
    have B6 : Below w.heap.size w w6 := B5.trans (b6.mono B5.size)
    replace o3 := own_below o3 b6
    replace o5 := own_below o5 b6
    go_wp2
    go_ret
    exact ⟨rfl, B6⟩
  · skip
    go_enter Try.func9, Try.ntmps9
    go_wp2_with fail
    refine (toByteS_any A0 n0 c0 l0 _ (by omega) h0).mono ?_
    rintro e w1 ⟨A1_, n1_, c1_, rfl, o1, b1⟩
    have B1 : Below w.heap.size w w1 := b1
    have R1 := own_rng o1
    have hn1 : n1_ ≤ 1048576 := by have q1 := own_lenB o1; have q2 := h0.lenB; omega
    go_wp2_with fail
    refine (specReadUvarint_some A1_ n1_ c1_ l0 a1 m k _ (by omega) (Rd.of_own o1) h1 hr).mono ?_
    rintro e w2 ⟨rfl, b2⟩
    have B2 : Below w.heap.size w w2 := B1.trans (b2.mono B1.size)
    replace o1 := own_below o1 b2
    go_wp2_with fail
    refine (toByteS_any A0 n0 c0 l0 _ (by omega) (h0.below B2)).mono ?_
    rintro e w3 ⟨A3_, n3_, c3_, rfl, o3, b3⟩
    have B3 : Below w.heap.size w w3 := B2.trans (b3.mono B2.size)
    have R3 := own_rng o3
    have hn3 : n3_ ≤ 1048576 := by have q1 := own_lenB o3; have q2 := h0.lenB; omega
    go_wp2_with fail
    refine (implReadUvarint_some A3_ n3_ c3_ l0 a1 m k _ (by omega) (Rd.of_own o3) hr).mono ?_
    rintro e w4 ⟨rfl, b4⟩
    have B4 : Below w.heap.size w w4 := B3.trans (b4.mono B3.size)
    replace o3 := own_below o3 b4
    go_wp2_with fail
    refine (toByteS_any A0 n0 c0 l0 _ (by omega) (h0.below B4)).mono ?_
    rintro e w5 ⟨A5_, n5_, c5_, rfl, o5, b5⟩
    have B5 : Below w.heap.size w w5 := B4.trans (b5.mono B4.size)
    replace o3 := own_below o3 b5
    have R5 := own_rng o5
    have hn5 : n5_ ≤ 1048576 := by have q1 := own_lenB o5; have q2 := h0.lenB; omega
    go_wp2_with fail
    refine (eqByteS_any A3_ A5_ n3_ n5_ c3_ c5_ _ _ true _ (by unfold maxLen; omega) (by unfold maxLen; omega) (Rd.of_own o3) (Rd.of_own o5) (by simp)).mono ?_
    rintro e w6 ⟨rfl, b6⟩
    have B6 : Below w.heap.size w w6 := B5.trans (b6.mono B5.size)
    replace o3 := own_below o3 b6
    replace o5 := own_below o5 b6
    go_wp2
    go_ret
    exact ⟨rfl, B6⟩

set_option maxRecDepth 100000 in
theorem lifted (os : Os) (started : os.Started) (H : Type) (enc : TypeId × Value → H) :
    ReturnsInHanded {} Try.checked os 9 .any (Rows.fnExactReadUvarintSpec.pre6 enc Try.prog Try.f9 Rows.fnExactReadUvarintRow.domain false) (Rows.fnExactReadUvarintSpec.post enc Try.prog Try.f9 false true false false) := by
  refine returnsInHanded_of_change (C := Try.checked) own started (by kernel_rfl) Try.func9
    (ChangeSpec.witness6 (enc := enc) (C := Try.checked) false ⟨#[], #[.slice none 0 0, .int .i64 0], []⟩ 8 (by kernel_rfl) (by kernel_rfl) (by kernel_rfl) (by kernel_rfl)) ?_
  intro W base args ds gs before hval0 hW hcnd _
  have hval : ∀ (j : Nat) t v, Try.f9.params[j]? = some t → args[j]? = some v → Value.okWide Try.prog W .any base t v := hval0
  have hW' := hW
  obtain ⟨p, q, hA0, hV, rfl, hfz, hnd⟩ := hW
  have hA : DataW.TrodAll enc Try.prog W 0 (fun _ => true) true Try.f9.params.toList args.toList ds p := hA0
  rw [Try.params9] at hA hval
  obtain ⟨v0, vs0, d0, ds0, p0, q0, hargs, rfl, rfl, h0, z0⟩ := trodAll_cons hA
  obtain ⟨v1, vs1, d1, ds1, p1, q1, rfl, rfl, rfl, h1, z1⟩ := trodAll_cons z0
  obtain ⟨rfl, rfl, rfl⟩ := trodAll_nil z1
  obtain rfl : args = #[v0, v1] := by cases args; simp_all
  obtain ⟨rfl, rfl⟩ := trodVars_none hV
  obtain ⟨A0, n0, c0, rfl⟩ := okWide_slice Try.underlying25 (hval 0 25 v0 rfl rfl)
  obtain ⟨fu0, hf0⟩ := h0
  obtain ⟨l0, k0, m0⟩ := open_bytes Try.underlying25 Try.underlying5 cellsU8 hf0
  obtain ⟨a1, rfl, rfl, rfl, w1⟩ := open_int Try.underlying3 (hval 1 3 v1 rfl rfl) h1
  clear hA0 hval0
  exact (walk W A0 n0 c0 l0 k0 m0 a1 (wf_range w1)).mono fun e W' ⟨he, hb⟩ => ⟨_, he, law_post laidOut (by kernel_rfl) (tb := 4) rfl Try.underlying4 rfl hW' rfl hb⟩

theorem proved : Rows.FnExactReadUvarintSaid :=
  OpenClaim.holds_of_wide 9 Try.f9 rfl rfl rfl rfl rfl rfl rfl ⟨rfl, rfl, rfl, rfl, rfl⟩ rfl rfl rfl rfl rfl (by kernel_rfl) Try.func9 (joined_of (by kernel_rfl))
    (of_decide_eq_true (by kernel_rfl)) (by unfold Func.isWrapper; first | (rw [if_pos (by decide +kernel)]; kernel_rfl) | (rw [if_neg (by decide +kernel)]; exact ⟨rfl, rfl⟩))
    (fun os started H enc _ => lifted os started H enc)
#print axioms proved
end Go.Proofs.Yteddjniecibjaaa.fnExactReadUvarint
