/-
  Proved: the law FnExactAppendBytes answers true for every input and changes nothing that was there: the program's AppendBytes returns what the reference's AppendBytes returns. Conditions: none beyond those of the row.
  By an AI agent; no person has read it.
-/
import Derived.Test.YteddjniecibjaaaLaw
import Derived.Test.YteddjniecibjaaaEq
import Derived.Test.YteddjniecibjaaaTo
import Derived.Test.YteddjniecibjaaaMark
import Derived.Test.YteddjniecibjaaaAb
namespace Go.Proofs.Yteddjniecibjaaa.fnExactAppendBytes
open Go.ChangeShapes Go.WideShapes Go.ChangeAt Go.RowKit
open Go.ChangeMaps (open_string)
set_option linter.unusedVariables false

set_option maxHeartbeats 1000000 in
theorem walk (w : World) (A0 : Option Addr) (n0 c0 : Nat) (l0 : List UInt8) (h0 : Rd w 1 A0 n0 (l0.map bv)) (m0 : n0 ≤ maxLen) (A1 : Option Addr) (n1 c1 : Nat) (l1 : List UInt8) (h1 : Rd w 1 A1 n1 (l1.map bv)) (m1 : n1 ≤ maxLen) :
    Calls Try.prog 12 #[.slice A0 n0 c0, .slice A1 n1 c1] w fun e w' => e = .returned (.bool true) ∧ Below w.heap.size w w' := by
  unfold maxLen at m0
  by_cases hbig0 : 1048576 < n0
  · go_enter Try.func12, Try.ntmps12
    go_wp2
    go_ret
    exact ⟨rfl, Below.refl _ _⟩
  have hs0 : n0 ≤ 1048576 := by omega
  clear hbig0
  unfold maxLen at m1
  by_cases hbig1 : 1048576 < n1
  · go_enter Try.func12, Try.ntmps12
    go_wp2
    go_ret
    exact ⟨rfl, Below.refl _ _⟩
  have hs1 : n1 ≤ 1048576 := by omega
  clear hbig1
  go_enter Try.func12, Try.ntmps12
  go_wp2_with fail
  refine (toByteS_any A0 n0 c0 l0 _ (by omega) h0).mono ?_
  rintro e w1 ⟨A1_, n1_, c1_, rfl, o1, b1⟩
  have B1 : Below w.heap.size w w1 := b1
  have R1 := own_rng o1
  have hn1 : n1_ ≤ 1048576 := by have q1 := own_lenB o1; have q2 := h0.lenB; omega
  go_wp2_with fail
  refine (toByteS_any A1 n1 c1 l1 _ (by omega) (h1.below B1)).mono ?_
  rintro e w2 ⟨A2_, n2_, c2_, rfl, o2, b2⟩
  have B2 : Below w.heap.size w w2 := B1.trans (b2.mono B1.size)
  replace o1 := own_below o1 b2
  have R2 := own_rng o2
  have hn2 : n2_ ≤ 1048576 := by have q1 := own_lenB o2; have q2 := h1.lenB; omega
  go_wp2_with fail
  refine (specAppendBytes_any A1_ A2_ n1_ n2_ c1_ c2_ l0 l1 _ (by omega) (by omega) (Rd.of_own o1) (Rd.of_own o2)).mono ?_
  rintro e w3 ⟨A3_, n3_, c3_, rfl, o3, b3⟩
  have B3 : Below w.heap.size w w3 := B2.trans (b3.mono B2.size)
  replace o1 := own_below o1 b3
  replace o2 := own_below o2 b3
  have R3 := own_rng o3
  have hn3 : n3_ ≤ 4294967296 := by have q1 := own_lenB o3; have q2 := appB_len l0 l1; have q3 := h0.lenB; have q4 := h1.lenB; omega
  go_wp2_with fail
  refine (toByteS_any A0 n0 c0 l0 _ (by omega) (h0.below B3)).mono ?_
  rintro e w4 ⟨A4_, n4_, c4_, rfl, o4, b4⟩
  have B4 : Below w.heap.size w w4 := B3.trans (b4.mono B3.size)
  replace o3 := own_below o3 b4
  have R4 := own_rng o4
  have hn4 : n4_ ≤ 1048576 := by have q1 := own_lenB o4; have q2 := h0.lenB; omega
  go_wp2_with fail
  refine (toByteS_any A1 n1 c1 l1 _ (by omega) (h1.below B4)).mono ?_
  rintro e w5 ⟨A5_, n5_, c5_, rfl, o5, b5⟩
  have B5 : Below w.heap.size w w5 := B4.trans (b5.mono B4.size)
  replace o3 := own_below o3 b5
  replace o4 := own_below o4 b5
  have R5 := own_rng o5
  have hn5 : n5_ ≤ 1048576 := by have q1 := own_lenB o5; have q2 := h1.lenB; omega
  go_wp2_with fail
  refine (implAppendBytes_any A4_ A5_ n4_ n5_ c4_ c5_ l0 l1 _ (by omega) (by omega) (Rd.of_own o4) (Rd.of_own o5)).mono ?_
  rintro e w6 ⟨A6_, n6_, c6_, rfl, o6, b6⟩
  have B6 : Below w.heap.size w w6 := B5.trans (b6.mono B5.size)
  replace o3 := own_below o3 b6
  replace o4 := own_below o4 b6
  replace o5 := own_below o5 b6
  have R6 := own_rng o6
  have hn6 : n6_ ≤ 4294967296 := by have q1 := own_lenB o6; have q2 := appB_len l0 l1; have q3 := h0.lenB; have q4 := h1.lenB; omega
  go_wp2_with fail
  refine (eqByteS_any A6_ A3_ n6_ n3_ c6_ c3_ _ _ true _ (by unfold maxLen; omega) (by unfold maxLen; omega) (Rd.of_own o6) (Rd.of_own o3) (by simp)).mono ?_
  rintro e w7 ⟨rfl, b7⟩
  have B7 : Below w.heap.size w w7 := B6.trans (b7.mono B6.size)
  replace o3 := own_below o3 b7
  replace o4 := own_below o4 b7
  replace o5 := own_below o5 b7
  replace o6 := own_below o6 b7
  go_wp2_with fail
  refine (toByteS_any A0 n0 c0 l0 _ (by omega) (h0.below B7)).mono ?_
  rintro e w8 ⟨A8_, n8_, c8_, rfl, o8, b8⟩
  have B8 : Below w.heap.size w w8 := B7.trans (b8.mono B7.size)
  replace o3 := own_below o3 b8
  replace o4 := own_below o4 b8
  replace o5 := own_below o5 b8
  replace o6 := own_below o6 b8
  have R8 := own_rng o8
  have hn8 : n8_ ≤ 1048576 := by have q1 := own_lenB o8; have q2 := h0.lenB; omega
  go_wp2_with fail
  refine (eqByteS_any A4_ A8_ n4_ n8_ c4_ c8_ _ _ true _ (by unfold maxLen; omega) (by unfold maxLen; omega) (Rd.of_own o4) (Rd.of_own o8) (by simp)).mono ?_
  rintro e w9 ⟨rfl, b9⟩
  have B9 : Below w.heap.size w w9 := B8.trans (b9.mono B8.size)
  replace o3 := own_below o3 b9
  replace o4 := own_below o4 b9
  replace o5 := own_below o5 b9
  replace o6 := own_below o6 b9
  replace o8 := own_below o8 b9
  go_wp2_with fail
  refine (toByteS_any A1 n1 c1 l1 _ (by omega) (h1.below B9)).mono ?_
  rintro e w10 ⟨A10_, n10_, c10_, rfl, o10, b10⟩
  have B10 : Below w.heap.size w w10 := B9.trans (b10.mono B9.size)
  replace o3 := own_below o3 b10
  replace o4 := own_below o4 b10
  replace o5 := own_below o5 b10
  replace o6 := own_below o6 b10
  have R10 := own_rng o10
  have hn10 : n10_ ≤ 1048576 := by have q1 := own_lenB o10; have q2 := h1.lenB; omega
  go_wp2_with fail
  refine (eqByteS_any A5_ A10_ n5_ n10_ c5_ c10_ _ _ true _ (by unfold maxLen; omega) (by unfold maxLen; omega) (Rd.of_own o5) (Rd.of_own o10) (by simp)).mono ?_
  rintro e w11 ⟨rfl, b11⟩
  have B11 : Below w.heap.size w w11 := B10.trans (b11.mono B10.size)
  replace o3 := own_below o3 b11
  replace o4 := own_below o4 b11
  replace o5 := own_below o5 b11
  replace o6 := own_below o6 b11
  replace o10 := own_below o10 b11
  have sz1 := b1.size
  have sz2 := b2.size
  have sz3 := b3.size
  have sz4 := b4.size
  have sz5 := b5.size
  have sz6 := b6.size
  have sz7 := b7.size
  have sz8 := b8.size
  have sz9 := b9.size
  have sz10 := b10.size
  have sz11 := b11.size
  go_wp2_with fail
  refine (markByteS_any A4_ n4_ c4_ _ (1) _ _ (by omega) (by omega) o4).mono ?_
  rintro e w12 ⟨rfl, o4m, g12⟩
  have B12 : Below w.heap.size w w12 := B11.trans (grown_below g12 B11.size (fun ad h => Nat.le_trans B3.size (R4 ad h).1))
  have sz12 := g12.size
  replace o3 := own_grown o3 g12 (sep_rng R3 R4 (.inl (by omega)))
  replace o5 := own_grown o5 g12 (sep_rng R5 R4 (.inr (by omega)))
  replace o6 := own_grown o6 g12 (sep_rng R6 R4 (.inr (by omega)))
  replace o4 := o4m
  clear o4m
  go_wp2_with fail
  refine (markByteS_any A5_ n5_ c5_ _ (1 + (n4_ : Int)) _ _ (by omega) (by omega) o5).mono ?_
  rintro e w13 ⟨rfl, o5m, g13⟩
  have B13 : Below w.heap.size w w13 := B12.trans (grown_below g13 B12.size (fun ad h => Nat.le_trans B4.size (R5 ad h).1))
  have sz13 := g13.size
  replace o3 := own_grown o3 g13 (sep_rng R3 R5 (.inl (by omega)))
  replace o4 := own_grown o4 g13 (sep_rng R4 R5 (.inl (by omega)))
  replace o6 := own_grown o6 g13 (sep_rng R6 R5 (.inr (by omega)))
  replace o5 := o5m
  clear o5m
  go_wp2_with fail
  refine (eqByteS_any A6_ A3_ n6_ n3_ c6_ c3_ _ _ true _ (by unfold maxLen; omega) (by unfold maxLen; omega) (Rd.of_own o6) (Rd.of_own o3) (by simp)).mono ?_
  rintro e w14 ⟨rfl, b14⟩
  have B14 : Below w.heap.size w w14 := B13.trans (b14.mono B13.size)
  replace o3 := own_below o3 b14
  replace o4 := own_below o4 b14
  replace o5 := own_below o5 b14
  replace o6 := own_below o6 b14
  have sz14 := b14.size
  go_wp2_with fail
  refine (markByteS_any A6_ n6_ c6_ _ (1) _ _ (by omega) (by omega) o6).mono ?_
  rintro e w15 ⟨rfl, o6m, g15⟩
  have B15 : Below w.heap.size w w15 := B14.trans (grown_below g15 B14.size (fun ad h => Nat.le_trans B5.size (R6 ad h).1))
  have sz15 := g15.size
  replace o3 := own_grown o3 g15 (sep_rng R3 R6 (.inl (by omega)))
  replace o4 := own_grown o4 g15 (sep_rng R4 R6 (.inl (by omega)))
  replace o5 := own_grown o5 g15 (sep_rng R5 R6 (.inl (by omega)))
  replace o6 := o6m
  clear o6m
  go_wp2_with fail
  refine (heldByteS_any A6_ n6_ c6_ 1 _ (by omega) (by omega) (Rd.of_own o6)).mono ?_
  rintro e w16 ⟨rfl, b16⟩
  have B16 : Below w.heap.size w w16 := B15.trans (b16.mono B15.size)
  replace o3 := own_below o3 b16
  replace o6 := own_below o6 b16
  go_wp2_with fail
  refine (toByteS_any A0 n0 c0 l0 _ (by omega) (h0.below B16)).mono ?_
  rintro e w17 ⟨A17_, n17_, c17_, rfl, o17, b17⟩
  have B17 : Below w.heap.size w w17 := B16.trans (b17.mono B16.size)
  replace o3 := own_below o3 b17
  replace o6 := own_below o6 b17
  have R17 := own_rng o17
  have hn17 : n17_ ≤ 1048576 := by have q1 := own_lenB o17; have q2 := h0.lenB; omega
  go_wp2_with fail
  refine (toByteS_any A1 n1 c1 l1 _ (by omega) (h1.below B17)).mono ?_
  rintro e w18 ⟨A18_, n18_, c18_, rfl, o18, b18⟩
  have B18 : Below w.heap.size w w18 := B17.trans (b18.mono B17.size)
  replace o3 := own_below o3 b18
  replace o6 := own_below o6 b18
  replace o17 := own_below o17 b18
  have R18 := own_rng o18
  have hn18 : n18_ ≤ 1048576 := by have q1 := own_lenB o18; have q2 := h1.lenB; omega
  go_wp2_with fail
  refine (implAppendBytes_any A17_ A18_ n17_ n18_ c17_ c18_ l0 l1 _ (by omega) (by omega) (Rd.of_own o17) (Rd.of_own o18)).mono ?_
  rintro e w19 ⟨A19_, n19_, c19_, rfl, o19, b19⟩
  have B19 : Below w.heap.size w w19 := B18.trans (b19.mono B18.size)
  replace o3 := own_below o3 b19
  replace o6 := own_below o6 b19
  replace o17 := own_below o17 b19
  replace o18 := own_below o18 b19
  have R19 := own_rng o19
  have hn19 : n19_ ≤ 4294967296 := by have q1 := own_lenB o19; have q2 := appB_len l0 l1; have q3 := h0.lenB; have q4 := h1.lenB; omega
  go_wp2_with fail
  refine (eqByteS_any A19_ A3_ n19_ n3_ c19_ c3_ _ _ true _ (by unfold maxLen; omega) (by unfold maxLen; omega) (Rd.of_own o19) (Rd.of_own o3) (by simp)).mono ?_
  rintro e w20 ⟨rfl, b20⟩
  have B20 : Below w.heap.size w w20 := B19.trans (b20.mono B19.size)
  replace o3 := own_below o3 b20
  replace o6 := own_below o6 b20
  replace o19 := own_below o19 b20
  go_wp2_with fail
  refine (heldByteS_any A6_ n6_ c6_ 1 _ (by omega) (by omega) (Rd.of_own o6)).mono ?_
  rintro e w21 ⟨rfl, b21⟩
  have B21 : Below w.heap.size w w21 := B20.trans (b21.mono B20.size)
  replace o3 := own_below o3 b21
  replace o6 := own_below o6 b21
  replace o19 := own_below o19 b21
  go_wp2
  go_ret
  exact ⟨rfl, B21⟩

set_option maxRecDepth 100000 in
theorem lifted (os : Os) (started : os.Started) (H : Type) (enc : TypeId × Value → H) :
    ReturnsInHanded {} Try.checked os 12 .any (Rows.fnExactAppendBytesSpec.pre6 enc Try.prog Try.f12 Rows.fnExactAppendBytesRow.domain false) (Rows.fnExactAppendBytesSpec.post enc Try.prog Try.f12 false true false false) := by
  refine returnsInHanded_of_change (C := Try.checked) own started (by kernel_rfl) Try.func12
    (ChangeSpec.witness6 (enc := enc) (C := Try.checked) false ⟨#[], #[.slice none 0 0, .slice none 0 0], []⟩ 8 (by kernel_rfl) (by kernel_rfl) (by kernel_rfl) (by kernel_rfl)) ?_
  intro W base args ds gs before hval0 hW hcnd _
  have hval : ∀ (j : Nat) t v, Try.f12.params[j]? = some t → args[j]? = some v → Value.okWide Try.prog W .any base t v := hval0
  have hW' := hW
  obtain ⟨p, q, hA0, hV, rfl, hfz, hnd⟩ := hW
  have hA : DataW.TrodAll enc Try.prog W 0 (fun _ => true) true Try.f12.params.toList args.toList ds p := hA0
  rw [Try.params12] at hA hval
  obtain ⟨v0, vs0, d0, ds0, p0, q0, hargs, rfl, rfl, h0, z0⟩ := trodAll_cons hA
  obtain ⟨v1, vs1, d1, ds1, p1, q1, rfl, rfl, rfl, h1, z1⟩ := trodAll_cons z0
  obtain ⟨rfl, rfl, rfl⟩ := trodAll_nil z1
  obtain rfl : args = #[v0, v1] := by cases args; simp_all
  obtain ⟨rfl, rfl⟩ := trodVars_none hV
  obtain ⟨A0, n0, c0, rfl⟩ := okWide_slice Try.underlying25 (hval 0 25 v0 rfl rfl)
  obtain ⟨fu0, hf0⟩ := h0
  obtain ⟨l0, k0, m0⟩ := open_bytes Try.underlying25 Try.underlying5 cellsU8 hf0
  obtain ⟨A1, n1, c1, rfl⟩ := okWide_slice Try.underlying25 (hval 1 25 v1 rfl rfl)
  obtain ⟨fu1, hf1⟩ := h1
  obtain ⟨l1, k1, m1⟩ := open_bytes Try.underlying25 Try.underlying5 cellsU8 hf1
  clear hA0 hval0
  exact (walk W A0 n0 c0 l0 k0 m0 A1 n1 c1 l1 k1 m1).mono fun e W' ⟨he, hb⟩ => ⟨_, he, law_post laidOut (by kernel_rfl) (tb := 4) rfl Try.underlying4 rfl hW' rfl hb⟩

theorem proved : Rows.FnExactAppendBytesSaid :=
  OpenClaim.holds_of_wide 12 Try.f12 rfl rfl rfl rfl rfl rfl rfl ⟨rfl, rfl, rfl, rfl, rfl⟩ rfl rfl rfl rfl rfl (by kernel_rfl) Try.func12 (joined_of (by kernel_rfl))
    (of_decide_eq_true (by kernel_rfl)) (by unfold Func.isWrapper; first | (rw [if_pos (by decide +kernel)]; kernel_rfl) | (rw [if_neg (by decide +kernel)]; exact ⟨rfl, rfl⟩))
    (fun os started H enc _ => lifted os started H enc)
#print axioms proved
end Go.Proofs.Yteddjniecibjaaa.fnExactAppendBytes
