/-
  Proved: the law FnExactEncodeKey answers true for every input and changes nothing that was there: the program's EncodeKey returns what the reference's EncodeKey returns. Conditions: none beyond those of the row.
  By an AI agent; no person has read it.
-/
import Derived.Test.YtnbhdijmbpdgoaaLaw
import Derived.Test.YtnbhdijmbpdgoaaOpenK
import Derived.Test.YtnbhdijmbpdgoaaKeyL
import Derived.Test.YtnbhdijmbpdgoaaKeyE
import Derived.Test.YtnbhdijmbpdgoaaEq
import Derived.Test.YtnbhdijmbpdgoaaMark
namespace Go.Proofs.Ytnbhdijmbpdgoaa.fnExactEncodeKey
open Go.ChangeShapes Go.WideShapes Go.ChangeAt Go.RowKit
open Go.ChangeMaps (open_string)
set_option linter.unusedVariables false

set_option maxHeartbeats 1000000 in
theorem walk (w : World) (k0 n0 : Int) (s0 : ByteArray) (m0 : s0.size ≤ maxLen) (rk0 : -9223372036854775808 ≤ k0 ∧ k0 ≤ 9223372036854775807) (rn0 : -9223372036854775808 ≤ n0 ∧ n0 ≤ 9223372036854775807) :
    Calls Try.prog 5 #[.agg #[.int .i64 k0, .int .i64 n0, .string s0]] w fun e w' => e = .returned (.bool true) ∧ Below w.heap.size w w' := by
  unfold maxLen at m0
  by_cases hb0 : (1048576 : Int) < s0.size
  · go_enter Try.func5, Try.ntmps5
    go_wp2_with fail
    refine (szKey_big k0 n0 s0 1048576 _ m0 (by omega) (by omega) hb0).mono ?_
    rintro e w1 ⟨rfl, rfl⟩
    go_wp2
    go_ret
    refine ⟨rfl, ?_⟩
    repeat refine al ?_
    exact Below.refl _ _
  have hs0 : (s0.size : Int) ≤ 1048576 := by omega
  clear hb0
  obtain ⟨l, hl⟩ : ∃ l, l = encK k0 n0 s0 := ⟨_, rfl⟩
  have hll : l.length ≤ 19 := by rw [hl]; exact encK_len _ _ _
  have HL := Lib.hid hl
  clear hl
  go_enter Try.func5, Try.ntmps5
  go_wp2_with fail
  refine (szKey_okB k0 n0 s0 1048576 _ m0 (by omega) (by omega) hs0).mono ?_
  rintro e w1 ⟨rfl, b1⟩
  have B1 : Below w.heap.size w w1 := Below.trans (al (Below.refl _ _)) (b1.mono (by simp))
  have c0 : w1.cell? ⟨w.heap.size, 0, none⟩ = some (.int .i64 k0) := kcell b1 (by simp)
  have c1 : w1.cell? ⟨w.heap.size, 1, none⟩ = some (.int .i64 n0) := kcell b1 (by simp)
  have c2 : w1.cell? ⟨w.heap.size, 2, none⟩ = some (.string s0) := kcell b1 (by simp)
  have hz1 : w.heap.size + 1 ≤ w1.heap.size := by have := b1.size; simp at this; omega
  clear b1
  go_wp2_with fail
  refine (toKey_any k0 n0 s0 _).mono ?_
  rintro e w2 ⟨rfl, b2⟩
  have B2 : Below w.heap.size w w2 := B1.trans (b2.mono B1.size)
  replace c0 := kcell b2 c0
  replace c1 := kcell b2 c1
  replace c2 := kcell b2 c2
  go_wp2_with fail
  refine (specEncodeKey_l l k0 n0 s0 _ (by unfold maxLen; omega) HL.out).mono ?_
  rintro e w3 ⟨A3_, n3_, c3_, rfl, o3, b3⟩
  have B3 : Below w.heap.size w w3 := B2.trans (b3.mono B2.size)
  replace c0 := kcell b3 c0
  replace c1 := kcell b3 c1
  replace c2 := kcell b3 c2
  have R3 := own_rng o3
  have hn3 : n3_ ≤ 1048576 := by have q1 := own_lenB o3; skip; omega
  go_wp2_with fail
  refine (toKey_any k0 n0 s0 _).mono ?_
  rintro e w4 ⟨rfl, b4⟩
  have B4 : Below w.heap.size w w4 := B3.trans (b4.mono B3.size)
  replace c0 := kcell b4 c0
  replace c1 := kcell b4 c1
  replace c2 := kcell b4 c2
  replace o3 := own_below o3 b4
  go_wp2_with fail
  refine (implEncodeKey_l l k0 n0 s0 _ (by unfold maxLen; omega) HL.out).mono ?_
  rintro e w5 ⟨A5_, n5_, c5_, rfl, o5, b5⟩
  have B5 : Below w.heap.size w w5 := B4.trans (b5.mono B4.size)
  replace c0 := kcell b5 c0
  replace c1 := kcell b5 c1
  replace c2 := kcell b5 c2
  replace o3 := own_below o3 b5
  have R5 := own_rng o5
  have hn5 : n5_ ≤ 1048576 := by have q1 := own_lenB o5; skip; omega
  go_wp2_with fail
  refine (eqByteS_any A5_ A3_ n5_ n3_ c5_ c3_ _ _ true _ (by unfold maxLen; omega) (by unfold maxLen; omega) (Rd.of_own o5) (Rd.of_own o3) (by simp)).mono ?_
  rintro e w6 ⟨rfl, b6⟩
  have B6 : Below w.heap.size w w6 := B5.trans (b6.mono B5.size)
  replace c0 := kcell b6 c0
  replace c1 := kcell b6 c1
  replace c2 := kcell b6 c2
  replace o3 := own_below o3 b6
  replace o5 := own_below o5 b6
  have sz2 := b2.size; have sz3 := b3.size; have sz4 := b4.size; have sz5 := b5.size; have sz6 := b6.size
  have BS : w.heap.size ≤ w4.heap.size := B4.size
  go_wp2_with fail
  refine (markByteS_any A5_ n5_ c5_ _ 1 _ _ (by omega) (by omega) o5).mono ?_
  rintro e w7 ⟨rfl, om, g7⟩
  have B7 : Below w.heap.size w w7 := B6.trans (grown_below g7 B6.size (fun ad h => Nat.le_trans BS (R5 ad h).1))
  replace c0 := cell_far g7 c0 (fun ad ha => by have q := (R5 ad ha).1; omega)
  replace c1 := cell_far g7 c1 (fun ad ha => by have q := (R5 ad ha).1; omega)
  replace c2 := cell_far g7 c2 (fun ad ha => by have q := (R5 ad ha).1; omega)
  replace o3 := own_grown o3 g7 (sep_rng R3 R5 (.inl (by omega)))
  replace o5 := om
  clear om
  go_wp2_with fail
  refine (heldByteS_any A5_ n5_ c5_ 1 _ (by omega) (by omega) (Rd.of_own o5)).mono ?_
  rintro e w8 ⟨rfl, b8⟩
  have B8 : Below w.heap.size w w8 := B7.trans (b8.mono B7.size)
  replace c0 := kcell b8 c0
  replace c1 := kcell b8 c1
  replace c2 := kcell b8 c2
  replace o3 := own_below o3 b8
  replace o5 := own_below o5 b8
  go_wp2_with fail
  refine (toKey_any k0 n0 s0 _).mono ?_
  rintro e w9 ⟨rfl, b9⟩
  have B9 : Below w.heap.size w w9 := B8.trans (b9.mono B8.size)
  replace c0 := kcell b9 c0
  replace c1 := kcell b9 c1
  replace c2 := kcell b9 c2
  replace o3 := own_below o3 b9
  replace o5 := own_below o5 b9
  go_wp2_with fail
  refine (implEncodeKey_l l k0 n0 s0 _ (by unfold maxLen; omega) HL.out).mono ?_
  rintro e w10 ⟨A10_, n10_, c10_, rfl, o10, b10⟩
  have B10 : Below w.heap.size w w10 := B9.trans (b10.mono B9.size)
  replace c0 := kcell b10 c0
  replace c1 := kcell b10 c1
  replace c2 := kcell b10 c2
  replace o3 := own_below o3 b10
  replace o5 := own_below o5 b10
  have R10 := own_rng o10
  have hn10 : n10_ ≤ 1048576 := by have q1 := own_lenB o10; skip; omega
  go_wp2_with fail
  refine (eqByteS_any A10_ A3_ n10_ n3_ c10_ c3_ _ _ true _ (by unfold maxLen; omega) (by unfold maxLen; omega) (Rd.of_own o10) (Rd.of_own o3) (by simp)).mono ?_
  rintro e w11 ⟨rfl, b11⟩
  have B11 : Below w.heap.size w w11 := B10.trans (b11.mono B10.size)
  replace c0 := kcell b11 c0
  replace c1 := kcell b11 c1
  replace c2 := kcell b11 c2
  replace o3 := own_below o3 b11
  replace o5 := own_below o5 b11
  replace o10 := own_below o10 b11
  go_wp2_with fail
  refine (heldByteS_any A5_ n5_ c5_ 1 _ (by omega) (by omega) (Rd.of_own o5)).mono ?_
  rintro e w12 ⟨rfl, b12⟩
  have B12 : Below w.heap.size w w12 := B11.trans (b12.mono B11.size)
  replace c0 := kcell b12 c0
  replace c1 := kcell b12 c1
  replace c2 := kcell b12 c2
  replace o3 := own_below o3 b12
  replace o5 := own_below o5 b12
  replace o10 := own_below o10 b12
  go_wp2
  go_ret
  exact ⟨rfl, B12⟩

set_option maxRecDepth 100000 in
theorem lifted (os : Os) (started : os.Started) (H : Type) (enc : TypeId × Value → H) :
    ReturnsInHanded {} Try.checked os 5 .any (Rows.fnExactEncodeKeySpec.pre6 enc Try.prog Try.f5 Rows.fnExactEncodeKeyRow.domain false) (Rows.fnExactEncodeKeySpec.post enc Try.prog Try.f5 false true false false) := by
  refine returnsInHanded_of_change (C := Try.checked) own started (by kernel_rfl) Try.func5
    (ChangeSpec.witness6 (enc := enc) (C := Try.checked) false ⟨#[], #[.agg #[.int .i64 0, .int .i64 0, .string ⟨#[]⟩]], []⟩ 8 (by kernel_rfl) (by kernel_rfl) (by kernel_rfl) (by kernel_rfl)) ?_
  intro W base args ds gs before hval0 hW hcnd _
  have hval : ∀ (j : Nat) t v, Try.f5.params[j]? = some t → args[j]? = some v → Value.okWide Try.prog W .any base t v := hval0
  have hW' := hW
  obtain ⟨p, q, hA0, hV, rfl, hfz, hnd⟩ := hW
  have hA : DataW.TrodAll enc Try.prog W 0 (fun _ => true) true Try.f5.params.toList args.toList ds p := hA0
  rw [Try.params5] at hA hval
  obtain ⟨v0, vs0, d0, ds0, p0, q0, hargs, rfl, rfl, h0, z0⟩ := trodAll_cons hA
  obtain ⟨rfl, rfl, rfl⟩ := trodAll_nil z0
  obtain rfl : args = #[v0] := by cases args; simp_all
  obtain ⟨rfl, rfl⟩ := trodVars_none hV
  obtain ⟨k0, n0, s0, rfl, rk0, rn0, m0⟩ := open_key (hval 0 23 v0 rfl rfl) h0
  clear hA0 hval0
  exact (walk W k0 n0 s0 m0 rk0 rn0).mono fun e W' ⟨he, hb⟩ => ⟨_, he, law_post laidOut (by kernel_rfl) (tb := 4) rfl Try.underlying4 rfl hW' rfl hb⟩

theorem proved : Rows.FnExactEncodeKeySaid :=
  OpenClaim.holds_of_wide 5 Try.f5 rfl rfl rfl rfl rfl rfl rfl ⟨rfl, rfl, rfl, rfl, rfl⟩ rfl rfl rfl rfl rfl (by kernel_rfl) Try.func5 (joined_of (by kernel_rfl))
    (of_decide_eq_true (by kernel_rfl)) (by unfold Func.isWrapper; first | (rw [if_pos (by decide +kernel)]; kernel_rfl) | (rw [if_neg (by decide +kernel)]; exact ⟨rfl, rfl⟩))
    (fun os started H enc _ => lifted os started H enc)
#print axioms proved
end Go.Proofs.Ytnbhdijmbpdgoaa.fnExactEncodeKey
