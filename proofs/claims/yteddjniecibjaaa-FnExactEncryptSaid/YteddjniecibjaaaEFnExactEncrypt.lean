/-
  Proved: the law FnExactEncrypt answers true for every input and changes nothing that was there: the program's Encrypt returns what the reference's Encrypt returns. Conditions: none beyond those of the row.
  By an AI agent; no person has read it.
-/
import Derived.Test.YteddjniecibjaaaLaw
import Derived.Test.YteddjniecibjaaaEq
import Derived.Test.YteddjniecibjaaaTo
import Derived.Test.YteddjniecibjaaaMark
import Derived.Test.YteddjniecibjaaaEncS
namespace Go.Proofs.Yteddjniecibjaaa.fnExactEncrypt
open Go.ChangeShapes Go.WideShapes Go.ChangeAt Go.RowKit
open Go.ChangeMaps (open_string)
set_option linter.unusedVariables false

set_option maxHeartbeats 1000000 in
theorem walk (w : World) (a0 : Int) (h0 : -9223372036854775808 ≤ a0 ∧ a0 ≤ 9223372036854775807) (A1 : Option Addr) (n1 c1 : Nat) (l1 : List UInt8) (h1 : Rd w 1 A1 n1 (l1.map bv)) (m1 : n1 ≤ maxLen) :
    Calls Try.prog 17 #[.int .i64 a0, .slice A1 n1 c1] w fun e w' => e = .returned (.bool true) ∧ Below w.heap.size w w' := by
  unfold maxLen at m1
  by_cases hbig1 : 1048576 < n1
  · go_enter Try.func17, Try.ntmps17
    go_wp2
    go_ret
    exact ⟨rfl, Below.refl _ _⟩
  have hs1 : n1 ≤ 1048576 := by omega
  clear hbig1
  go_enter Try.func17, Try.ntmps17
  go_wp2_with fail
  refine (toByteS_any A1 n1 c1 l1 _ (by omega) h1).mono ?_
  rintro e w1 ⟨A1_, n1_, c1_, rfl, o1, b1⟩
  have B1 : Below w.heap.size w w1 := b1
  have R1 := own_rng o1
  have hn1 : n1_ ≤ 1048576 := by have q1 := own_lenB o1; have q2 := h1.lenB; omega
  go_wp2_with fail
  refine (specEncrypt_any a0 A1_ n1_ c1_ l1 _ (by omega) h0 (Rd.of_own o1)).mono ?_
  rintro e w2 ⟨A2_, n2_, c2_, rfl, o2, b2⟩
  have B2 : Below w.heap.size w w2 := B1.trans (b2.mono B1.size)
  replace o1 := own_below o1 b2
  have R2 := own_rng o2
  have hn2 : n2_ ≤ 4294967296 := by have q1 := own_lenB o2; have q2 := encF_len a0 l1; have q3 := h1.lenB; omega
  go_wp2_with fail
  refine (toByteS_any A1 n1 c1 l1 _ (by omega) (h1.below B2)).mono ?_
  rintro e w3 ⟨A3_, n3_, c3_, rfl, o3, b3⟩
  have B3 : Below w.heap.size w w3 := B2.trans (b3.mono B2.size)
  replace o2 := own_below o2 b3
  have R3 := own_rng o3
  have hn3 : n3_ ≤ 1048576 := by have q1 := own_lenB o3; have q2 := h1.lenB; omega
  go_wp2_with fail
  refine (implEncrypt_any a0 A3_ n3_ c3_ l1 _ (by omega) h0 (Rd.of_own o3)).mono ?_
  rintro e w4 ⟨A4_, n4_, c4_, rfl, o4, b4⟩
  have B4 : Below w.heap.size w w4 := B3.trans (b4.mono B3.size)
  replace o2 := own_below o2 b4
  replace o3 := own_below o3 b4
  have R4 := own_rng o4
  have hn4 : n4_ ≤ 4294967296 := by have q1 := own_lenB o4; have q2 := encF_len a0 l1; have q3 := h1.lenB; omega
  go_wp2_with fail
  refine (eqByteS_any A4_ A2_ n4_ n2_ c4_ c2_ _ _ true _ (by unfold maxLen; omega) (by unfold maxLen; omega) (Rd.of_own o4) (Rd.of_own o2) (by simp)).mono ?_
  rintro e w5 ⟨rfl, b5⟩
  have B5 : Below w.heap.size w w5 := B4.trans (b5.mono B4.size)
  replace o2 := own_below o2 b5
  replace o3 := own_below o3 b5
  replace o4 := own_below o4 b5
  go_wp2_with fail
  refine (toByteS_any A1 n1 c1 l1 _ (by omega) (h1.below B5)).mono ?_
  rintro e w6 ⟨A6_, n6_, c6_, rfl, o6, b6⟩
  have B6 : Below w.heap.size w w6 := B5.trans (b6.mono B5.size)
  replace o2 := own_below o2 b6
  replace o3 := own_below o3 b6
  replace o4 := own_below o4 b6
  have R6 := own_rng o6
  have hn6 : n6_ ≤ 1048576 := by have q1 := own_lenB o6; have q2 := h1.lenB; omega
  go_wp2_with fail
  refine (eqByteS_any A3_ A6_ n3_ n6_ c3_ c6_ _ _ true _ (by unfold maxLen; omega) (by unfold maxLen; omega) (Rd.of_own o3) (Rd.of_own o6) (by simp)).mono ?_
  rintro e w7 ⟨rfl, b7⟩
  have B7 : Below w.heap.size w w7 := B6.trans (b7.mono B6.size)
  replace o2 := own_below o2 b7
  replace o3 := own_below o3 b7
  replace o4 := own_below o4 b7
  replace o6 := own_below o6 b7
  have sz1 := b1.size
  have sz2 := b2.size
  have sz3 := b3.size
  have sz4 := b4.size
  have sz5 := b5.size
  have sz6 := b6.size
  have sz7 := b7.size
  go_wp2_with fail
  refine (markByteS_any A3_ n3_ c3_ _ (1) _ _ (by omega) (by omega) o3).mono ?_
  rintro e w8 ⟨rfl, o3m, g8⟩
  have B8 : Below w.heap.size w w8 := B7.trans (grown_below g8 B7.size (fun ad h => Nat.le_trans B2.size (R3 ad h).1))
  have sz8 := g8.size
  replace o2 := own_grown o2 g8 (sep_rng R2 R3 (.inl (by omega)))
  replace o4 := own_grown o4 g8 (sep_rng R4 R3 (.inr (by omega)))
  replace o3 := o3m
  clear o3m
  go_wp2_with fail
  refine (eqByteS_any A4_ A2_ n4_ n2_ c4_ c2_ _ _ true _ (by unfold maxLen; omega) (by unfold maxLen; omega) (Rd.of_own o4) (Rd.of_own o2) (by simp)).mono ?_
  rintro e w9 ⟨rfl, b9⟩
  have B9 : Below w.heap.size w w9 := B8.trans (b9.mono B8.size)
  replace o2 := own_below o2 b9
  replace o3 := own_below o3 b9
  replace o4 := own_below o4 b9
  have sz9 := b9.size
  go_wp2_with fail
  refine (markByteS_any A4_ n4_ c4_ _ (1) _ _ (by omega) (by omega) o4).mono ?_
  rintro e w10 ⟨rfl, o4m, g10⟩
  have B10 : Below w.heap.size w w10 := B9.trans (grown_below g10 B9.size (fun ad h => Nat.le_trans B3.size (R4 ad h).1))
  have sz10 := g10.size
  replace o2 := own_grown o2 g10 (sep_rng R2 R4 (.inl (by omega)))
  replace o3 := own_grown o3 g10 (sep_rng R3 R4 (.inl (by omega)))
  replace o4 := o4m
  clear o4m
  go_wp2_with fail
  refine (heldByteS_any A4_ n4_ c4_ 1 _ (by omega) (by omega) (Rd.of_own o4)).mono ?_
  rintro e w11 ⟨rfl, b11⟩
  have B11 : Below w.heap.size w w11 := B10.trans (b11.mono B10.size)
  replace o2 := own_below o2 b11
  replace o4 := own_below o4 b11
  go_wp2_with fail
  refine (toByteS_any A1 n1 c1 l1 _ (by omega) (h1.below B11)).mono ?_
  rintro e w12 ⟨A12_, n12_, c12_, rfl, o12, b12⟩
  have B12 : Below w.heap.size w w12 := B11.trans (b12.mono B11.size)
  replace o2 := own_below o2 b12
  replace o4 := own_below o4 b12
  have R12 := own_rng o12
  have hn12 : n12_ ≤ 1048576 := by have q1 := own_lenB o12; have q2 := h1.lenB; omega
  go_wp2_with fail
  refine (implEncrypt_any a0 A12_ n12_ c12_ l1 _ (by omega) h0 (Rd.of_own o12)).mono ?_
  rintro e w13 ⟨A13_, n13_, c13_, rfl, o13, b13⟩
  have B13 : Below w.heap.size w w13 := B12.trans (b13.mono B12.size)
  replace o2 := own_below o2 b13
  replace o4 := own_below o4 b13
  replace o12 := own_below o12 b13
  have R13 := own_rng o13
  have hn13 : n13_ ≤ 4294967296 := by have q1 := own_lenB o13; have q2 := encF_len a0 l1; have q3 := h1.lenB; omega
  go_wp2_with fail
  refine (eqByteS_any A13_ A2_ n13_ n2_ c13_ c2_ _ _ true _ (by unfold maxLen; omega) (by unfold maxLen; omega) (Rd.of_own o13) (Rd.of_own o2) (by simp)).mono ?_
  rintro e w14 ⟨rfl, b14⟩
  have B14 : Below w.heap.size w w14 := B13.trans (b14.mono B13.size)
  replace o2 := own_below o2 b14
  replace o4 := own_below o4 b14
  replace o13 := own_below o13 b14
  go_wp2_with fail
  refine (heldByteS_any A4_ n4_ c4_ 1 _ (by omega) (by omega) (Rd.of_own o4)).mono ?_
  rintro e w15 ⟨rfl, b15⟩
  have B15 : Below w.heap.size w w15 := B14.trans (b15.mono B14.size)
  replace o2 := own_below o2 b15
  replace o4 := own_below o4 b15
  replace o13 := own_below o13 b15
  go_wp2
  go_ret
  exact ⟨rfl, B15⟩

set_option maxRecDepth 100000 in
theorem lifted (os : Os) (started : os.Started) (H : Type) (enc : TypeId × Value → H) :
    ReturnsInHanded {} Try.checked os 17 .any (Rows.fnExactEncryptSpec.pre6 enc Try.prog Try.f17 Rows.fnExactEncryptRow.domain false) (Rows.fnExactEncryptSpec.post enc Try.prog Try.f17 false true false false) := by
  refine returnsInHanded_of_change (C := Try.checked) own started (by kernel_rfl) Try.func17
    (ChangeSpec.witness6 (enc := enc) (C := Try.checked) false ⟨#[], #[.int .i64 0, .slice none 0 0], []⟩ 8 (by kernel_rfl) (by kernel_rfl) (by kernel_rfl) (by kernel_rfl)) ?_
  intro W base args ds gs before hval0 hW hcnd _
  have hval : ∀ (j : Nat) t v, Try.f17.params[j]? = some t → args[j]? = some v → Value.okWide Try.prog W .any base t v := hval0
  have hW' := hW
  obtain ⟨p, q, hA0, hV, rfl, hfz, hnd⟩ := hW
  have hA : DataW.TrodAll enc Try.prog W 0 (fun _ => true) true Try.f17.params.toList args.toList ds p := hA0
  rw [Try.params17] at hA hval
  obtain ⟨v0, vs0, d0, ds0, p0, q0, hargs, rfl, rfl, h0, z0⟩ := trodAll_cons hA
  obtain ⟨v1, vs1, d1, ds1, p1, q1, rfl, rfl, rfl, h1, z1⟩ := trodAll_cons z0
  obtain ⟨rfl, rfl, rfl⟩ := trodAll_nil z1
  obtain rfl : args = #[v0, v1] := by cases args; simp_all
  obtain ⟨rfl, rfl⟩ := trodVars_none hV
  obtain ⟨a0, rfl, rfl, rfl, w0⟩ := open_int Try.underlying3 (hval 0 3 v0 rfl rfl) h0
  obtain ⟨A1, n1, c1, rfl⟩ := okWide_slice Try.underlying25 (hval 1 25 v1 rfl rfl)
  obtain ⟨fu1, hf1⟩ := h1
  obtain ⟨l1, k1, m1⟩ := open_bytes Try.underlying25 Try.underlying5 cellsU8 hf1
  clear hA0 hval0
  exact (walk W a0 (wf_range w0) A1 n1 c1 l1 k1 m1).mono fun e W' ⟨he, hb⟩ => ⟨_, he, law_post laidOut (by kernel_rfl) (tb := 4) rfl Try.underlying4 rfl hW' rfl hb⟩

theorem proved : Rows.FnExactEncryptSaid :=
  OpenClaim.holds_of_wide 17 Try.f17 rfl rfl rfl rfl rfl rfl rfl ⟨rfl, rfl, rfl, rfl, rfl⟩ rfl rfl rfl rfl rfl (by kernel_rfl) Try.func17 (joined_of (by kernel_rfl))
    (of_decide_eq_true (by kernel_rfl)) (by unfold Func.isWrapper; first | (rw [if_pos (by decide +kernel)]; kernel_rfl) | (rw [if_neg (by decide +kernel)]; exact ⟨rfl, rfl⟩))
    (fun os started H enc _ => lifted os started H enc)
#print axioms proved
end Go.Proofs.Yteddjniecibjaaa.fnExactEncrypt
