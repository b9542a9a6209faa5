/-
  Proved: the law FnExactInRangeOf answers true for every input and changes nothing that was there: the program's InRangeOf returns what the reference's InRangeOf returns. Conditions: none beyond those of the row.
  By an AI agent; no person has read it.
-/
import Derived.Test.YtnbhdijmbpdgoaaLaw
import Derived.Test.YtnbhdijmbpdgoaaOpenK
import Derived.Test.YtnbhdijmbpdgoaaKeyL
import Derived.Test.YtnbhdijmbpdgoaaKeyR
import Derived.Test.YtnbhdijmbpdgoaaHeld
namespace Go.Proofs.Ytnbhdijmbpdgoaa.fnExactInRangeOf
open Go.ChangeShapes Go.WideShapes Go.ChangeAt Go.RowKit
open Go.ChangeMaps (open_string)
set_option linter.unusedVariables false
theorem ks_step {w0 W W1 : World} {B : Nat} {p0 p1 p2 p3 p4 p5 p6 p7 p8 p9 p10 : Addr} {x0 x1 x2 x3 x4 x5 x6 x7 x8 x9 x10 : Value} (h : Below w0.heap.size w0 W ∧ W.cell? p0 = some x0 ∧ W.cell? p1 = some x1 ∧ W.cell? p2 = some x2 ∧ W.cell? p3 = some x3 ∧ W.cell? p4 = some x4 ∧ W.cell? p5 = some x5 ∧ W.cell? p6 = some x6 ∧ W.cell? p7 = some x7 ∧ W.cell? p8 = some x8 ∧ W.cell? p9 = some x9 ∧ W.cell? p10 = some x10) (hb0 : Below B W W1) (e : B = W.heap.size) : Below w0.heap.size w0 W1 ∧ W1.cell? p0 = some x0 ∧ W1.cell? p1 = some x1 ∧ W1.cell? p2 = some x2 ∧ W1.cell? p3 = some x3 ∧ W1.cell? p4 = some x4 ∧ W1.cell? p5 = some x5 ∧ W1.cell? p6 = some x6 ∧ W1.cell? p7 = some x7 ∧ W1.cell? p8 = some x8 ∧ W1.cell? p9 = some x9 ∧ W1.cell? p10 = some x10 := by
  have hb : Below W.heap.size W W1 := e ▸ hb0
  exact ⟨h.1.trans (hb.mono h.1.size), (hb.cell (World.block_lt_of_cell? W _ h.2.1)).trans h.2.1, (hb.cell (World.block_lt_of_cell? W _ h.2.2.1)).trans h.2.2.1, (hb.cell (World.block_lt_of_cell? W _ h.2.2.2.1)).trans h.2.2.2.1, (hb.cell (World.block_lt_of_cell? W _ h.2.2.2.2.1)).trans h.2.2.2.2.1, (hb.cell (World.block_lt_of_cell? W _ h.2.2.2.2.2.1)).trans h.2.2.2.2.2.1, (hb.cell (World.block_lt_of_cell? W _ h.2.2.2.2.2.2.1)).trans h.2.2.2.2.2.2.1, (hb.cell (World.block_lt_of_cell? W _ h.2.2.2.2.2.2.2.1)).trans h.2.2.2.2.2.2.2.1, (hb.cell (World.block_lt_of_cell? W _ h.2.2.2.2.2.2.2.2.1)).trans h.2.2.2.2.2.2.2.2.1, (hb.cell (World.block_lt_of_cell? W _ h.2.2.2.2.2.2.2.2.2.1)).trans h.2.2.2.2.2.2.2.2.2.1, (hb.cell (World.block_lt_of_cell? W _ h.2.2.2.2.2.2.2.2.2.2.1)).trans h.2.2.2.2.2.2.2.2.2.2.1, (hb.cell (World.block_lt_of_cell? W _ h.2.2.2.2.2.2.2.2.2.2.2)).trans h.2.2.2.2.2.2.2.2.2.2.2⟩

set_option maxHeartbeats 1000000 in
theorem walk (w : World) (k0 n0 : Int) (s0 : ByteArray) (m0 : s0.size ≤ maxLen) (rk0 : -9223372036854775808 ≤ k0 ∧ k0 ≤ 9223372036854775807) (rn0 : -9223372036854775808 ≤ n0 ∧ n0 ≤ 9223372036854775807) (ha1 hb1 : Bool) (k1 n1 : Int) (s1 : ByteArray) (k1_ n1_ : Int) (s1_ : ByteArray) (m1 : s1.size ≤ maxLen) (rk1 : -9223372036854775808 ≤ k1 ∧ k1 ≤ 9223372036854775807) (rn1 : -9223372036854775808 ≤ n1 ∧ n1 ≤ 9223372036854775807) (m1_ : s1_.size ≤ maxLen) (rk1_ : -9223372036854775808 ≤ k1_ ∧ k1_ ≤ 9223372036854775807) (rn1_ : -9223372036854775808 ≤ n1_ ∧ n1_ ≤ 9223372036854775807) :
    Calls Try.prog 6 #[.agg #[.int .i64 k0, .int .i64 n0, .string s0], .agg #[.bool ha1, .bool hb1, .int .i64 k1, .int .i64 n1, .string s1, .int .i64 k1_, .int .i64 n1_, .string s1_]] w fun e w' => e = .returned (.bool true) ∧ Below w.heap.size w w' := by
  unfold maxLen at m0 m1 m1_
  by_cases hb0 : (1048576 : Int) < s0.size
  · go_enter Try.func6, Try.ntmps6
    go_wp2_with fail
    refine (szKey_big k0 n0 s0 1048576 _ m0 (by omega) (by omega) hb0).mono ?_
    rintro e w1 ⟨rfl, rfl⟩
    go_wp2
    go_ret
    refine ⟨rfl, ?_⟩
    repeat refine al ?_
    exact Below.refl _ _
  have hs0 : (s0.size : Int) ≤ 1048576 := by omega
  clear hb0
  by_cases hq1 : (1048576 : Int) - s0.size < s1.size
  · go_enter Try.func6, Try.ntmps6
    go_wp2_with fail
    refine (szKey_okB k0 n0 s0 1048576 _ m0 (by omega) (by omega) hs0).mono ?_
    rintro e w1 ⟨rfl, b1⟩
    have B1 := Below.trans (al (al (Below.refl _ _))) (b1.mono (by simp; omega))
    have c0 : w1.cell? ⟨w.heap.size + 1, 0, none⟩ = some (.bool ha1) := kcell b1 (by simp)
    have c1 : w1.cell? ⟨w.heap.size + 1, 1, none⟩ = some (.bool hb1) := kcell b1 (by simp)
    have c2 : w1.cell? ⟨w.heap.size + 1, 2, none⟩ = some (.int .i64 k1) := kcell b1 (by simp)
    have c3 : w1.cell? ⟨w.heap.size + 1, 3, none⟩ = some (.int .i64 n1) := kcell b1 (by simp)
    have c4 : w1.cell? ⟨w.heap.size + 1, 4, none⟩ = some (.string s1) := kcell b1 (by simp)
    have c5 : w1.cell? ⟨w.heap.size + 1, 5, none⟩ = some (.int .i64 k1_) := kcell b1 (by simp)
    have c6 : w1.cell? ⟨w.heap.size + 1, 6, none⟩ = some (.int .i64 n1_) := kcell b1 (by simp)
    have c7 : w1.cell? ⟨w.heap.size + 1, 7, none⟩ = some (.string s1_) := kcell b1 (by simp)
    clear b1
    go_wp2_with fail
    refine (szKeyRange_one ha1 hb1 k1 n1 s1 k1_ n1_ s1_ (1048576 - s0.size) _ m1 m1_ (by omega) (by omega) hq1).mono ?_
    rintro e w2 ⟨rfl, b2⟩
    go_wp2
    go_ret
    exact ⟨rfl, B1.trans (b2.mono B1.size)⟩
  have hs1 : (s1.size : Int) ≤ 1048576 - s0.size := by omega
  clear hq1
  by_cases hq2 : (1048576 : Int) - s0.size - s1.size < s1_.size
  · go_enter Try.func6, Try.ntmps6
    go_wp2_with fail
    refine (szKey_okB k0 n0 s0 1048576 _ m0 (by omega) (by omega) hs0).mono ?_
    rintro e w1 ⟨rfl, b1⟩
    have B1 := Below.trans (al (al (Below.refl _ _))) (b1.mono (by simp; omega))
    have c0 : w1.cell? ⟨w.heap.size + 1, 0, none⟩ = some (.bool ha1) := kcell b1 (by simp)
    have c1 : w1.cell? ⟨w.heap.size + 1, 1, none⟩ = some (.bool hb1) := kcell b1 (by simp)
    have c2 : w1.cell? ⟨w.heap.size + 1, 2, none⟩ = some (.int .i64 k1) := kcell b1 (by simp)
    have c3 : w1.cell? ⟨w.heap.size + 1, 3, none⟩ = some (.int .i64 n1) := kcell b1 (by simp)
    have c4 : w1.cell? ⟨w.heap.size + 1, 4, none⟩ = some (.string s1) := kcell b1 (by simp)
    have c5 : w1.cell? ⟨w.heap.size + 1, 5, none⟩ = some (.int .i64 k1_) := kcell b1 (by simp)
    have c6 : w1.cell? ⟨w.heap.size + 1, 6, none⟩ = some (.int .i64 n1_) := kcell b1 (by simp)
    have c7 : w1.cell? ⟨w.heap.size + 1, 7, none⟩ = some (.string s1_) := kcell b1 (by simp)
    clear b1
    go_wp2_with fail
    refine (szKeyRange_two ha1 hb1 k1 n1 s1 k1_ n1_ s1_ (1048576 - s0.size) _ m1 m1_ (by omega) (by omega) hs1 hq2).mono ?_
    rintro e w2 ⟨rfl, b2⟩
    go_wp2
    go_ret
    exact ⟨rfl, B1.trans (b2.mono B1.size)⟩
  have hs2 : (s1_.size : Int) ≤ 1048576 - s0.size - s1.size := by omega
  clear hq2
  obtain ⟨r, hr⟩ : ∃ r, r = inRF k0 n0 s0 ha1 hb1 k1 n1 s1 k1_ n1_ s1_ := ⟨_, rfl⟩
  have HR := Lib.hid hr
  clear hr
  go_enter Try.func6, Try.ntmps6
  go_wp2_with fail
  refine (szKey_okB k0 n0 s0 1048576 _ m0 (by omega) (by omega) hs0).mono ?_
  rintro e w1 ⟨rfl, b1⟩
  have B1 : Below w.heap.size w w1 := Below.trans (al (al (Below.refl _ _))) (b1.mono (by simp; omega))
  have c0 : w1.cell? ⟨w.heap.size, 0, none⟩ = some (.int .i64 k0) := kcell b1 (by simp)
  have c1 : w1.cell? ⟨w.heap.size, 1, none⟩ = some (.int .i64 n0) := kcell b1 (by simp)
  have c2 : w1.cell? ⟨w.heap.size, 2, none⟩ = some (.string s0) := kcell b1 (by simp)
  have c3 : w1.cell? ⟨w.heap.size + 1, 0, none⟩ = some (.bool ha1) := kcell b1 (by simp)
  have c4 : w1.cell? ⟨w.heap.size + 1, 1, none⟩ = some (.bool hb1) := kcell b1 (by simp)
  have c5 : w1.cell? ⟨w.heap.size + 1, 2, none⟩ = some (.int .i64 k1) := kcell b1 (by simp)
  have c6 : w1.cell? ⟨w.heap.size + 1, 3, none⟩ = some (.int .i64 n1) := kcell b1 (by simp)
  have c7 : w1.cell? ⟨w.heap.size + 1, 4, none⟩ = some (.string s1) := kcell b1 (by simp)
  have c8 : w1.cell? ⟨w.heap.size + 1, 5, none⟩ = some (.int .i64 k1_) := kcell b1 (by simp)
  have c9 : w1.cell? ⟨w.heap.size + 1, 6, none⟩ = some (.int .i64 n1_) := kcell b1 (by simp)
  have c10 : w1.cell? ⟨w.heap.size + 1, 7, none⟩ = some (.string s1_) := kcell b1 (by simp)
  have hz1 : w.heap.size + 2 ≤ w1.heap.size := by have := b1.size; simp at this; omega
  clear b1
  go_wp2_with fail
  refine (szKeyRange_ok ha1 hb1 k1 n1 s1 k1_ n1_ s1_ (1048576 - s0.size) _ m1 m1_ (by omega) (by omega) hs1 hs2).mono ?_
  rintro e w2 ⟨rfl, b2⟩
  have B2 := B1.trans (b2.mono B1.size)
  replace c0 := kcell b2 c0
  replace c1 := kcell b2 c1
  replace c2 := kcell b2 c2
  replace c3 := kcell b2 c3
  replace c4 := kcell b2 c4
  replace c5 := kcell b2 c5
  replace c6 := kcell b2 c6
  replace c7 := kcell b2 c7
  replace c8 := kcell b2 c8
  replace c9 := kcell b2 c9
  replace c10 := kcell b2 c10
  go_wp2
  go_region_held3 (fun W => Below w.heap.size w W ∧ W.cell? ⟨w.heap.size, 0, none⟩ = some (.int .i64 k0) ∧ W.cell? ⟨w.heap.size, 1, none⟩ = some (.int .i64 n0) ∧ W.cell? ⟨w.heap.size, 2, none⟩ = some (.string s0) ∧ W.cell? ⟨w.heap.size + 1, 0, none⟩ = some (.bool ha1) ∧ W.cell? ⟨w.heap.size + 1, 1, none⟩ = some (.bool hb1) ∧ W.cell? ⟨w.heap.size + 1, 2, none⟩ = some (.int .i64 k1) ∧ W.cell? ⟨w.heap.size + 1, 3, none⟩ = some (.int .i64 n1) ∧ W.cell? ⟨w.heap.size + 1, 4, none⟩ = some (.string s1) ∧ W.cell? ⟨w.heap.size + 1, 5, none⟩ = some (.int .i64 k1_) ∧ W.cell? ⟨w.heap.size + 1, 6, none⟩ = some (.int .i64 n1_) ∧ W.cell? ⟨w.heap.size + 1, 7, none⟩ = some (.string s1_))
    (first | assumption | (refine ks_step ?_ hb rfl; assumption) | exact ⟨B2.drew, c0, c1, c2, c3, c4, c5, c6, c7, c8, c9, c10⟩)
    (first
      | (go_at_call 11; refine (toKey_any _ _ _ _).mono ?_; rintro e W1 ⟨rfl, hb⟩)
      | (go_at_call 22; refine (toKeyRange_any _ _ _ _ _ _ _ _ _).mono ?_; rintro e W1 ⟨rfl, hb⟩)
      | (go_at_call 21; refine (specInRangeOf_any _ _ _ _ _ _ _ _ _ _ _ r _ ?_ ?_ ?_ HR.out).mono ?_; (unfold maxLen; omega); (unfold maxLen; omega); (unfold maxLen; omega); rintro e W1 ⟨rfl, hb⟩))
  skip
  obtain ⟨B3, c0, c1, c2, c3, c4, c5, c6, c7, c8, c9, c10⟩ := ‹Below w.heap.size w _ ∧ _›
  go_wp2
  go_region_held3 (fun W => Below w.heap.size w W ∧ W.cell? ⟨w.heap.size, 0, none⟩ = some (.int .i64 k0) ∧ W.cell? ⟨w.heap.size, 1, none⟩ = some (.int .i64 n0) ∧ W.cell? ⟨w.heap.size, 2, none⟩ = some (.string s0) ∧ W.cell? ⟨w.heap.size + 1, 0, none⟩ = some (.bool ha1) ∧ W.cell? ⟨w.heap.size + 1, 1, none⟩ = some (.bool hb1) ∧ W.cell? ⟨w.heap.size + 1, 2, none⟩ = some (.int .i64 k1) ∧ W.cell? ⟨w.heap.size + 1, 3, none⟩ = some (.int .i64 n1) ∧ W.cell? ⟨w.heap.size + 1, 4, none⟩ = some (.string s1) ∧ W.cell? ⟨w.heap.size + 1, 5, none⟩ = some (.int .i64 k1_) ∧ W.cell? ⟨w.heap.size + 1, 6, none⟩ = some (.int .i64 n1_) ∧ W.cell? ⟨w.heap.size + 1, 7, none⟩ = some (.string s1_))
    (first | assumption | (refine ks_step ?_ hb rfl; assumption) | exact ⟨B3.drew, c0, c1, c2, c3, c4, c5, c6, c7, c8, c9, c10⟩)
    (first
      | (go_at_call 11; refine (toKey_any _ _ _ _).mono ?_; rintro e W1 ⟨rfl, hb⟩)
      | (go_at_call 22; refine (toKeyRange_any _ _ _ _ _ _ _ _ _).mono ?_; rintro e W1 ⟨rfl, hb⟩)
      | (go_at_call 23; refine (implInRangeOf_any _ _ _ _ _ _ _ _ _ _ _ r _ ?_ ?_ ?_ HR.out).mono ?_; (unfold maxLen; omega); (unfold maxLen; omega); (unfold maxLen; omega); rintro e W1 ⟨rfl, hb⟩))
  skip
  obtain ⟨B4, c0, c1, c2, c3, c4, c5, c6, c7, c8, c9, c10⟩ := ‹Below w.heap.size w _ ∧ _›
  go_wp2
  go_ret
  exact ⟨rfl, B4⟩

set_option maxRecDepth 100000 in
theorem lifted (os : Os) (started : os.Started) (H : Type) (enc : TypeId × Value → H) :
    ReturnsInHanded {} Try.checked os 6 .any (Rows.fnExactInRangeOfSpec.pre6 enc Try.prog Try.f6 Rows.fnExactInRangeOfRow.domain false) (Rows.fnExactInRangeOfSpec.post enc Try.prog Try.f6 false true false false) := by
  refine returnsInHanded_of_change (C := Try.checked) own started (by kernel_rfl) Try.func6
    (ChangeSpec.witness6 (enc := enc) (C := Try.checked) false ⟨#[], #[.agg #[.int .i64 0, .int .i64 0, .string ⟨#[]⟩], .agg #[.bool false, .bool false, .int .i64 0, .int .i64 0, .string ⟨#[]⟩, .int .i64 0, .int .i64 0, .string ⟨#[]⟩]], []⟩ 8 (by kernel_rfl) (by kernel_rfl) (by kernel_rfl) (by kernel_rfl)) ?_
  intro W base args ds gs before hval0 hW hcnd _
  have hval : ∀ (j : Nat) t v, Try.f6.params[j]? = some t → args[j]? = some v → Value.okWide Try.prog W .any base t v := hval0
  have hW' := hW
  obtain ⟨p, q, hA0, hV, rfl, hfz, hnd⟩ := hW
  have hA : DataW.TrodAll enc Try.prog W 0 (fun _ => true) true Try.f6.params.toList args.toList ds p := hA0
  rw [Try.params6] at hA hval
  obtain ⟨v0, vs0, d0, ds0, p0, q0, hargs, rfl, rfl, h0, z0⟩ := trodAll_cons hA
  obtain ⟨v1, vs1, d1, ds1, p1, q1, rfl, rfl, rfl, h1, z1⟩ := trodAll_cons z0
  obtain ⟨rfl, rfl, rfl⟩ := trodAll_nil z1
  obtain rfl : args = #[v0, v1] := by cases args; simp_all
  obtain ⟨rfl, rfl⟩ := trodVars_none hV
  obtain ⟨k0, n0, s0, rfl, rk0, rn0, m0⟩ := open_key (hval 0 23 v0 rfl rfl) h0
  obtain ⟨ha1, hb1, k1, n1, s1, k1_, n1_, s1_, rfl, ⟨rk1, rn1, m1⟩, rk1_, rn1_, m1_⟩ := open_range (hval 1 36 v1 rfl rfl) h1
  clear hA0 hval0
  exact (walk W k0 n0 s0 m0 rk0 rn0 ha1 hb1 k1 n1 s1 k1_ n1_ s1_ m1 rk1 rn1 m1_ rk1_ rn1_).mono fun e W' ⟨he, hb⟩ => ⟨_, he, law_post laidOut (by kernel_rfl) (tb := 4) rfl Try.underlying4 rfl hW' rfl hb⟩

theorem proved : Rows.FnExactInRangeOfSaid :=
  OpenClaim.holds_of_wide 6 Try.f6 rfl rfl rfl rfl rfl rfl rfl ⟨rfl, rfl, rfl, rfl, rfl⟩ rfl rfl rfl rfl rfl (by kernel_rfl) Try.func6 (joined_of (by kernel_rfl))
    (of_decide_eq_true (by kernel_rfl)) (by unfold Func.isWrapper; first | (rw [if_pos (by decide +kernel)]; kernel_rfl) | (rw [if_neg (by decide +kernel)]; exact ⟨rfl, rfl⟩))
    (fun os started H enc _ => lifted os started H enc)
#print axioms proved
end Go.Proofs.Ytnbhdijmbpdgoaa.fnExactInRangeOf
