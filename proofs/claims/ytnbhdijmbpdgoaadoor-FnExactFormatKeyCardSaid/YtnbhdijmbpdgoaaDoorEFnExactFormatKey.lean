/-
  Proved: the law FnExactFormatKey answers true for every input and changes nothing that was there; and the card, which ties the listed variables to the program's text. Conditions: none beyond those of the row.
  By an AI agent; no person has read it.
-/
import Derived.Test.YtnbhdijmbpdgoaaDoorLaw
import Derived.Test.YtnbhdijmbpdgoaaDoorLaid
import Derived.Test.YtnbhdijmbpdgoaaDoorOpenK
import Derived.Test.YtnbhdijmbpdgoaaDoorKeyL
import Derived.Test.YtnbhdijmbpdgoaaDoorKeyP
import Derived.Test.YtnbhdijmbpdgoaaDoorFmtK
import Derived.Test.YtnbhdijmbpdgoaaDoorCards
import Derived.Test.YtnbhdijmbpdgoaaDoorTie
import Derived.SevenTiedAt
namespace Go.Proofs.YtnbhdijmbpdgoaaDoor.fnExactFormatKey
open Go.ChangeShapes Go.WideShapes Go.ChangeAt Go.RowKit
open Go.ChangeMaps (open_string)
set_option linter.unusedVariables false

set_option maxHeartbeats 1000000 in
theorem walk (w : World) (k0 n0 : Int) (s0 : ByteArray) (m0 : s0.size ≤ maxLen) (rk0 : -9223372036854775808 ≤ k0 ∧ k0 ≤ 9223372036854775807) (rn0 : -9223372036854775808 ≤ n0 ∧ n0 ≤ 9223372036854775807) (hp : Pow w) :
    Calls Tryd.prog 6 #[.agg #[.int .i64 k0, .int .i64 n0, .string s0]] w fun e w' => e = .returned (.bool true) ∧ Below w.heap.size w w' := by
  unfold maxLen at m0
  by_cases hb0 : (1048576 : Int) < s0.size
  · go_enter Tryd.func6, Tryd.ntmps6
    go_wp2_with fail
    refine (szKey_big k0 n0 s0 1048576 _ m0 (by omega) (by omega) hb0).mono ?_
    rintro e w1 ⟨rfl, rfl⟩
    go_wp2
    go_ret
    refine ⟨rfl, ?_⟩
    repeat refine al ?_
    exact Below.refl _ _
  have hs0 : (s0.size : Int) ≤ 1048576 := by omega
  clear hb0
  go_enter Tryd.func6, Tryd.ntmps6
  go_wp2_with fail
  refine (szKey_okB k0 n0 s0 1048576 _ m0 (by omega) (by omega) hs0).mono ?_
  rintro e w1 ⟨rfl, b1⟩
  have B1 : Below w.heap.size w w1 := Below.trans (al (Below.refl _ _)) (b1.mono (by simp))
  have c0 : w1.cell? ⟨w.heap.size, 0, none⟩ = some (.int .i64 k0) := kcell b1 (by simp)
  have c1 : w1.cell? ⟨w.heap.size, 1, none⟩ = some (.int .i64 n0) := kcell b1 (by simp)
  have c2 : w1.cell? ⟨w.heap.size, 2, none⟩ = some (.string s0) := kcell b1 (by simp)
  have hz1 : w.heap.size + 1 ≤ w1.heap.size := by have := b1.size; simp at this; omega
  clear b1
  go_wp2_with fail
  refine (toKey_any k0 n0 s0 _).mono ?_
  rintro e w2 ⟨rfl, b2⟩
  have B2 : Below w.heap.size w w2 := B1.trans (b2.mono B1.size)
  replace c0 := kcell b2 c0
  replace c1 := kcell b2 c1
  replace c2 := kcell b2 c2
  go_wp2_with fail
  refine (specFormatKey_any k0 n0 s0 _ (by unfold maxLen; omega)).mono ?_
  rintro e w3 ⟨rfl, b3⟩
  have B3 : Below w.heap.size w w3 := B2.trans (b3.mono B2.size)
  replace c0 := kcell b3 c0
  replace c1 := kcell b3 c1
  replace c2 := kcell b3 c2
  go_wp2_with fail
  refine (toKey_any k0 n0 s0 _).mono ?_
  rintro e w4 ⟨rfl, b4⟩
  have B4 : Below w.heap.size w w4 := B3.trans (b4.mono B3.size)
  replace c0 := kcell b4 c0
  replace c1 := kcell b4 c1
  replace c2 := kcell b4 c2
  have hp4 := hp.keep B4
  go_wp2_with fail
  refine (implFormatKey_any k0 n0 s0 _ (by unfold maxLen; omega) hp4).mono ?_
  rintro e w5 ⟨rfl, b5⟩
  have B5 : Below w.heap.size w w5 := B4.trans (b5.mono B4.size)
  replace c0 := kcell b5 c0
  replace c1 := kcell b5 c1
  replace c2 := kcell b5 c2
  go_wp2
  go_ret
  exact ⟨rfl, B5⟩


theorem laid_met (os : Os) (args : Array Value) : laidMet Tryd.prog Rows.fnExactFormatKeyRow.laid ((tabWorld os).forCall (fun _ _ => 0) ⟨#[], args, []⟩).memory :=
  laidMet_of_run' 8 (by kernel_rfl) (by kernel_rfl)

set_option maxRecDepth 100000 in
theorem lifted (os : Os) (started : os.Started) (H : Type) (enc : TypeId × Value → H) :
    ReturnsInHanded {} Tryd.checked os 6 .any (fun w args => (Rows.fnExactFormatKeySpec.pre enc Tryd.prog Tryd.f6 Rows.fnExactFormatKeyRow.domain false w args ∧ laidMet Tryd.prog Rows.fnExactFormatKeyRow.laid w) ∧ sizedMet enc Tryd.prog Tryd.f6 (OpenSpec.ofChange Rows.fnExactFormatKeySpec) false w args)
      (Rows.fnExactFormatKeySpec.post enc Tryd.prog Tryd.f6 false true false false) := by
  refine returnsInHanded_of_change_and (C := Tryd.checked) (X := fun w _ => laidMet Tryd.prog Rows.fnExactFormatKeyRow.laid w) (fun _ _ _ hh h => h.of_heap hh) own started (by kernel_rfl) Tryd.func6
    (ChangeSpec.witness_at (enc := enc) (C := Tryd.checked) (os := os) (X := fun w _ => laidMet Tryd.prog Rows.fnExactFormatKeyRow.laid w) false (tabWorld os) #[.agg #[.int .i64 0, .int .i64 0, .string ⟨#[]⟩]] 8 rfl (by kernel_rfl) (by kernel_rfl) (by kernel_rfl) (by kernel_rfl) (by kernel_rfl) (laid_met os _)) ?_
  intro W base args ds gs before hval0 hW hcnd _ hL _
  have hval : ∀ (j : Nat) t v, Tryd.f6.params[j]? = some t → args[j]? = some v → Value.okWide Tryd.prog W .any base t v := hval0
  have hW' := hW
  obtain ⟨p, q, hA0, hV, rfl, hfz, hnd⟩ := hW
  have hA : DataW.TrodAll enc Tryd.prog W 0 (fun _ => true) true Tryd.f6.params.toList args.toList ds p := hA0
  rw [Tryd.params6] at hA hval
  obtain ⟨v0, vs0, d0, ds0, p0, q0, hargs, rfl, rfl, h0, z0⟩ := trodAll_cons hA
  obtain ⟨rfl, rfl, rfl⟩ := trodAll_nil z0
  obtain rfl : args = #[v0] := by cases args; simp_all
  obtain ⟨rfl, rfl⟩ := trodVars_none hV
  obtain ⟨k0, n0, s0, rfl, rk0, rn0, m0⟩ := open_key (hval 0 41 v0 rfl rfl) h0
  clear hA0 hval0
  exact (walk W k0 n0 s0 m0 rk0 rn0 (pow_of (laidMet.tail (laidMet.tail hL)))).mono fun e W' ⟨he, hb⟩ => ⟨_, he, law_post laidOut (by kernel_rfl) (tb := 4) rfl Tryd.underlying4 rfl hW' rfl hb⟩

theorem said : Rows.FnExactFormatKeySaid :=
  OpenClaim.holds_of_wide 6 Tryd.f6 rfl rfl rfl rfl rfl rfl rfl ⟨rfl, rfl, rfl, rfl, rfl⟩ rfl rfl rfl rfl rfl (by kernel_rfl) Tryd.func6 (joined_of (by kernel_rfl))
    (of_decide_eq_true (by kernel_rfl)) (by unfold Func.isWrapper; first | (rw [if_pos (by decide +kernel)]; kernel_rfl) | (rw [if_neg (by decide +kernel)]; exact ⟨rfl, rfl⟩))
    (fun os started H enc _ => lifted os started H enc)

theorem proved : Rows.FnExactFormatKeyCardSaid :=
  Claim7.holds_tied_plain_at .later [] [.data, .data, .data] true (true, "1049c4310d5bfca20d1f95a2c888a3439faeb0685337254e1c5ae66fe8242137") true
    said (fun _ h => by cases h) (by kernel_rfl) (fun _ h => by cases h) fnExactFormatKey_row_tie rfl ⟨rfl, rfl⟩ (by kernel_rfl) rfl
    (fun f fn hf hfn => by
      obtain rfl : f = 6 := Option.some.inj ((show Tryd.prog.funcNamed "loop.example/g00583/laws.FnExactFormatKey" = some 6 by kernel_rfl).symm.trans hf) |>.symm
      obtain rfl : fn = Tryd.f6 := (Option.some.inj (Tryd.func6.symm.trans hfn)).symm
      exact ⟨by kernel_rfl, fun j t ht => by
        rw [Tryd.params6] at ht
        have h3 : t = 41 := by
          rcases j with _ | j
          · simpa using ht.symm
          · simp at ht
        subst h3
        exact (show Tryd.prog.wantsStandIn 41 = false by kernel_rfl)⟩)
    (by kernel_rfl)
#print axioms proved
end Go.Proofs.YtnbhdijmbpdgoaaDoor.fnExactFormatKey
