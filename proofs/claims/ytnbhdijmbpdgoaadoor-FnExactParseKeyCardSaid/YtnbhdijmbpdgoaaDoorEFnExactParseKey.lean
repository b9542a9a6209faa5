/-
  Proved: the law FnExactParseKey answers true for every input and changes nothing that was there; and the card, which ties the listed variables to the program's text. Conditions: none beyond those of the row.
  By an AI agent; no person has read it.
-/
import Derived.Test.YtnbhdijmbpdgoaaDoorLaw
import Derived.Test.YtnbhdijmbpdgoaaDoorLaid5
import Derived.Test.YtnbhdijmbpdgoaaDoorPInt
import Derived.Test.YtnbhdijmbpdgoaaDoorPIntI
import Derived.Test.YtnbhdijmbpdgoaaDoorPKeyI
import Derived.Test.YtnbhdijmbpdgoaaDoorPKeyS
import Derived.Test.YtnbhdijmbpdgoaaDoorShape
import Derived.Test.YtnbhdijmbpdgoaaDoorKeyL
import Derived.Test.YtnbhdijmbpdgoaaDoorCards
import Derived.Test.YtnbhdijmbpdgoaaDoorTie
import Derived.SevenTiedAt
namespace Go.Proofs.YtnbhdijmbpdgoaaDoor.fnExactParseKey
open Go.ChangeShapes Go.WideShapes Go.ChangeAt Go.RowKit
open Go.ChangeMaps (open_string)
set_option linter.unusedVariables false

set_option maxRecDepth 100000 in
set_option maxHeartbeats 1000000 in
theorem walk (w : World) (s0 : ByteArray) (m0 : s0.size ≤ maxLen) (he : Env w) (hm : MaxIs w) :
    Calls Tryd.prog 3 #[.string s0] w fun e w' => e = .returned (.bool true) ∧ Below w.heap.size w w' := by
  unfold maxLen at m0
  by_cases hb0 : (1048576 : Int) < s0.size
  · go_enter Tryd.func3, Tryd.ntmps3
    go_wp2
    go_ret
    exact ⟨rfl, Below.refl _ _⟩
  have hs0 : (s0.size : Int) ≤ 1048576 := by omega
  clear hb0
  obtain ⟨k, hk⟩ : ∃ x, x = rkK s0 := ⟨_, rfl⟩
  obtain ⟨n, hn⟩ : ∃ x, x = rkN s0 := ⟨_, rfl⟩
  obtain ⟨t, ht⟩ : ∃ x, x = rkT s0 := ⟨_, rfl⟩
  obtain ⟨b, hb⟩ : ∃ b, b = pkOk s0 := ⟨_, rfl⟩
  have HK := Lib.hid hk
  have HN := Lib.hid hn
  have HT := Lib.hid ht
  have HB := Lib.hid hb
  clear hk hn ht hb
  go_enter Tryd.func3, Tryd.ntmps3
  go_wp2_with fail
  refine (specParseKey_any s0 _ (by omega)).mono ?_
  rw [← HK.out, ← HN.out, ← HT.out, ← HB.out]
  rintro e w1 ⟨rfl, b1⟩
  go_wp2_with fail
  refine (implParseKey_any s0 _ (by omega) ((he.keep b1).keep (alT (Below.refl _ _))) ((hm.keep b1).keep (alT (Below.refl _ _)))).mono ?_
  rw [← HK.out, ← HN.out, ← HT.out, ← HB.out]
  rintro e w2 ⟨rfl, b2⟩
  have c0 : w2.cell? ⟨w1.heap.size, 0, none⟩ = some (.int .i64 k) := kcell b2 (by simp)
  have c1 : w2.cell? ⟨w1.heap.size, 1, none⟩ = some (.int .i64 n) := kcell b2 (by simp)
  have c2 : w2.cell? ⟨w1.heap.size, 2, none⟩ = some (.string t) := kcell b2 (by simp)
  have hz : w1.heap.size < w2.heap.size := by have := b2.size; simp at this; omega
  have B2 : Below w.heap.size w w2 := (b1.alloc b1.size _).trans (b2.mono (by have := b1.size; simp; omega))
  clear b2
  go_wp2_with fail
  refine (eqKey_same k n t _).mono ?_
  rintro e w3 ⟨rfl, b3⟩
  have B3 : Below w.heap.size w w3 := (B2.alloc B2.size _).trans (b3.mono (by have := B2.size; simp; omega))
  clear b3
  cases b
  all_goals
    go_wp2
    go_ret
    exact ⟨rfl, B3⟩


theorem laid_met (os : Os) (args : Array Value) : laidMet Tryd.prog Rows.fnExactParseKeyRow.laid ((tabWorld5 os).forCall (fun _ _ => 0) ⟨#[], args, []⟩).memory :=
  laidMet_of_run' 8 (by kernel_rfl) (by kernel_rfl)

set_option maxRecDepth 100000 in
theorem lifted (os : Os) (started : os.Started) (H : Type) (enc : TypeId × Value → H) :
    ReturnsInHanded {} Tryd.checked os 3 .any (fun w args => (Rows.fnExactParseKeySpec.pre enc Tryd.prog Tryd.f3 Rows.fnExactParseKeyRow.domain false w args ∧ laidMet Tryd.prog Rows.fnExactParseKeyRow.laid w) ∧ sizedMet enc Tryd.prog Tryd.f3 (OpenSpec.ofChange Rows.fnExactParseKeySpec) false w args)
      (Rows.fnExactParseKeySpec.post enc Tryd.prog Tryd.f3 false true false false) := by
  refine returns_both (C := Tryd.checked) (X := fun w _ => laidMet Tryd.prog Rows.fnExactParseKeyRow.laid w) (fun _ _ _ hh h => h.of_heap hh) own started (by kernel_rfl) Tryd.func3
    (ChangeSpec.witness_at (enc := enc) (C := Tryd.checked) (os := os) (X := fun w _ => laidMet Tryd.prog Rows.fnExactParseKeyRow.laid w) false (tabWorld5 os) #[.string ⟨#[]⟩] 8 rfl (by kernel_rfl) (by kernel_rfl) (by kernel_rfl) (by kernel_rfl) (by kernel_rfl) (laid_met os _)) ?_
  intro W base args ds gs before hval0 hW hL hsh
  have hval : ∀ (j : Nat) t v, Tryd.f3.params[j]? = some t → args[j]? = some v → Value.okWide Tryd.prog W .any base t v := hval0
  have hW' := hW
  obtain ⟨p, q, hA0, hV, rfl, hfz, hnd⟩ := hW
  have hA : DataW.TrodAll enc Tryd.prog W 0 (fun _ => true) true Tryd.f3.params.toList args.toList ds p := hA0
  rw [Tryd.params3] at hA hval
  obtain ⟨v0, vs0, d0, ds0, p0, q0, hargs, rfl, rfl, h0, z0⟩ := trodAll_cons hA
  obtain ⟨rfl, rfl, rfl⟩ := trodAll_nil z0
  obtain rfl : args = #[v0] := by cases args; simp_all
  obtain ⟨rfl, rfl⟩ := trodVars_none hV
  obtain ⟨s0, rfl, rfl, rfl, ws0⟩ := open_string Tryd.underlying9 (hval 0 9 v0 rfl rfl) h0
  clear hA0 hval0
  exact (walk W s0 ws0 (errs_of hL) (max_of hsh)).mono fun e W' ⟨he, hb⟩ => ⟨_, he, law_post laidOut (by kernel_rfl) (tb := 4) rfl Tryd.underlying4 rfl hW' rfl hb⟩

theorem said : Rows.FnExactParseKeySaid :=
  OpenClaim.holds_of_wide 3 Tryd.f3 rfl rfl rfl rfl rfl rfl rfl ⟨rfl, rfl, rfl, rfl, rfl⟩ rfl rfl rfl rfl rfl (by kernel_rfl) Tryd.func3 (joined_of (by kernel_rfl))
    (of_decide_eq_true (by kernel_rfl)) (by unfold Func.isWrapper; first | (rw [if_pos (by decide +kernel)]; kernel_rfl) | (rw [if_neg (by decide +kernel)]; exact ⟨rfl, rfl⟩))
    (fun os started H enc _ => lifted os started H enc)

theorem proved : Rows.FnExactParseKeyCardSaid :=
  Claim7.holds_tied_plain_at .later [] [.data, .data, .data, .sentinel, .sentinel] true (true, "1049c4310d5bfca20d1f95a2c888a3439faeb0685337254e1c5ae66fe8242137") true
    said (fun _ h => by cases h) (by kernel_rfl) (fun _ h => by cases h) fnExactParseKey_row_tie rfl ⟨rfl, rfl⟩ (by kernel_rfl) rfl
    (fun f fn hf hfn => by
      obtain rfl : f = 3 := Option.some.inj ((show Tryd.prog.funcNamed "loop.example/g00583/laws.FnExactParseKey" = some 3 by kernel_rfl).symm.trans hf) |>.symm
      obtain rfl : fn = Tryd.f3 := (Option.some.inj (Tryd.func3.symm.trans hfn)).symm
      exact ⟨by kernel_rfl, fun j t ht => by
        rw [Tryd.params3] at ht
        have h3 : t = 9 := by
          rcases j with _ | j
          · simpa using ht.symm
          · simp at ht
        subst h3
        exact (show Tryd.prog.wantsStandIn 9 = false by kernel_rfl)⟩)
    (by kernel_rfl)
#print axioms proved
end Go.Proofs.YtnbhdijmbpdgoaaDoor.fnExactParseKey
