/-
  Proved: the law FnExactIsRecord answers true for every input and changes nothing that was there: the program's IsRecord returns what the reference's IsRecord returns. Conditions: none beyond those of the row.
  By an AI agent; no person has read it.
-/
import Derived.Test.YtbbngihmjdndoaaLaw
import Derived.Test.YtbbngihmjdndoaaFldI
import Derived.Test.YtbbngihmjdndoaaOpenR
import Derived.Test.YtbbngihmjdndoaaStep
namespace Go.Proofs.Ytbbngihmjdndoaa.fnExactIsRecord
open Go.ChangeShapes Go.WideShapes Go.ChangeAt Go.RowKit
open Go.ChangeMaps (open_string)
set_option linter.unusedVariables false
theorem own_max {W : World} {base m c : Nat} {e : TypeId} {A : Option Addr} {l : List Fld} (o : W.ownsRow base e 2 (.slice A m c) m (fl l)) (h : l.length ≤ maxLen) : m ≤ maxLen := own_lenF o ▸ h
theorem al'' {w : World} (o : Obj) : Below w.heap.size w (w.alloc o) := (Below.refl _ _).alloc (Nat.le_refl _) o

set_option maxRecDepth 100000 in
set_option maxHeartbeats 4000000 in
theorem walk (w : World) (A0 : Option Addr) (n0 c0 : Nat) (l0 : List Fld) (h0 : Rd w 2 A0 n0 (fl l0)) (m0 : n0 ≤ maxLen) (o0 : okF l0) :
    Calls Try.prog 6 #[.agg #[.slice A0 n0 c0]] w fun e w' => e = .returned (.bool true) ∧ Below w.heap.size w w' := by
  unfold maxLen at m0
  by_cases hb0 : (1048576 : Int) < (n0 : Int) + sumF l0
  · go_enter Try.func6, Try.ntmps6
    go_wp2_with fail
    refine (szRecord_big A0 n0 c0 l0 1048576 _ m0 (by omega) (by omega) (h0.alloc _) o0 hb0).mono ?_
    rintro e w1 ⟨rfl, b1⟩
    go_wp2
    go_ret
    exact ⟨rfl, Below.trans (al (Below.refl _ _)) (b1.mono (by simp))⟩
  have hs0 : (n0 : Int) + sumF l0 ≤ 1048576 := by omega
  clear hb0
  have v0 : l0.length ≤ maxLen := by unfold maxLen; have := h0.lenF; omega
  have q0 : n0 ≤ 1099511627776 := by omega
  obtain ⟨r, hr⟩ : ∃ r, r = recB l0 := ⟨_, rfl⟩
  have HR := Lib.hid hr
  clear hr
  have hrr : (r == r) = true := by simp
  go_enter Try.func6, Try.ntmps6
  go_wp2_with fail
  refine (szRecord_ok A0 n0 c0 l0 1048576 _ m0 (by omega) (h0.alloc _) o0 hs0).mono ?_
  rintro e w1 ⟨rfl, b1⟩
  have B1 : Below w.heap.size w w1 := Below.trans (al (Below.refl _ _)) (b1.mono (by simp))
  have d0 : w1.cell? ⟨w.heap.size, 0, none⟩ = some (.slice A0 n0 c0) := kcell b1 (by simp)
  clear b1
  go_wp2_with fail
  refine (toRecord_any A0 n0 c0 l0 _ q0 (h0.below B1)).mono ?_
  rintro e w2 ⟨A2, n2, c2, rfl, o2, b2⟩
  have B2 := B1.trans (b2.mono B1.size)
  replace d0 := kcell b2 d0
  go_wp2_with fail
  refine (specIsRecord_any A2 n2 c2 l0 r _ (own_max o2 v0) (Rd.of_own o2) o0 HR.out).mono ?_
  rintro e w3 ⟨rfl, b3⟩
  have B3 := B2.trans (b3.mono B2.size)
  replace d0 := kcell b3 d0
  go_wp2_with fail
  refine (toRecord_any A0 n0 c0 l0 _ q0 (h0.below B3)).mono ?_
  rintro e w4 ⟨A4, n4, c4, rfl, o4, b4⟩
  have B4 := (B3.trans (b4.mono B3.size)).alloc (B3.trans (b4.mono B3.size)).size (.cells #[.slice A4 n4 c4] 28)
  replace d0 := kcell (al'' (.cells #[.slice A4 n4 c4] 28)) (kcell b4 d0)
  have e4 : (w4.alloc (.cells #[.slice A4 n4 c4] 28)).cell? ⟨w4.heap.size, 0, none⟩ = some (.slice A4 n4 c4) := by simp
  replace o4 := own_below o4 (al'' (.cells #[.slice A4 n4 c4] 28))
  go_wp2_with fail
  refine (implIsRecord_any A4 n4 c4 l0 r _ (own_max o4 v0) (Rd.of_own o4) o0 HR.out).mono ?_
  rintro e w6 ⟨rfl, b6⟩
  have B6 := B4.trans (b6.mono B4.size)
  replace o4 := own_below o4 b6
  replace d0 := kcell b6 d0
  replace e4 := kcell b6 e4
  go_wp2
  go_region_held3 (fun W => Below w6.heap.size w6 W ∧ W.cell? ⟨w.heap.size, 0, none⟩ = some (.slice A0 n0 c0) ∧ W.cell? ⟨w4.heap.size, 0, none⟩ = some (.slice A4 n4 c4))
    (first | assumption | (refine sz2 ?_ hb rfl; assumption) | exact ⟨(Below.refl _ _).drew, d0, e4⟩)
    (first
      | (go_at_call 21; refine (toRecord_any A0 n0 c0 l0 _ q0 (h0.below (B6.trans ((And.left ‹Below w6.heap.size w6 _ ∧ _›).mono B6.size)))).mono ?_; rintro e W1 ⟨Ae, ne, ce, rfl, oe, hb⟩)
      | (go_at_call 23; refine (eqRecord_same A4 _ n4 _ c4 _ l0 _ (own_max o4 v0) ((Rd.of_own o4).below (And.left ‹Below w6.heap.size w6 _ ∧ _›)) (Rd.of_own ‹_›)).mono ?_; rintro e W1 ⟨rfl, hb⟩))
  obtain ⟨b8, _⟩ := ‹Below w6.heap.size w6 _ ∧ _›
  go_wp2
  go_ret
  exact ⟨rfl, B6.trans (b8.mono B6.size)⟩

set_option maxRecDepth 100000 in
theorem lifted (os : Os) (started : os.Started) (H : Type) (enc : TypeId × Value → H) :
    ReturnsInHanded {} Try.checked os 6 .any (Rows.fnExactIsRecordSpec.pre6 enc Try.prog Try.f6 Rows.fnExactIsRecordRow.domain false) (Rows.fnExactIsRecordSpec.post enc Try.prog Try.f6 false true false false) := by
  refine returnsInHanded_of_change (C := Try.checked) own started (by kernel_rfl) Try.func6
    (ChangeSpec.witness6 (enc := enc) (C := Try.checked) false ⟨#[], #[.agg #[.slice none 0 0]], []⟩ 8 (by kernel_rfl) (by kernel_rfl) (by kernel_rfl) (by kernel_rfl)) ?_
  intro W base args ds gs before hval0 hW hcnd _
  have hval : ∀ (j : Nat) t v, Try.f6.params[j]? = some t → args[j]? = some v → Value.okWide Try.prog W .any base t v := hval0
  have hW' := hW
  obtain ⟨p, q, hA0, hV, rfl, hfz, hnd⟩ := hW
  have hA : DataW.TrodAll enc Try.prog W 0 (fun _ => true) true Try.f6.params.toList args.toList ds p := hA0
  rw [Try.params6] at hA hval
  obtain ⟨v0, vs0, d0, ds0, p0, q0, hargs, rfl, rfl, h0, z0⟩ := trodAll_cons hA
  obtain ⟨rfl, rfl, rfl⟩ := trodAll_nil z0
  obtain rfl : args = #[v0] := by cases args; simp_all
  obtain ⟨rfl, rfl⟩ := trodVars_none hV
  obtain ⟨A0, n0, c0, l0, rfl, k0, m0, o0⟩ := open_record (hval 0 24 v0 rfl rfl) h0
  clear hA0 hval0
  exact (walk W A0 n0 c0 l0 k0 m0 o0).mono fun e W' ⟨he, hb⟩ => ⟨_, he, law_post laidOut (by kernel_rfl) (tb := 4) rfl Try.underlying4 rfl hW' rfl hb⟩

theorem proved : Rows.FnExactIsRecordSaid :=
  OpenClaim.holds_of_wide 6 Try.f6 rfl rfl rfl rfl rfl rfl rfl ⟨rfl, rfl, rfl, rfl, rfl⟩ rfl rfl rfl rfl rfl (by kernel_rfl) Try.func6 (joined_of (by kernel_rfl))
    (of_decide_eq_true (by kernel_rfl)) (by unfold Func.isWrapper; first | (rw [if_pos (by decide +kernel)]; kernel_rfl) | (rw [if_neg (by decide +kernel)]; exact ⟨rfl, rfl⟩))
    (fun os started H enc _ => lifted os started H enc)
#print axioms proved
end Go.Proofs.Ytbbngihmjdndoaa.fnExactIsRecord
