/-
  Proved: the law FnExactSizeStore answers true for every input and changes nothing that was there: the program's SizeStore returns what the reference's SizeStore returns. Conditions: none beyond those of the row.
  By an AI agent; no person has read it.
-/
import Derived.Test.YtbbngihmjdndoaaLaw
import Derived.Test.YtbbngihmjdndoaaItZ
import Derived.Test.YtbbngihmjdndoaaItQ
import Derived.Test.YtbbngihmjdndoaaOpenS
import Derived.Test.YtbbngihmjdndoaaStep
namespace Go.Proofs.Ytbbngihmjdndoaa.fnExactSizeStore
open Go.ChangeShapes Go.WideShapes Go.ChangeAt Go.RowKit
open Go.ChangeMaps (open_string)
set_option linter.unusedVariables false
theorem al'' {w : World} (o : Obj) : Below w.heap.size w (w.alloc o) := (Below.refl _ _).alloc (Nat.le_refl _) o

set_option maxRecDepth 100000 in
set_option maxHeartbeats 4000000 in
theorem walk (w : World) (s0 : ByteArray) (A0 : Option Addr) (n0 c0 : Nat) (u0 : Int) (l0 : List Itm) (h0 : RdI w A0 n0 l0) (m0 : n0 ≤ maxLen) (o0 : okI (l0.map Itm.l)) (q0 : s0.size ≤ maxLen) (ru0 : i64R' u0) :
    Calls Try.prog 14 #[.agg #[.string s0, .slice A0 n0 c0, .int .i64 u0]] w fun e w' => e = .returned (.bool true) ∧ Below w.heap.size w w' := by
  unfold maxLen at m0 q0
  by_cases hb0 : (1048576 : Int) < (s0.size : Int) + n0 + sumL (l0.map Itm.l)
  · go_enter Try.func14, Try.ntmps14
    go_wp2_with fail
    refine (szStore_big s0 A0 n0 c0 u0 l0 (1048576) _ q0 m0 (by omega) (by omega) (h0.alloc _) o0 hb0).mono ?_
    rintro e w1 ⟨rfl, b1⟩
    go_wp2
    go_ret
    exact ⟨rfl, Below.trans (al (Below.refl _ _)) (b1.mono (by simp))⟩
  have hs0 : (s0.size : Int) + n0 + sumL (l0.map Itm.l) ≤ 1048576 := by omega
  clear hb0
  have t0 : n0 ≤ 1099511627776 := by omega
  have v0 : ∀ x ∈ l0, x.m ≤ 1099511627776 := rdI_small h0 (by omega)
  have zL0 : (l0.map Itm.l).length ≤ maxLen := by rw [List.length_map]; have := h0.lenI; unfold maxLen; omega
  obtain ⟨r, hr⟩ : ∃ r, r = (sizeSt (l0.map Itm.l) : Int) := ⟨_, rfl⟩
  have HR := Lib.hid hr
  clear hr
  have hrr : (r == r) = true := by simp
  go_enter Try.func14, Try.ntmps14
  go_wp2_with fail
  refine (szStore_ok s0 A0 n0 c0 u0 l0 (1048576) _ q0 m0 (by omega) (by omega) (h0.alloc _) o0 hs0).mono ?_
  rintro e w1 ⟨rfl, b1⟩
  have B1 : Below w.heap.size w w1 := Below.trans (al (Below.refl _ _)) (b1.mono (by simp))
  have d00 : w1.cell? ⟨w.heap.size, 0, none⟩ = some (.string s0) := kcell b1 (by simp [go_sem])
  have d01 : w1.cell? ⟨w.heap.size, 1, none⟩ = some (.slice A0 n0 c0) := kcell b1 (by simp [go_sem])
  have d02 : w1.cell? ⟨w.heap.size, 2, none⟩ = some (.int .i64 u0) := kcell b1 (by simp [go_sem])
  clear b1
  go_wp2_with fail
  refine (toStore_any s0 A0 n0 c0 u0 l0 _ t0 v0 (h0.below B1)).mono ?_
  rintro e w2 ⟨A2, n2, c2, l2, rfl, e2, o2, b2⟩
  have B2 := B1.trans (b2.mono B1.size)
  replace d00 := kcell b2 d00
  replace d01 := kcell b2 d01
  replace d02 := kcell b2 d02
  clear b2
  go_wp2_with fail
  refine (specSizeStore_any s0 A2 n2 c2 u0 l2 (l0.map Itm.l) r _ (by have q := rdI_n o2.rd h0 e2; omega) (rdI_small o2.rd (by rw [e2]; omega)) o2.rd e2 o0 HR.out).mono ?_
  rintro e w3 ⟨rfl, b3⟩
  have B3 := B2.trans (b3.mono B2.size)
  replace d00 := kcell b3 d00
  replace d01 := kcell b3 d01
  replace d02 := kcell b3 d02
  clear b3
  clear o2 e2
  go_wp2_with fail
  refine (toStore_any s0 A0 n0 c0 u0 l0 _ t0 v0 (h0.below B3)).mono ?_
  rintro e w4 ⟨A4, n4, c4, l4, rfl, e4, o4, b4⟩
  have B4 := B3.trans (b4.mono B3.size)
  replace d00 := kcell b4 d00
  replace d01 := kcell b4 d01
  replace d02 := kcell b4 d02
  clear b4
  have B5 : Below w.heap.size w (w4.alloc (.cells #[.string s0, .slice A4 n4 c4, .int .i64 u0] 52)) := al B4
  replace o4 := o4.below (al'' (.cells #[.string s0, .slice A4 n4 c4, .int .i64 u0] 52))
  replace d00 := kcell (al'' (.cells #[.string s0, .slice A4 n4 c4, .int .i64 u0] 52)) d00
  replace d01 := kcell (al'' (.cells #[.string s0, .slice A4 n4 c4, .int .i64 u0] 52)) d01
  replace d02 := kcell (al'' (.cells #[.string s0, .slice A4 n4 c4, .int .i64 u0] 52)) d02
  have x00 : (w4.alloc (.cells #[.string s0, .slice A4 n4 c4, .int .i64 u0] 52)).cell? ⟨w4.heap.size, 0, none⟩ = some (.string s0) := by simp
  have x01 : (w4.alloc (.cells #[.string s0, .slice A4 n4 c4, .int .i64 u0] 52)).cell? ⟨w4.heap.size, 1, none⟩ = some (.slice A4 n4 c4) := by simp
  have x02 : (w4.alloc (.cells #[.string s0, .slice A4 n4 c4, .int .i64 u0] 52)).cell? ⟨w4.heap.size, 2, none⟩ = some (.int .i64 u0) := by simp
  go_wp2_with fail
  refine (implSizeStore_any s0 A4 n4 c4 u0 l4 (l0.map Itm.l) r _ (by have q := rdI_n o4.rd h0 e4; omega) (rdI_small o4.rd (by rw [e4]; omega)) o4.rd e4 o0 HR.out).mono ?_
  rintro e w6 ⟨rfl, b6⟩
  have B6 := B5.trans (b6.mono B5.size)
  replace o4 := o4.below b6
  replace d00 := kcell b6 d00
  replace d01 := kcell b6 d01
  replace d02 := kcell b6 d02
  replace x00 := kcell b6 x00
  replace x01 := kcell b6 x01
  replace x02 := kcell b6 x02
  clear b6
  have nx0 : n4 ≤ maxLen := by have q := rdI_n o4.rd h0 e4; unfold maxLen; omega
  have mx0 := rdI_m o4.rd e4 o0
  go_wp2
  go_region_held3 (fun W => Below w6.heap.size w6 W ∧ W.cell? ⟨w.heap.size, 0, none⟩ = some (.string s0) ∧ W.cell? ⟨w.heap.size, 1, none⟩ = some (.slice A0 n0 c0) ∧ W.cell? ⟨w.heap.size, 2, none⟩ = some (.int .i64 u0) ∧ W.cell? ⟨w4.heap.size, 0, none⟩ = some (.string s0) ∧ W.cell? ⟨w4.heap.size, 1, none⟩ = some (.slice A4 n4 c4) ∧ W.cell? ⟨w4.heap.size, 2, none⟩ = some (.int .i64 u0))
    (first | assumption | (refine sz6 ?_ hb rfl; assumption) | exact ⟨(Below.refl _ _).drew, d00, d01, d02, x00, x01, x02⟩)
    (first
      | (go_at_call 37; refine (toStore_any s0 A0 n0 c0 u0 l0 _ t0 v0 (h0.below (B6.trans ((And.left ‹Below w6.heap.size w6 _ ∧ _›).mono B6.size)))).mono ?_; rintro e Wz ⟨Az, nz, cz, lz, rfl, ez, oz, hb⟩)
      | (go_at_call 40; refine (eqStore_same s0 u0 A4 _ n4 _ c4 _ l4 _ _ nx0 mx0 ?_ (RdI.below o4.rd (And.left ‹Below w6.heap.size w6 _ ∧ _›)) (OwnI.rd ‹_›)).mono ?_; exact e4.trans (Eq.symm (by assumption)); rintro e w7 ⟨rfl, hb⟩))
  obtain ⟨b7, d00, d01, d02, x00, x01, x02⟩ := ‹Below w6.heap.size w6 _ ∧ _›
  have B7 := B6.trans (b7.mono B6.size)
  replace o4 := o4.below b7
  clear b7
  go_wp2
  go_ret
  exact ⟨rfl, B7⟩

set_option maxRecDepth 100000 in
theorem lifted (os : Os) (started : os.Started) (H : Type) (enc : TypeId × Value → H) :
    ReturnsInHanded {} Try.checked os 14 .any (Rows.fnExactSizeStoreSpec.pre6 enc Try.prog Try.f14 Rows.fnExactSizeStoreRow.domain false) (Rows.fnExactSizeStoreSpec.post enc Try.prog Try.f14 false true false false) := by
  refine returnsInHanded_of_change (C := Try.checked) own started (by kernel_rfl) Try.func14
    (ChangeSpec.witness6 (enc := enc) (C := Try.checked) false ⟨#[], #[.agg #[.string ⟨#[]⟩, .slice none 0 0, .int .i64 0]], []⟩ 8 (by kernel_rfl) (by kernel_rfl) (by kernel_rfl) (by kernel_rfl)) ?_
  intro W base args ds gs before hval0 hW hcnd _
  have hval : ∀ (j : Nat) t v, Try.f14.params[j]? = some t → args[j]? = some v → Value.okWide Try.prog W .any base t v := hval0
  have hW' := hW
  obtain ⟨p, q, hA0, hV, rfl, hfz, hnd⟩ := hW
  have hA : DataW.TrodAll enc Try.prog W 0 (fun _ => true) true Try.f14.params.toList args.toList ds p := hA0
  rw [Try.params14] at hA hval
  obtain ⟨v0, vs0, d0, ds0, p0, q0, hargs, rfl, rfl, h0, z0⟩ := trodAll_cons hA
  obtain ⟨rfl, rfl, rfl⟩ := trodAll_nil z0
  obtain rfl : args = #[v0] := by cases args; simp_all
  obtain ⟨rfl, rfl⟩ := trodVars_none hV
  obtain ⟨s0, A0, n0, c0, u0, l0, rfl, k0, m0, o0, q0, ru0⟩ := open_store (hval 0 44 v0 rfl rfl) h0
  clear hA0 hval0
  exact (walk W s0 A0 n0 c0 u0 l0 k0 m0 o0 q0 ru0).mono fun e W' ⟨he, hb⟩ => ⟨_, he, law_post laidOut (by kernel_rfl) (tb := 4) rfl Try.underlying4 rfl hW' rfl hb⟩

theorem proved : Rows.FnExactSizeStoreSaid :=
  OpenClaim.holds_of_wide 14 Try.f14 rfl rfl rfl rfl rfl rfl rfl ⟨rfl, rfl, rfl, rfl, rfl⟩ rfl rfl rfl rfl rfl (by kernel_rfl) Try.func14 (joined_of (by kernel_rfl))
    (of_decide_eq_true (by kernel_rfl)) (by unfold Func.isWrapper; first | (rw [if_pos (by decide +kernel)]; kernel_rfl) | (rw [if_neg (by decide +kernel)]; exact ⟨rfl, rfl⟩))
    (fun os started H enc _ => lifted os started H enc)
#print axioms proved
end Go.Proofs.Ytbbngihmjdndoaa.fnExactSizeStore
