/-
  Proved: the law FnExactEqualStores answers true for every input and changes nothing that was there: the program's EqualStores returns what the reference's EqualStores returns. Conditions: none beyond those of the row.
  By an AI agent; no person has read it.
-/
import Derived.Test.YtbbngihmjdndoaaLaw
import Derived.Test.YtbbngihmjdndoaaItE
import Derived.Test.YtbbngihmjdndoaaItQ
import Derived.Test.YtbbngihmjdndoaaOpenS
import Derived.Test.YtbbngihmjdndoaaStep
namespace Go.Proofs.Ytbbngihmjdndoaa.fnExactEqualStores
open Go.ChangeShapes Go.WideShapes Go.ChangeAt Go.RowKit
open Go.ChangeMaps (open_string)
set_option linter.unusedVariables false
theorem al'' {w : World} (o : Obj) : Below w.heap.size w (w.alloc o) := (Below.refl _ _).alloc (Nat.le_refl _) o

set_option maxRecDepth 100000 in
set_option maxHeartbeats 4000000 in
theorem walk (w : World) (s0 : ByteArray) (A0 : Option Addr) (n0 c0 : Nat) (u0 : Int) (l0 : List Itm) (h0 : RdI w A0 n0 l0) (m0 : n0 ≤ maxLen) (o0 : okI (l0.map Itm.l)) (q0 : s0.size ≤ maxLen) (ru0 : i64R' u0) (s1 : ByteArray) (A1 : Option Addr) (n1 c1 : Nat) (u1 : Int) (l1 : List Itm) (h1 : RdI w A1 n1 l1) (m1 : n1 ≤ maxLen) (o1 : okI (l1.map Itm.l)) (q1 : s1.size ≤ maxLen) (ru1 : i64R' u1) :
    Calls Try.prog 10 #[.agg #[.string s0, .slice A0 n0 c0, .int .i64 u0], .agg #[.string s1, .slice A1 n1 c1, .int .i64 u1]] w fun e w' => e = .returned (.bool true) ∧ Below w.heap.size w w' := by
  unfold maxLen at m0 m1 q0 q1
  by_cases hb0 : (1048576 : Int) < (s0.size : Int) + n0 + sumL (l0.map Itm.l)
  · go_enter Try.func10, Try.ntmps10
    go_wp2_with fail
    refine (szStore_big s0 A0 n0 c0 u0 l0 (1048576) _ q0 m0 (by omega) (by omega) ((h0.alloc _).alloc _) o0 hb0).mono ?_
    rintro e w1 ⟨rfl, b1⟩
    go_wp2
    go_ret
    exact ⟨rfl, Below.trans (al (al (Below.refl _ _))) (b1.mono (by simp; omega))⟩
  have hs0 : (s0.size : Int) + n0 + sumL (l0.map Itm.l) ≤ 1048576 := by omega
  clear hb0
  by_cases hb1 : (1048576 - s0.size - n0 - sumL (l0.map Itm.l) : Int) < (s1.size : Int) + n1 + sumL (l1.map Itm.l)
  · go_enter Try.func10, Try.ntmps10
    go_wp2_with fail
    refine (szStore_ok s0 A0 n0 c0 u0 l0 (1048576) _ q0 m0 (by omega) (by omega) ((h0.alloc _).alloc _) o0 hs0).mono ?_
    rintro e w1 ⟨rfl, b1⟩
    have B1 : Below w.heap.size w w1 := Below.trans (al (al (Below.refl _ _))) (b1.mono (by simp; omega))
    have d00 : w1.cell? ⟨w.heap.size, 0, none⟩ = some (.string s0) := kcell b1 (by simp [go_sem])
    have d01 : w1.cell? ⟨w.heap.size, 1, none⟩ = some (.slice A0 n0 c0) := kcell b1 (by simp [go_sem])
    have d02 : w1.cell? ⟨w.heap.size, 2, none⟩ = some (.int .i64 u0) := kcell b1 (by simp [go_sem])
    have d10 : w1.cell? ⟨w.heap.size + 1, 0, none⟩ = some (.string s1) := kcell b1 (by simp [go_sem])
    have d11 : w1.cell? ⟨w.heap.size + 1, 1, none⟩ = some (.slice A1 n1 c1) := kcell b1 (by simp [go_sem])
    have d12 : w1.cell? ⟨w.heap.size + 1, 2, none⟩ = some (.int .i64 u1) := kcell b1 (by simp [go_sem])
    clear b1
    go_wp2_with fail
    refine (szStore_big s1 A1 n1 c1 u1 l1 (1048576 - s0.size - n0 - sumL (l0.map Itm.l)) _ q1 m1 (by omega) (by omega) (h1.below B1) o1 hb1).mono ?_
    rintro e w2 ⟨rfl, b2⟩
    go_wp2
    go_ret
    exact ⟨rfl, B1.trans (b2.mono B1.size)⟩
  have hs1 : (s1.size : Int) + n1 + sumL (l1.map Itm.l) ≤ 1048576 - s0.size - n0 - sumL (l0.map Itm.l) := by omega
  clear hb1
  have t0 : n0 ≤ 1099511627776 := by omega
  have v0 : ∀ x ∈ l0, x.m ≤ 1099511627776 := rdI_small h0 (by omega)
  have zL0 : (l0.map Itm.l).length ≤ maxLen := by rw [List.length_map]; have := h0.lenI; unfold maxLen; omega
  have t1 : n1 ≤ 1099511627776 := by omega
  have v1 : ∀ x ∈ l1, x.m ≤ 1099511627776 := rdI_small h1 (by omega)
  have zL1 : (l1.map Itm.l).length ≤ maxLen := by rw [List.length_map]; have := h1.lenI; unfold maxLen; omega
  obtain ⟨r, hr⟩ : ∃ r, r = eqSt s0 u0 (l0.map Itm.l) s1 u1 (l1.map Itm.l) := ⟨_, rfl⟩
  have HR := Lib.hid hr
  clear hr
  have hrr : (r == r) = true := by simp
  go_enter Try.func10, Try.ntmps10
  go_wp2_with fail
  refine (szStore_ok s0 A0 n0 c0 u0 l0 (1048576) _ q0 m0 (by omega) (by omega) ((h0.alloc _).alloc _) o0 hs0).mono ?_
  rintro e w1 ⟨rfl, b1⟩
  have B1 : Below w.heap.size w w1 := Below.trans (al (al (Below.refl _ _))) (b1.mono (by simp; omega))
  have d00 : w1.cell? ⟨w.heap.size, 0, none⟩ = some (.string s0) := kcell b1 (by simp [go_sem])
  have d01 : w1.cell? ⟨w.heap.size, 1, none⟩ = some (.slice A0 n0 c0) := kcell b1 (by simp [go_sem])
  have d02 : w1.cell? ⟨w.heap.size, 2, none⟩ = some (.int .i64 u0) := kcell b1 (by simp [go_sem])
  have d10 : w1.cell? ⟨w.heap.size + 1, 0, none⟩ = some (.string s1) := kcell b1 (by simp [go_sem])
  have d11 : w1.cell? ⟨w.heap.size + 1, 1, none⟩ = some (.slice A1 n1 c1) := kcell b1 (by simp [go_sem])
  have d12 : w1.cell? ⟨w.heap.size + 1, 2, none⟩ = some (.int .i64 u1) := kcell b1 (by simp [go_sem])
  clear b1
  go_wp2_with fail
  refine (szStore_ok s1 A1 n1 c1 u1 l1 (1048576 - s0.size - n0 - sumL (l0.map Itm.l)) _ q1 m1 (by omega) (by omega) (h1.below B1) o1 hs1).mono ?_
  rintro e w2 ⟨rfl, b2⟩
  have B2 := B1.trans (b2.mono B1.size)
  replace d00 := kcell b2 d00
  replace d01 := kcell b2 d01
  replace d02 := kcell b2 d02
  replace d10 := kcell b2 d10
  replace d11 := kcell b2 d11
  replace d12 := kcell b2 d12
  clear b2
  go_wp2
  go_region_held3 (fun W => Below w2.heap.size w2 W ∧ W.cell? ⟨w.heap.size, 0, none⟩ = some (.string s0) ∧ W.cell? ⟨w.heap.size, 1, none⟩ = some (.slice A0 n0 c0) ∧ W.cell? ⟨w.heap.size, 2, none⟩ = some (.int .i64 u0) ∧ W.cell? ⟨w.heap.size + 1, 0, none⟩ = some (.string s1) ∧ W.cell? ⟨w.heap.size + 1, 1, none⟩ = some (.slice A1 n1 c1) ∧ W.cell? ⟨w.heap.size + 1, 2, none⟩ = some (.int .i64 u1))
    (first | assumption | (refine sz6 ?_ hb rfl; assumption) | exact ⟨(Below.refl _ _).drew, d00, d01, d02, d10, d11, d12⟩)
    (first
      | (go_at_call 37; refine (toStore_any _ _ _ _ _ ?_ _ ?_ ?_ ?_).mono ?_; rotate_left 3; (first | exact h0.below (B2.trans ((And.left ‹Below w2.heap.size w2 _ ∧ _›).mono B2.size)) | exact h1.below (B2.trans ((And.left ‹Below w2.heap.size w2 _ ∧ _›).mono B2.size))); rotate_left 1; (first | exact t0 | exact t1); (first | exact v0 | exact v1); rintro e W1 ⟨Aa, na, ca, la, rfl, ea, oa, hb⟩)
      | (go_at_call 46; refine (specEqualStores_L (l0.map Itm.l) (l1.map Itm.l) s0 s1 _ _ _ _ _ _ u0 u1 _ _ r _ zL0 zL1 o0 o1 HR.out (RdI.below (OwnI.rd ‹_›) ‹_›) (OwnI.rd ‹_›) ‹_› ‹_›).mono ?_; rintro e w3 ⟨rfl, hb⟩))
  obtain ⟨b3, d00, d01, d02, d10, d11, d12⟩ := ‹Below w2.heap.size w2 _ ∧ _›
  have B3 := B2.trans (b3.mono B2.size)
  clear b3
  go_wp2_with fail
  refine (toStore_any s0 A0 n0 c0 u0 l0 _ t0 v0 (h0.below B3)).mono ?_
  rintro e w4 ⟨A4, n4, c4, l4, rfl, e4, o4, b4⟩
  have B4 := B3.trans (b4.mono B3.size)
  replace d00 := kcell b4 d00
  replace d01 := kcell b4 d01
  replace d02 := kcell b4 d02
  replace d10 := kcell b4 d10
  replace d11 := kcell b4 d11
  replace d12 := kcell b4 d12
  clear b4
  have B5 : Below w.heap.size w (w4.alloc (.cells #[.string s0, .slice A4 n4 c4, .int .i64 u0] 52)) := al B4
  replace o4 := o4.below (al'' (.cells #[.string s0, .slice A4 n4 c4, .int .i64 u0] 52))
  replace d00 := kcell (al'' (.cells #[.string s0, .slice A4 n4 c4, .int .i64 u0] 52)) d00
  replace d01 := kcell (al'' (.cells #[.string s0, .slice A4 n4 c4, .int .i64 u0] 52)) d01
  replace d02 := kcell (al'' (.cells #[.string s0, .slice A4 n4 c4, .int .i64 u0] 52)) d02
  replace d10 := kcell (al'' (.cells #[.string s0, .slice A4 n4 c4, .int .i64 u0] 52)) d10
  replace d11 := kcell (al'' (.cells #[.string s0, .slice A4 n4 c4, .int .i64 u0] 52)) d11
  replace d12 := kcell (al'' (.cells #[.string s0, .slice A4 n4 c4, .int .i64 u0] 52)) d12
  have x00 : (w4.alloc (.cells #[.string s0, .slice A4 n4 c4, .int .i64 u0] 52)).cell? ⟨w4.heap.size, 0, none⟩ = some (.string s0) := by simp
  have x01 : (w4.alloc (.cells #[.string s0, .slice A4 n4 c4, .int .i64 u0] 52)).cell? ⟨w4.heap.size, 1, none⟩ = some (.slice A4 n4 c4) := by simp
  have x02 : (w4.alloc (.cells #[.string s0, .slice A4 n4 c4, .int .i64 u0] 52)).cell? ⟨w4.heap.size, 2, none⟩ = some (.int .i64 u0) := by simp
  go_wp2_with fail
  refine (toStore_any s1 A1 n1 c1 u1 l1 _ t1 v1 (h1.below B5)).mono ?_
  rintro e w6 ⟨A6, n6, c6, l6, rfl, e6, o6, b6⟩
  have B6 := B5.trans (b6.mono B5.size)
  replace o4 := o4.below b6
  replace d00 := kcell b6 d00
  replace d01 := kcell b6 d01
  replace d02 := kcell b6 d02
  replace d10 := kcell b6 d10
  replace d11 := kcell b6 d11
  replace d12 := kcell b6 d12
  replace x00 := kcell b6 x00
  replace x01 := kcell b6 x01
  replace x02 := kcell b6 x02
  clear b6
  have B7 : Below w.heap.size w (w6.alloc (.cells #[.string s1, .slice A6 n6 c6, .int .i64 u1] 52)) := al B6
  replace o6 := o6.below (al'' (.cells #[.string s1, .slice A6 n6 c6, .int .i64 u1] 52))
  replace o4 := o4.below (al'' (.cells #[.string s1, .slice A6 n6 c6, .int .i64 u1] 52))
  replace d00 := kcell (al'' (.cells #[.string s1, .slice A6 n6 c6, .int .i64 u1] 52)) d00
  replace d01 := kcell (al'' (.cells #[.string s1, .slice A6 n6 c6, .int .i64 u1] 52)) d01
  replace d02 := kcell (al'' (.cells #[.string s1, .slice A6 n6 c6, .int .i64 u1] 52)) d02
  replace d10 := kcell (al'' (.cells #[.string s1, .slice A6 n6 c6, .int .i64 u1] 52)) d10
  replace d11 := kcell (al'' (.cells #[.string s1, .slice A6 n6 c6, .int .i64 u1] 52)) d11
  replace d12 := kcell (al'' (.cells #[.string s1, .slice A6 n6 c6, .int .i64 u1] 52)) d12
  replace x00 := kcell (al'' (.cells #[.string s1, .slice A6 n6 c6, .int .i64 u1] 52)) x00
  replace x01 := kcell (al'' (.cells #[.string s1, .slice A6 n6 c6, .int .i64 u1] 52)) x01
  replace x02 := kcell (al'' (.cells #[.string s1, .slice A6 n6 c6, .int .i64 u1] 52)) x02
  have x10 : (w6.alloc (.cells #[.string s1, .slice A6 n6 c6, .int .i64 u1] 52)).cell? ⟨w6.heap.size, 0, none⟩ = some (.string s1) := by simp
  have x11 : (w6.alloc (.cells #[.string s1, .slice A6 n6 c6, .int .i64 u1] 52)).cell? ⟨w6.heap.size, 1, none⟩ = some (.slice A6 n6 c6) := by simp
  have x12 : (w6.alloc (.cells #[.string s1, .slice A6 n6 c6, .int .i64 u1] 52)).cell? ⟨w6.heap.size, 2, none⟩ = some (.int .i64 u1) := by simp
  go_wp2_with fail
  refine (implEqualStores_any s0 s1 A4 A6 n4 n6 c4 c6 u0 u1 l4 l6 r _ (rdI_n o4.rd h0 e4 ▸ (by unfold maxLen; omega)) (rdI_n o6.rd h1 e6 ▸ (by unfold maxLen; omega)) o4.rd o6.rd (rdI_m o4.rd e4 o0) (rdI_m o6.rd e6 o1) (by rw [e4, e6]; exact HR.out)).mono ?_
  rintro e w8 ⟨rfl, b8⟩
  have B8 := B7.trans (b8.mono B7.size)
  replace o4 := o4.below b8
  replace o6 := o6.below b8
  replace d00 := kcell b8 d00
  replace d01 := kcell b8 d01
  replace d02 := kcell b8 d02
  replace d10 := kcell b8 d10
  replace d11 := kcell b8 d11
  replace d12 := kcell b8 d12
  replace x00 := kcell b8 x00
  replace x01 := kcell b8 x01
  replace x02 := kcell b8 x02
  replace x10 := kcell b8 x10
  replace x11 := kcell b8 x11
  replace x12 := kcell b8 x12
  clear b8
  have nx0 : n4 ≤ maxLen := by have q := rdI_n o4.rd h0 e4; unfold maxLen; omega
  have mx0 := rdI_m o4.rd e4 o0
  go_wp2
  go_region_held3 (fun W => Below w8.heap.size w8 W ∧ W.cell? ⟨w.heap.size, 0, none⟩ = some (.string s0) ∧ W.cell? ⟨w.heap.size, 1, none⟩ = some (.slice A0 n0 c0) ∧ W.cell? ⟨w.heap.size, 2, none⟩ = some (.int .i64 u0) ∧ W.cell? ⟨w.heap.size + 1, 0, none⟩ = some (.string s1) ∧ W.cell? ⟨w.heap.size + 1, 1, none⟩ = some (.slice A1 n1 c1) ∧ W.cell? ⟨w.heap.size + 1, 2, none⟩ = some (.int .i64 u1) ∧ W.cell? ⟨w4.heap.size, 0, none⟩ = some (.string s0) ∧ W.cell? ⟨w4.heap.size, 1, none⟩ = some (.slice A4 n4 c4) ∧ W.cell? ⟨w4.heap.size, 2, none⟩ = some (.int .i64 u0) ∧ W.cell? ⟨w6.heap.size, 0, none⟩ = some (.string s1) ∧ W.cell? ⟨w6.heap.size, 1, none⟩ = some (.slice A6 n6 c6) ∧ W.cell? ⟨w6.heap.size, 2, none⟩ = some (.int .i64 u1))
    (first | assumption | (refine sz12 ?_ hb rfl; assumption) | exact ⟨(Below.refl _ _).drew, d00, d01, d02, d10, d11, d12, x00, x01, x02, x10, x11, x12⟩)
    (first
      | (go_at_call 37; refine (toStore_any s0 A0 n0 c0 u0 l0 _ t0 v0 (h0.below (B8.trans ((And.left ‹Below w8.heap.size w8 _ ∧ _›).mono B8.size)))).mono ?_; rintro e Wz ⟨Az, nz, cz, lz, rfl, ez, oz, hb⟩)
      | (go_at_call 40; refine (eqStore_same s0 u0 A4 _ n4 _ c4 _ l4 _ _ nx0 mx0 ?_ (RdI.below o4.rd (And.left ‹Below w8.heap.size w8 _ ∧ _›)) (OwnI.rd ‹_›)).mono ?_; exact e4.trans (Eq.symm (by assumption)); rintro e w9 ⟨rfl, hb⟩))
  obtain ⟨b9, d00, d01, d02, d10, d11, d12, x00, x01, x02, x10, x11, x12⟩ := ‹Below w8.heap.size w8 _ ∧ _›
  have B9 := B8.trans (b9.mono B8.size)
  replace o4 := o4.below b9
  replace o6 := o6.below b9
  clear b9
  have nx1 : n6 ≤ maxLen := by have q := rdI_n o6.rd h1 e6; unfold maxLen; omega
  have mx1 := rdI_m o6.rd e6 o1
  go_wp2
  go_region_held3 (fun W => Below w9.heap.size w9 W ∧ W.cell? ⟨w.heap.size, 0, none⟩ = some (.string s0) ∧ W.cell? ⟨w.heap.size, 1, none⟩ = some (.slice A0 n0 c0) ∧ W.cell? ⟨w.heap.size, 2, none⟩ = some (.int .i64 u0) ∧ W.cell? ⟨w.heap.size + 1, 0, none⟩ = some (.string s1) ∧ W.cell? ⟨w.heap.size + 1, 1, none⟩ = some (.slice A1 n1 c1) ∧ W.cell? ⟨w.heap.size + 1, 2, none⟩ = some (.int .i64 u1) ∧ W.cell? ⟨w4.heap.size, 0, none⟩ = some (.string s0) ∧ W.cell? ⟨w4.heap.size, 1, none⟩ = some (.slice A4 n4 c4) ∧ W.cell? ⟨w4.heap.size, 2, none⟩ = some (.int .i64 u0) ∧ W.cell? ⟨w6.heap.size, 0, none⟩ = some (.string s1) ∧ W.cell? ⟨w6.heap.size, 1, none⟩ = some (.slice A6 n6 c6) ∧ W.cell? ⟨w6.heap.size, 2, none⟩ = some (.int .i64 u1))
    (first | assumption | (refine sz12 ?_ hb rfl; assumption) | exact ⟨(Below.refl _ _).drew, d00, d01, d02, d10, d11, d12, x00, x01, x02, x10, x11, x12⟩)
    (first
      | (go_at_call 37; refine (toStore_any s1 A1 n1 c1 u1 l1 _ t1 v1 (h1.below (B9.trans ((And.left ‹Below w9.heap.size w9 _ ∧ _›).mono B9.size)))).mono ?_; rintro e Wz ⟨Az, nz, cz, lz, rfl, ez, oz, hb⟩)
      | (go_at_call 40; refine (eqStore_same s1 u1 A6 _ n6 _ c6 _ l6 _ _ nx1 mx1 ?_ (RdI.below o6.rd (And.left ‹Below w9.heap.size w9 _ ∧ _›)) (OwnI.rd ‹_›)).mono ?_; exact e6.trans (Eq.symm (by assumption)); rintro e w10 ⟨rfl, hb⟩))
  obtain ⟨b10, d00, d01, d02, d10, d11, d12, x00, x01, x02, x10, x11, x12⟩ := ‹Below w9.heap.size w9 _ ∧ _›
  have B10 := B9.trans (b10.mono B9.size)
  replace o4 := o4.below b10
  replace o6 := o6.below b10
  clear b10
  go_wp2
  go_ret
  exact ⟨rfl, B10⟩

set_option maxRecDepth 100000 in
theorem lifted (os : Os) (started : os.Started) (H : Type) (enc : TypeId × Value → H) :
    ReturnsInHanded {} Try.checked os 10 .any (Rows.fnExactEqualStoresSpec.pre6 enc Try.prog Try.f10 Rows.fnExactEqualStoresRow.domain false) (Rows.fnExactEqualStoresSpec.post enc Try.prog Try.f10 false true false false) := by
  refine returnsInHanded_of_change (C := Try.checked) own started (by kernel_rfl) Try.func10
    (ChangeSpec.witness6 (enc := enc) (C := Try.checked) false ⟨#[], #[.agg #[.string ⟨#[]⟩, .slice none 0 0, .int .i64 0], .agg #[.string ⟨#[]⟩, .slice none 0 0, .int .i64 0]], []⟩ 8 (by kernel_rfl) (by kernel_rfl) (by kernel_rfl) (by kernel_rfl)) ?_
  intro W base args ds gs before hval0 hW hcnd _
  have hval : ∀ (j : Nat) t v, Try.f10.params[j]? = some t → args[j]? = some v → Value.okWide Try.prog W .any base t v := hval0
  have hW' := hW
  obtain ⟨p, q, hA0, hV, rfl, hfz, hnd⟩ := hW
  have hA : DataW.TrodAll enc Try.prog W 0 (fun _ => true) true Try.f10.params.toList args.toList ds p := hA0
  rw [Try.params10] at hA hval
  obtain ⟨v0, vs0, d0, ds0, p0, q0, hargs, rfl, rfl, h0, z0⟩ := trodAll_cons hA
  obtain ⟨v1, vs1, d1, ds1, p1, q1, rfl, rfl, rfl, h1, z1⟩ := trodAll_cons z0
  obtain ⟨rfl, rfl, rfl⟩ := trodAll_nil z1
  obtain rfl : args = #[v0, v1] := by cases args; simp_all
  obtain ⟨rfl, rfl⟩ := trodVars_none hV
  obtain ⟨s0, A0, n0, c0, u0, l0, rfl, k0, m0, o0, q0, ru0⟩ := open_store (hval 0 44 v0 rfl rfl) h0
  obtain ⟨s1, A1, n1, c1, u1, l1, rfl, k1, m1, o1, q1, ru1⟩ := open_store (hval 1 44 v1 rfl rfl) h1
  clear hA0 hval0
  exact (walk W s0 A0 n0 c0 u0 l0 k0 m0 o0 q0 ru0 s1 A1 n1 c1 u1 l1 k1 m1 o1 q1 ru1).mono fun e W' ⟨he, hb⟩ => ⟨_, he, law_post laidOut (by kernel_rfl) (tb := 4) rfl Try.underlying4 rfl hW' rfl hb⟩

theorem proved : Rows.FnExactEqualStoresSaid :=
  OpenClaim.holds_of_wide 10 Try.f10 rfl rfl rfl rfl rfl rfl rfl ⟨rfl, rfl, rfl, rfl, rfl⟩ rfl rfl rfl rfl rfl (by kernel_rfl) Try.func10 (joined_of (by kernel_rfl))
    (of_decide_eq_true (by kernel_rfl)) (by unfold Func.isWrapper; first | (rw [if_pos (by decide +kernel)]; kernel_rfl) | (rw [if_neg (by decide +kernel)]; exact ⟨rfl, rfl⟩))
    (fun os started H enc _ => lifted os started H enc)
#print axioms proved
end Go.Proofs.Ytbbngihmjdndoaa.fnExactEqualStores
