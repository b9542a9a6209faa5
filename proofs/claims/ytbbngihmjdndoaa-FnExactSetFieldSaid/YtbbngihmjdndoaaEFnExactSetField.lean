/-
  Proved: the law FnExactSetField answers true for every input and changes nothing that was there: the program's SetField returns what the reference's SetField returns. Conditions: none beyond those of the row.
  By an AI agent; no person has read it.
-/
import Derived.Test.YtbbngihmjdndoaaLaw
import Derived.Test.YtbbngihmjdndoaaFldSs
import Derived.Test.YtbbngihmjdndoaaFldQ
import Derived.Test.YtbbngihmjdndoaaOpenR
import Derived.Test.YtbbngihmjdndoaaStep
namespace Go.Proofs.Ytbbngihmjdndoaa.fnExactSetField
open Go.ChangeShapes Go.WideShapes Go.ChangeAt Go.RowKit
open Go.ChangeMaps (open_string)
set_option linter.unusedVariables false
theorem setR_len {l : List Fld} {nm : ByteArray} {x : Int} {lr : List Fld} {r : Bool} (h : (lr, r) = setR l nm x) : lr.length ≤ l.length + 1 := by
  have hi : (insF l nm x).length ≤ l.length + 1 := by
    unfold insF
    rw [List.length_append, List.length_cons, List.length_take, List.length_drop]
    omega
  unfold setR at h
  split at h
  · obtain rfl : lr = setS l nm x := (Prod.mk.inj h).1
    unfold setS
    split
    · split
      · simp
      · exact hi
    · exact hi
  · obtain rfl : lr = l := (Prod.mk.inj h).1
    omega
theorem al'' {w : World} (o : Obj) : Below w.heap.size w (w.alloc o) := (Below.refl _ _).alloc (Nat.le_refl _) o

set_option maxRecDepth 100000 in
set_option maxHeartbeats 4000000 in
theorem walk (w : World) (A0 : Option Addr) (n0 c0 : Nat) (l0 : List Fld) (h0 : Rd w 2 A0 n0 (fl l0)) (m0 : n0 ≤ maxLen) (o0 : okF l0) (s1 : ByteArray) (m1 : s1.size ≤ maxLen) (a2 : Int) (h2 : -9223372036854775808 ≤ a2 ∧ a2 ≤ 9223372036854775807) :
    Calls Try.prog 12 #[.agg #[.slice A0 n0 c0], .string s1, .int .i64 a2] w fun e w' => e = .returned (.bool true) ∧ Below w.heap.size w w' := by
  unfold maxLen at m1
  unfold maxLen at m0
  by_cases hbs1 : 1048576 < s1.size
  · go_enter Try.func12, Try.ntmps12
    go_wp2
    go_ret
    exact ⟨rfl, al (Below.refl _ _)⟩
  have q1s : s1.size ≤ 1048576 := by omega
  clear hbs1
  by_cases hb0 : (1048576 : Int) < (n0 : Int) + sumF l0
  · go_enter Try.func12, Try.ntmps12
    go_wp2_with fail
    refine (szRecord_big A0 n0 c0 l0 (1048576) _ m0 (by omega) (by omega) (h0.alloc _) o0 hb0).mono ?_
    rintro e w1 ⟨rfl, b1⟩
    go_wp2
    go_ret
    exact ⟨rfl, Below.trans (al (Below.refl _ _)) (b1.mono (by simp))⟩
  have hs0 : (n0 : Int) + sumF l0 ≤ 1048576 := by omega
  clear hb0
  have v0 : l0.length ≤ maxLen := by unfold maxLen; have := h0.lenF; omega
  have q0 : n0 ≤ 1099511627776 := by omega
  have k0 : l0.length ≤ 1048576 := by have := h0.lenF; omega
  obtain ⟨lr, r, hr⟩ : ∃ lr r, (lr, r) = setR l0 s1 a2 := ⟨_, _, rfl⟩
  have hlr : lr.length ≤ 2097152 := by have := setR_len hr; omega
  have HR := Lib.hid hr
  clear hr
  have hrr : (r == r) = true := by simp
  go_enter Try.func12, Try.ntmps12
  go_wp2_with fail
  refine (szRecord_ok A0 n0 c0 l0 (1048576) _ m0 (by omega) (h0.alloc _) o0 hs0).mono ?_
  rintro e w1 ⟨rfl, b1⟩
  have B1 : Below w.heap.size w w1 := Below.trans (al (Below.refl _ _)) (b1.mono (by simp))
  have zs1 : Hid (w.heap.size + 1 ≤ w1.heap.size) := Lib.hid (by have q := b1.size; simp at q; omega)
  have dp0 : w1.cell? ⟨w.heap.size, 0, none⟩ = some (.slice A0 n0 c0) := kcell b1 (by simp)
  clear b1
  go_wp2_with fail
  refine (toRecord_any A0 n0 c0 l0 _ q0 (h0.below B1)).mono ?_
  rintro e w2 ⟨A2, n2, c2, rfl, o2, b2⟩
  have R2 := Lib.hid (own_rng o2)
  have hn2 : n2 ≤ 2097152 := by have q1 := own_lenF o2; omega
  have B2 : Below w.heap.size w w2 := B1.trans (b2.mono B1.size)
  have zs2 : Hid (w1.heap.size ≤ w2.heap.size) := Lib.hid (b2.size)
  replace dp0 := kcell b2 dp0
  clear b2
  go_wp2_with fail
  refine (specSetField_any A2 n2 c2 _ l0 s1 a2 lr r _ (by have q1 := own_lenF o2; omega) o2 o0 (by unfold maxLen; omega) h2 HR.out).mono ?_
  rintro e w3 ⟨A3, n3, c3, rfl, o3, b3⟩
  have R3 := Lib.hid (own_rng o3)
  have hn3 : n3 ≤ 2097152 := by have q1 := own_lenF o3; omega
  have B3 : Below w.heap.size w w3 := B2.trans (b3.mono B2.size)
  have zs3 : Hid (w2.heap.size ≤ w3.heap.size) := Lib.hid (b3.size)
  replace o2 := own_below o2 b3
  replace dp0 := kcell b3 dp0
  clear b3
  clear o2
  replace o3 := own_below o3 (al'' (.cells #[.slice A3 n3 c3] 28))
  replace dp0 := kcell (al'' (.cells #[.slice A3 n3 c3] 28)) dp0
  have dw0 : (w3.alloc (.cells #[.slice A3 n3 c3] 28)).cell? ⟨w3.heap.size, 0, none⟩ = some (.slice A3 n3 c3) := by simp
  have B4 : Below w.heap.size w (w3.alloc (.cells #[.slice A3 n3 c3] 28)) := al B3
  have zs4 : Hid (w3.heap.size < (w3.alloc (.cells #[.slice A3 n3 c3] 28)).heap.size) := Lib.hid (by simp)
  go_wp2_with fail
  refine (toRecord_any A0 n0 c0 l0 _ q0 (h0.below B4)).mono ?_
  rintro e w5 ⟨A5, n5, c5, rfl, o5, b5⟩
  have R5 := Lib.hid (own_rng o5)
  have hn5 : n5 ≤ 2097152 := by have q1 := own_lenF o5; omega
  have B5 : Below w.heap.size w w5 := B4.trans (b5.mono B4.size)
  have zs5 : Hid ((w3.alloc (.cells #[.slice A3 n3 c3] 28)).heap.size ≤ w5.heap.size) := Lib.hid (b5.size)
  replace o3 := own_below o3 b5
  replace dp0 := kcell b5 dp0
  replace dw0 := kcell b5 dw0
  clear b5
  replace o3 := own_below o3 (al'' (.cells #[.slice A5 n5 c5] 28))
  replace o5 := own_below o5 (al'' (.cells #[.slice A5 n5 c5] 28))
  replace dp0 := kcell (al'' (.cells #[.slice A5 n5 c5] 28)) dp0
  replace dw0 := kcell (al'' (.cells #[.slice A5 n5 c5] 28)) dw0
  have dx0 : (w5.alloc (.cells #[.slice A5 n5 c5] 28)).cell? ⟨w5.heap.size, 0, none⟩ = some (.slice A5 n5 c5) := by simp
  have B6 : Below w.heap.size w (w5.alloc (.cells #[.slice A5 n5 c5] 28)) := al B5
  have zs6 : Hid (w5.heap.size < (w5.alloc (.cells #[.slice A5 n5 c5] 28)).heap.size) := Lib.hid (by simp)
  go_wp2_with fail
  refine (implSetField_any A5 n5 c5 l0 s1 a2 lr r _ (by have q1 := own_lenF o5; omega) (Rd.of_own o5) o0 (by unfold maxLen; omega) h2 HR.out).mono ?_
  rintro e w7 ⟨A7, n7, c7, rfl, o7, b7⟩
  have R7 := Lib.hid (own_rng o7)
  have hn7 : n7 ≤ 2097152 := by have q1 := own_lenF o7; omega
  have B7 : Below w.heap.size w w7 := B6.trans (b7.mono B6.size)
  have zs7 : Hid ((w5.alloc (.cells #[.slice A5 n5 c5] 28)).heap.size ≤ w7.heap.size) := Lib.hid (b7.size)
  replace o3 := own_below o3 b7
  replace o5 := own_below o5 b7
  replace dp0 := kcell b7 dp0
  replace dw0 := kcell b7 dw0
  replace dx0 := kcell b7 dx0
  clear b7
  replace o3 := own_below o3 (al'' (.cells #[.slice A7 n7 c7] 28))
  replace o5 := own_below o5 (al'' (.cells #[.slice A7 n7 c7] 28))
  replace o7 := own_below o7 (al'' (.cells #[.slice A7 n7 c7] 28))
  replace dp0 := kcell (al'' (.cells #[.slice A7 n7 c7] 28)) dp0
  replace dw0 := kcell (al'' (.cells #[.slice A7 n7 c7] 28)) dw0
  replace dx0 := kcell (al'' (.cells #[.slice A7 n7 c7] 28)) dx0
  have dg0 : (w7.alloc (.cells #[.slice A7 n7 c7] 28)).cell? ⟨w7.heap.size, 0, none⟩ = some (.slice A7 n7 c7) := by simp
  have B8 : Below w.heap.size w (w7.alloc (.cells #[.slice A7 n7 c7] 28)) := al B7
  have zs8 : Hid (w7.heap.size < (w7.alloc (.cells #[.slice A7 n7 c7] 28)).heap.size) := Lib.hid (by simp)
  go_wp2_with fail
  refine (eqRecord_same A7 A3 n7 n3 c7 c3 lr _ (by unfold maxLen; omega) (Rd.of_own o7) (Rd.of_own o3)).mono ?_
  rintro e w9 ⟨rfl, b9⟩
  have B9 : Below w.heap.size w w9 := B8.trans (b9.mono B8.size)
  have zs9 : Hid ((w7.alloc (.cells #[.slice A7 n7 c7] 28)).heap.size ≤ w9.heap.size) := Lib.hid (b9.size)
  replace o3 := own_below o3 b9
  replace o5 := own_below o5 b9
  replace o7 := own_below o7 b9
  replace dp0 := kcell b9 dp0
  replace dw0 := kcell b9 dw0
  replace dx0 := kcell b9 dx0
  replace dg0 := kcell b9 dg0
  clear b9
  go_wp2
  go_region_held3 (fun W => Below w9.heap.size w9 W ∧ W.cell? ⟨w.heap.size, 0, none⟩ = some (.slice A0 n0 c0) ∧ W.cell? ⟨w3.heap.size, 0, none⟩ = some (.slice A3 n3 c3) ∧ W.cell? ⟨w5.heap.size, 0, none⟩ = some (.slice A5 n5 c5) ∧ W.cell? ⟨w7.heap.size, 0, none⟩ = some (.slice A7 n7 c7))
    (first | assumption | (refine sz4 ?_ hb rfl; assumption) | exact ⟨(Below.refl _ _).drew, dp0, dw0, dx0, dg0⟩)
    (first
      | (go_at_call 21; refine (toRecord_any A0 n0 c0 l0 _ q0 (h0.below (B9.trans ((And.left ‹Below w9.heap.size w9 _ ∧ _›).mono B9.size)))).mono ?_; rintro e W1 ⟨Ae, ne, ce, rfl, oe, hb⟩)
      | (go_at_call 23; refine (eqRecord_same A5 _ n5 _ c5 _ l0 _ (by unfold maxLen; omega) ((Rd.of_own o5).below (And.left ‹Below w9.heap.size w9 _ ∧ _›)) (Rd.of_own ‹_›)).mono ?_; rintro e w10 ⟨rfl, hb⟩))
  obtain ⟨b10, dp0, dw0, dx0, dg0⟩ := ‹Below w9.heap.size w9 w10 ∧ _›
  have B10 := B9.trans (b10.mono B9.size)
  have zs10 : Hid (w9.heap.size ≤ w10.heap.size) := Lib.hid (b10.size)
  replace o3 := own_below o3 b10
  replace o5 := own_below o5 b10
  replace o7 := own_below o7 b10
  clear b10
  obtain ⟨e0, he0⟩ : ∃ q, q = 1 + 2 * n5 := ⟨_, rfl⟩
  have He0 := Lib.hid he0
  have le0 : e0 ≤ 1099511627776 := by omega
  have pe0 : 0 < e0 := by omega
  have ie0 : ¬ ((e0 : Nat) : Int) < 0 := by omega
  clear he0
  go_wp2_with fail
  refine (markRecord_q A5 n5 c5 _ 1 e0 _ _ (by omega) (by have e := He0.out; omega) He0.out o5).mono ?_
  rintro e w11 ⟨rfl, o5m, g11⟩
  have B11 : Below w.heap.size w w11 := B10.trans (grown_below g11 B10.size (fun ad h => by have r := R5.out ad h; have zc1 := zs1.out; have zc2 := zs2.out; have zc3 := zs3.out; have zc4 := zs4.out; omega))
  replace o3 := own_grown o3 g11 (sep_rng R3.out R5.out (.inl (by have zc4 := zs4.out; omega)))
  replace o7 := own_grown o7 g11 (sep_rng R7.out R5.out (.inr (by have zc6 := zs6.out; omega)))
  replace dp0 := cell_apart g11 dp0 (fun ad h => by have r := R5.out ad h; have zc1 := zs1.out; have zc2 := zs2.out; have zc3 := zs3.out; have zc4 := zs4.out; omega)
  replace dw0 := cell_apart g11 dw0 (fun ad h => by have r := R5.out ad h; have zc4 := zs4.out; omega)
  replace dx0 := cell_apart g11 dx0 (fun ad h => by have r := R5.out ad h;  omega)
  replace dg0 := cell_apart g11 dg0 (fun ad h => by have r := R5.out ad h; have zc6 := zs6.out; have zc7 := zs7.out; omega)
  replace o5 := o5m
  clear o5m
  have zs11 : Hid (w10.heap.size ≤ w11.heap.size) := Lib.hid (g11.size)
  clear g11
  go_wp2_with fail
  refine (eqRecord_same A7 A3 n7 n3 c7 c3 lr _ (by unfold maxLen; omega) (Rd.of_own o7) (Rd.of_own o3)).mono ?_
  rintro e w12 ⟨rfl, b12⟩
  have B12 : Below w.heap.size w w12 := B11.trans (b12.mono B11.size)
  have zs12 : Hid (w11.heap.size ≤ w12.heap.size) := Lib.hid (b12.size)
  replace o3 := own_below o3 b12
  replace o5 := own_below o5 b12
  replace o7 := own_below o7 b12
  replace dp0 := kcell b12 dp0
  replace dw0 := kcell b12 dw0
  replace dx0 := kcell b12 dx0
  replace dg0 := kcell b12 dg0
  clear b12
  obtain ⟨eg, heg⟩ : ∃ q, q = 1 + 2 * n7 := ⟨_, rfl⟩
  have Heg := Lib.hid heg
  have leg : eg ≤ 1099511627776 := by omega
  have peg : 0 < eg := by omega
  have ieg : ¬ ((eg : Nat) : Int) < 0 := by omega
  clear heg
  go_wp2_with fail
  refine (markRecord_q A7 n7 c7 _ 1 eg _ _ (by omega) (by have e := Heg.out; omega) Heg.out o7).mono ?_
  rintro e w13 ⟨rfl, o7m, g13⟩
  have B13 : Below w.heap.size w w13 := B12.trans (grown_below g13 B12.size (fun ad h => by have r := R7.out ad h; have zc1 := zs1.out; have zc2 := zs2.out; have zc3 := zs3.out; have zc4 := zs4.out; have zc5 := zs5.out; have zc6 := zs6.out; omega))
  replace o3 := own_grown o3 g13 (sep_rng R3.out R7.out (.inl (by have zc4 := zs4.out; have zc5 := zs5.out; have zc6 := zs6.out; omega)))
  replace o5 := own_grown o5 g13 (sep_rng R5.out R7.out (.inl (by have zc6 := zs6.out; omega)))
  replace dp0 := cell_apart g13 dp0 (fun ad h => by have r := R7.out ad h; have zc1 := zs1.out; have zc2 := zs2.out; have zc3 := zs3.out; have zc4 := zs4.out; have zc5 := zs5.out; have zc6 := zs6.out; omega)
  replace dw0 := cell_apart g13 dw0 (fun ad h => by have r := R7.out ad h; have zc4 := zs4.out; have zc5 := zs5.out; have zc6 := zs6.out; omega)
  replace dx0 := cell_apart g13 dx0 (fun ad h => by have r := R7.out ad h; have zc6 := zs6.out; omega)
  replace dg0 := cell_apart g13 dg0 (fun ad h => by have r := R7.out ad h;  omega)
  replace o7 := o7m
  clear o7m
  have zs13 : Hid (w12.heap.size ≤ w13.heap.size) := Lib.hid (g13.size)
  clear g13
  clear o5
  clear dx0
  go_wp2_with fail
  refine (heldRecord_q A7 n7 c7 1 eg _ (by omega) (by have e := Heg.out; omega) Heg.out (Rd.of_own o7)).mono ?_
  rintro e w14 ⟨rfl, b14⟩
  have B14 : Below w.heap.size w w14 := B13.trans (b14.mono B13.size)
  have zs14 : Hid (w13.heap.size ≤ w14.heap.size) := Lib.hid (b14.size)
  replace o3 := own_below o3 b14
  replace o7 := own_below o7 b14
  replace dp0 := kcell b14 dp0
  replace dw0 := kcell b14 dw0
  replace dg0 := kcell b14 dg0
  clear b14
  go_wp2_with fail
  refine (toRecord_any A0 n0 c0 l0 _ q0 (h0.below B14)).mono ?_
  rintro e w15 ⟨A15, n15, c15, rfl, o15, b15⟩
  have R15 := Lib.hid (own_rng o15)
  have hn15 : n15 ≤ 2097152 := by have q1 := own_lenF o15; omega
  have B15 : Below w.heap.size w w15 := B14.trans (b15.mono B14.size)
  have zs15 : Hid (w14.heap.size ≤ w15.heap.size) := Lib.hid (b15.size)
  replace o3 := own_below o3 b15
  replace o7 := own_below o7 b15
  replace dp0 := kcell b15 dp0
  replace dw0 := kcell b15 dw0
  replace dg0 := kcell b15 dg0
  clear b15
  go_wp2_with fail
  refine (implSetField_any A15 n15 c15 l0 s1 a2 lr r _ (by have q1 := own_lenF o15; omega) (Rd.of_own o15) o0 (by unfold maxLen; omega) h2 HR.out).mono ?_
  rintro e w16 ⟨A16, n16, c16, rfl, o16, b16⟩
  have R16 := Lib.hid (own_rng o16)
  have hn16 : n16 ≤ 2097152 := by have q1 := own_lenF o16; omega
  have B16 : Below w.heap.size w w16 := B15.trans (b16.mono B15.size)
  have zs16 : Hid (w15.heap.size ≤ w16.heap.size) := Lib.hid (b16.size)
  replace o3 := own_below o3 b16
  replace o7 := own_below o7 b16
  replace o15 := own_below o15 b16
  replace dp0 := kcell b16 dp0
  replace dw0 := kcell b16 dw0
  replace dg0 := kcell b16 dg0
  clear b16
  clear o15
  replace o3 := own_below o3 (al'' (.cells #[.slice A16 n16 c16] 28))
  replace o7 := own_below o7 (al'' (.cells #[.slice A16 n16 c16] 28))
  replace o16 := own_below o16 (al'' (.cells #[.slice A16 n16 c16] 28))
  replace dp0 := kcell (al'' (.cells #[.slice A16 n16 c16] 28)) dp0
  replace dw0 := kcell (al'' (.cells #[.slice A16 n16 c16] 28)) dw0
  replace dg0 := kcell (al'' (.cells #[.slice A16 n16 c16] 28)) dg0
  have dh0 : (w16.alloc (.cells #[.slice A16 n16 c16] 28)).cell? ⟨w16.heap.size, 0, none⟩ = some (.slice A16 n16 c16) := by simp
  have B17 : Below w.heap.size w (w16.alloc (.cells #[.slice A16 n16 c16] 28)) := al B16
  have zs17 : Hid (w16.heap.size < (w16.alloc (.cells #[.slice A16 n16 c16] 28)).heap.size) := Lib.hid (by simp)
  go_wp2_with fail
  refine (eqRecord_same A16 A3 n16 n3 c16 c3 lr _ (by unfold maxLen; omega) (Rd.of_own o16) (Rd.of_own o3)).mono ?_
  rintro e w18 ⟨rfl, b18⟩
  have B18 : Below w.heap.size w w18 := B17.trans (b18.mono B17.size)
  have zs18 : Hid ((w16.alloc (.cells #[.slice A16 n16 c16] 28)).heap.size ≤ w18.heap.size) := Lib.hid (b18.size)
  replace o3 := own_below o3 b18
  replace o7 := own_below o7 b18
  replace o16 := own_below o16 b18
  replace dp0 := kcell b18 dp0
  replace dw0 := kcell b18 dw0
  replace dg0 := kcell b18 dg0
  replace dh0 := kcell b18 dh0
  clear b18
  go_wp2_with fail
  refine (heldRecord_q A7 n7 c7 1 eg _ (by omega) (by have e := Heg.out; omega) Heg.out (Rd.of_own o7)).mono ?_
  rintro e w19 ⟨rfl, b19⟩
  have B19 : Below w.heap.size w w19 := B18.trans (b19.mono B18.size)
  have zs19 : Hid (w18.heap.size ≤ w19.heap.size) := Lib.hid (b19.size)
  replace o3 := own_below o3 b19
  replace o7 := own_below o7 b19
  replace o16 := own_below o16 b19
  replace dp0 := kcell b19 dp0
  replace dw0 := kcell b19 dw0
  replace dg0 := kcell b19 dg0
  replace dh0 := kcell b19 dh0
  clear b19
  go_wp2
  go_ret
  exact ⟨rfl, B19⟩

set_option maxRecDepth 100000 in
theorem lifted (os : Os) (started : os.Started) (H : Type) (enc : TypeId × Value → H) :
    ReturnsInHanded {} Try.checked os 12 .any (Rows.fnExactSetFieldSpec.pre6 enc Try.prog Try.f12 Rows.fnExactSetFieldRow.domain false) (Rows.fnExactSetFieldSpec.post enc Try.prog Try.f12 false true false false) := by
  refine returnsInHanded_of_change (C := Try.checked) own started (by kernel_rfl) Try.func12
    (ChangeSpec.witness6 (enc := enc) (C := Try.checked) false ⟨#[], #[.agg #[.slice none 0 0], .string ⟨#[]⟩, .int .i64 0], []⟩ 8 (by kernel_rfl) (by kernel_rfl) (by kernel_rfl) (by kernel_rfl)) ?_
  intro W base args ds gs before hval0 hW hcnd _
  have hval : ∀ (j : Nat) t v, Try.f12.params[j]? = some t → args[j]? = some v → Value.okWide Try.prog W .any base t v := hval0
  have hW' := hW
  obtain ⟨p, q, hA0, hV, rfl, hfz, hnd⟩ := hW
  have hA : DataW.TrodAll enc Try.prog W 0 (fun _ => true) true Try.f12.params.toList args.toList ds p := hA0
  rw [Try.params12] at hA hval
  obtain ⟨v0, vs0, d0, ds0, p0, q0, hargs, rfl, rfl, h0, z0⟩ := trodAll_cons hA
  obtain ⟨v1, vs1, d1, ds1, p1, q1, rfl, rfl, rfl, h1, z1⟩ := trodAll_cons z0
  obtain ⟨v2, vs2, d2, ds2, p2, q2, rfl, rfl, rfl, h2, z2⟩ := trodAll_cons z1
  obtain ⟨rfl, rfl, rfl⟩ := trodAll_nil z2
  obtain rfl : args = #[v0, v1, v2] := by cases args; simp_all
  obtain ⟨rfl, rfl⟩ := trodVars_none hV
  obtain ⟨A0, n0, c0, l0, rfl, k0, m0, o0⟩ := open_record (hval 0 24 v0 rfl rfl) h0
  obtain ⟨s1, rfl, rfl, rfl, m1⟩ := open_string Try.underlying9 (hval 1 9 v1 rfl rfl) h1
  obtain ⟨a2, rfl, rfl, rfl, w2⟩ := open_int Try.underlying3 (hval 2 3 v2 rfl rfl) h2
  clear hA0 hval0
  exact (walk W A0 n0 c0 l0 k0 m0 o0 s1 m1 a2 (wf_range w2)).mono fun e W' ⟨he, hb⟩ => ⟨_, he, law_post laidOut (by kernel_rfl) (tb := 4) rfl Try.underlying4 rfl hW' rfl hb⟩

theorem proved : Rows.FnExactSetFieldSaid :=
  OpenClaim.holds_of_wide 12 Try.f12 rfl rfl rfl rfl rfl rfl rfl ⟨rfl, rfl, rfl, rfl, rfl⟩ rfl rfl rfl rfl rfl (by kernel_rfl) Try.func12 (joined_of (by kernel_rfl))
    (of_decide_eq_true (by kernel_rfl)) (by unfold Func.isWrapper; first | (rw [if_pos (by decide +kernel)]; kernel_rfl) | (rw [if_neg (by decide +kernel)]; exact ⟨rfl, rfl⟩))
    (fun os started H enc _ => lifted os started H enc)
#print axioms proved
end Go.Proofs.Ytbbngihmjdndoaa.fnExactSetField
