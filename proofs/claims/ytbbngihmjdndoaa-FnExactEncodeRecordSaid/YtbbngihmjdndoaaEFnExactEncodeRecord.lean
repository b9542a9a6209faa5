/-
  Proved: the law FnExactEncodeRecord answers true for every input and changes nothing that was there: the program's EncodeRecord returns what the reference's EncodeRecord returns. Conditions: none beyond those of the row.
  By an AI agent; no person has read it.
-/
import Derived.Test.YtbbngihmjdndoaaLaw
import Derived.Test.YtbbngihmjdndoaaFldE
import Derived.Test.YtbbngihmjdndoaaFldQ
import Derived.Test.YtbbngihmjdndoaaOpenR
import Derived.Test.YtbbngihmjdndoaaStep
import Derived.Test.YtbbngihmjdndoaaEq
import Derived.Test.YtbbngihmjdndoaaMark
namespace Go.Proofs.Ytbbngihmjdndoaa.fnExactEncodeRecord
open Go.ChangeShapes Go.WideShapes Go.ChangeAt Go.RowKit
open Go.ChangeMaps (open_string)
set_option linter.unusedVariables false
theorem al'' {w : World} (o : Obj) : Below w.heap.size w (w.alloc o) := (Below.refl _ _).alloc (Nat.le_refl _) o

set_option maxRecDepth 100000 in
set_option maxHeartbeats 4000000 in
theorem walk (w : World) (A0 : Option Addr) (n0 c0 : Nat) (l0 : List Fld) (h0 : Rd w 2 A0 n0 (fl l0)) (m0 : n0 ≤ maxLen) (o0 : okF l0) :
    Calls Try.prog 9 #[.agg #[.slice A0 n0 c0]] w fun e w' => e = .returned (.bool true) ∧ Below w.heap.size w w' := by
  unfold maxLen at m0
  by_cases hb0 : (1048576 : Int) < (n0 : Int) + sumF l0
  · go_enter Try.func9, Try.ntmps9
    go_wp2_with fail
    refine (szRecord_big A0 n0 c0 l0 (1048576) _ m0 (by omega) (by omega) (h0.alloc _) o0 hb0).mono ?_
    rintro e w1 ⟨rfl, b1⟩
    go_wp2
    go_ret
    exact ⟨rfl, Below.trans (al (Below.refl _ _)) (b1.mono (by simp))⟩
  have hs0 : (n0 : Int) + sumF l0 ≤ 1048576 := by omega
  clear hb0
  have v0 : l0.length ≤ maxLen := by unfold maxLen; have := h0.lenF; omega
  have q0 : n0 ≤ 1099511627776 := by omega
  have k0 : l0.length ≤ 1048576 := by have := h0.lenF; omega
  have hlr := encR_len l0
  go_enter Try.func9, Try.ntmps9
  go_wp2_with fail
  refine (szRecord_ok A0 n0 c0 l0 (1048576) _ m0 (by omega) (h0.alloc _) o0 hs0).mono ?_
  rintro e w1 ⟨rfl, b1⟩
  have B1 : Below w.heap.size w w1 := Below.trans (al (Below.refl _ _)) (b1.mono (by simp))
  have s1 : Hid (w.heap.size + 1 ≤ w1.heap.size) := Lib.hid (by have q := b1.size; simp at q; omega)
  have dp0 : w1.cell? ⟨w.heap.size, 0, none⟩ = some (.slice A0 n0 c0) := kcell b1 (by simp)
  clear b1
  go_wp2_with fail
  refine (toRecord_any A0 n0 c0 l0 _ q0 (h0.below B1)).mono ?_
  rintro e w2 ⟨A2, n2, c2, rfl, o2, b2⟩
  have R2 := Lib.hid (own_rng o2)
  have hn2 : n2 ≤ 2097152 := by have q1 := own_lenF o2; omega
  have B2 : Below w.heap.size w w2 := B1.trans (b2.mono B1.size)
  have s2 : Hid (w1.heap.size ≤ w2.heap.size) := Lib.hid (b2.size)
  replace dp0 := kcell b2 dp0
  clear b2
  go_wp2_with fail
  refine (specEncodeRecord_any A2 n2 c2 l0 _ (by omega) (Rd.of_own o2) o0).mono ?_
  rintro e w3 ⟨A3, n3, c3, rfl, o3, b3⟩
  have R3 := Lib.hid (own_rng o3)
  have hn3 : n3 ≤ 2097152 := by have q1 := own_lenB o3; omega
  have B3 : Below w.heap.size w w3 := B2.trans (b3.mono B2.size)
  have s3 : Hid (w2.heap.size ≤ w3.heap.size) := Lib.hid (b3.size)
  replace o2 := own_below o2 b3
  replace dp0 := kcell b3 dp0
  clear b3
  clear o2
  go_wp2_with fail
  refine (toRecord_any A0 n0 c0 l0 _ q0 (h0.below B3)).mono ?_
  rintro e w4 ⟨A4, n4, c4, rfl, o4, b4⟩
  have R4 := Lib.hid (own_rng o4)
  have hn4 : n4 ≤ 2097152 := by have q1 := own_lenF o4; omega
  have B4 : Below w.heap.size w w4 := B3.trans (b4.mono B3.size)
  have s4 : Hid (w3.heap.size ≤ w4.heap.size) := Lib.hid (b4.size)
  replace o3 := own_below o3 b4
  replace dp0 := kcell b4 dp0
  clear b4
  replace o3 := own_below o3 (al'' (.cells #[.slice A4 n4 c4] 28))
  replace o4 := own_below o4 (al'' (.cells #[.slice A4 n4 c4] 28))
  replace dp0 := kcell (al'' (.cells #[.slice A4 n4 c4] 28)) dp0
  have dx0 : (w4.alloc (.cells #[.slice A4 n4 c4] 28)).cell? ⟨w4.heap.size, 0, none⟩ = some (.slice A4 n4 c4) := by simp
  have B5 : Below w.heap.size w (w4.alloc (.cells #[.slice A4 n4 c4] 28)) := al B4
  have s5 : Hid (w4.heap.size < (w4.alloc (.cells #[.slice A4 n4 c4] 28)).heap.size) := Lib.hid (by simp)
  go_wp2_with fail
  refine (implEncodeRecord_any A4 n4 c4 l0 _ (by omega) (Rd.of_own o4) o0).mono ?_
  rintro e w6 ⟨A6, n6, c6, rfl, o6, b6⟩
  have R6 := Lib.hid (own_rng o6)
  have hn6 : n6 ≤ 2097152 := by have q1 := own_lenB o6; omega
  have B6 : Below w.heap.size w w6 := B5.trans (b6.mono B5.size)
  have s6 : Hid ((w4.alloc (.cells #[.slice A4 n4 c4] 28)).heap.size ≤ w6.heap.size) := Lib.hid (b6.size)
  replace o3 := own_below o3 b6
  replace o4 := own_below o4 b6
  replace dp0 := kcell b6 dp0
  replace dx0 := kcell b6 dx0
  clear b6
  go_wp2_with fail
  refine (eqByteS_any A6 A3 n6 n3 c6 c3 (encR l0) (encR l0) true _ (by unfold maxLen; omega) (by unfold maxLen; omega) (Rd.of_own o6) (Rd.of_own o3) (by simp)).mono ?_
  rintro e w7 ⟨rfl, b7⟩
  have B7 : Below w.heap.size w w7 := B6.trans (b7.mono B6.size)
  have s7 : Hid (w6.heap.size ≤ w7.heap.size) := Lib.hid (b7.size)
  replace o3 := own_below o3 b7
  replace o4 := own_below o4 b7
  replace o6 := own_below o6 b7
  replace dp0 := kcell b7 dp0
  replace dx0 := kcell b7 dx0
  clear b7
  go_wp2
  go_region_held3 (fun W => Below w7.heap.size w7 W ∧ W.cell? ⟨w.heap.size, 0, none⟩ = some (.slice A0 n0 c0) ∧ W.cell? ⟨w4.heap.size, 0, none⟩ = some (.slice A4 n4 c4))
    (first | assumption | (refine sz2 ?_ hb rfl; assumption) | exact ⟨(Below.refl _ _).drew, dp0, dx0⟩)
    (first
      | (go_at_call 21; refine (toRecord_any A0 n0 c0 l0 _ q0 (h0.below (B7.trans ((And.left ‹Below w7.heap.size w7 _ ∧ _›).mono B7.size)))).mono ?_; rintro e W1 ⟨Ae, ne, ce, rfl, oe, hb⟩)
      | (go_at_call 23; refine (eqRecord_same A4 _ n4 _ c4 _ l0 _ (by unfold maxLen; omega) ((Rd.of_own o4).below (And.left ‹Below w7.heap.size w7 _ ∧ _›)) (Rd.of_own ‹_›)).mono ?_; rintro e w8 ⟨rfl, hb⟩))
  obtain ⟨b8, dp0, dx0⟩ := ‹Below w7.heap.size w7 w8 ∧ _›
  have B8 := B7.trans (b8.mono B7.size)
  have s8 : Hid (w7.heap.size ≤ w8.heap.size) := Lib.hid (b8.size)
  replace o3 := own_below o3 b8
  replace o4 := own_below o4 b8
  replace o6 := own_below o6 b8
  clear b8
  obtain ⟨e0, he0⟩ : ∃ q, q = 1 + 2 * n4 := ⟨_, rfl⟩
  have He0 := Lib.hid he0
  have le0 : e0 ≤ 1099511627776 := by omega
  have pe0 : 0 < e0 := by omega
  have ie0 : ¬ ((e0 : Nat) : Int) < 0 := by omega
  clear he0
  go_wp2_with fail
  refine (markRecord_q A4 n4 c4 _ 1 e0 _ _ (by omega) (by have e := He0.out; omega) He0.out o4).mono ?_
  rintro e w9 ⟨rfl, o4m, g9⟩
  have B9 : Below w.heap.size w w9 := B8.trans (grown_below g9 B8.size (fun ad h => by have r := R4.out ad h; have c1 := s1.out; have c2 := s2.out; have c3 := s3.out; omega))
  replace o3 := own_grown o3 g9 (sep_rng R3.out R4.out (.inl (by  omega)))
  replace o6 := own_grown o6 g9 (sep_rng R6.out R4.out (.inr (by have c5 := s5.out; omega)))
  replace dp0 := cell_apart g9 dp0 (fun ad h => by have r := R4.out ad h; have c1 := s1.out; have c2 := s2.out; have c3 := s3.out; omega)
  replace dx0 := cell_apart g9 dx0 (fun ad h => by have r := R4.out ad h;  omega)
  replace o4 := o4m
  clear o4m
  have s9 : Hid (w8.heap.size ≤ w9.heap.size) := Lib.hid (g9.size)
  clear g9
  go_wp2_with fail
  refine (eqByteS_any A6 A3 n6 n3 c6 c3 (encR l0) (encR l0) true _ (by unfold maxLen; omega) (by unfold maxLen; omega) (Rd.of_own o6) (Rd.of_own o3) (by simp)).mono ?_
  rintro e w10 ⟨rfl, b10⟩
  have B10 : Below w.heap.size w w10 := B9.trans (b10.mono B9.size)
  have s10 : Hid (w9.heap.size ≤ w10.heap.size) := Lib.hid (b10.size)
  replace o3 := own_below o3 b10
  replace o4 := own_below o4 b10
  replace o6 := own_below o6 b10
  replace dp0 := kcell b10 dp0
  replace dx0 := kcell b10 dx0
  clear b10
  obtain ⟨eg, heg⟩ : ∃ q, q = 1 + n6 := ⟨_, rfl⟩
  have Heg := Lib.hid heg
  have leg : eg ≤ 1099511627776 := by omega
  have peg : 0 < eg := by omega
  have ieg : ¬ ((eg : Nat) : Int) < 0 := by omega
  clear heg
  go_wp2_with fail
  refine (markByteS_q A6 n6 c6 _ 1 eg _ _ (by omega) (by have e := Heg.out; omega) Heg.out o6).mono ?_
  rintro e w11 ⟨rfl, o6m, g11⟩
  have B11 : Below w.heap.size w w11 := B10.trans (grown_below g11 B10.size (fun ad h => by have r := R6.out ad h; have c1 := s1.out; have c2 := s2.out; have c3 := s3.out; have c4 := s4.out; have c5 := s5.out; omega))
  replace o3 := own_grown o3 g11 (sep_rng R3.out R6.out (.inl (by have c4 := s4.out; have c5 := s5.out; omega)))
  replace o4 := own_grown o4 g11 (sep_rng R4.out R6.out (.inl (by have c5 := s5.out; omega)))
  replace dp0 := cell_apart g11 dp0 (fun ad h => by have r := R6.out ad h; have c1 := s1.out; have c2 := s2.out; have c3 := s3.out; have c4 := s4.out; have c5 := s5.out; omega)
  replace dx0 := cell_apart g11 dx0 (fun ad h => by have r := R6.out ad h; have c5 := s5.out; omega)
  replace o6 := o6m
  clear o6m
  have s11 : Hid (w10.heap.size ≤ w11.heap.size) := Lib.hid (g11.size)
  clear g11
  clear o4
  clear dx0
  go_wp2_with fail
  refine (heldByteS_q A6 n6 c6 1 eg _ (by omega) (by have e := Heg.out; omega) Heg.out (Rd.of_own o6)).mono ?_
  rintro e w12 ⟨rfl, b12⟩
  have B12 : Below w.heap.size w w12 := B11.trans (b12.mono B11.size)
  have s12 : Hid (w11.heap.size ≤ w12.heap.size) := Lib.hid (b12.size)
  replace o3 := own_below o3 b12
  replace o6 := own_below o6 b12
  replace dp0 := kcell b12 dp0
  clear b12
  go_wp2_with fail
  refine (toRecord_any A0 n0 c0 l0 _ q0 (h0.below B12)).mono ?_
  rintro e w13 ⟨A13, n13, c13, rfl, o13, b13⟩
  have R13 := Lib.hid (own_rng o13)
  have hn13 : n13 ≤ 2097152 := by have q1 := own_lenF o13; omega
  have B13 : Below w.heap.size w w13 := B12.trans (b13.mono B12.size)
  have s13 : Hid (w12.heap.size ≤ w13.heap.size) := Lib.hid (b13.size)
  replace o3 := own_below o3 b13
  replace o6 := own_below o6 b13
  replace dp0 := kcell b13 dp0
  clear b13
  go_wp2_with fail
  refine (implEncodeRecord_any A13 n13 c13 l0 _ (by omega) (Rd.of_own o13) o0).mono ?_
  rintro e w14 ⟨A14, n14, c14, rfl, o14, b14⟩
  have R14 := Lib.hid (own_rng o14)
  have hn14 : n14 ≤ 2097152 := by have q1 := own_lenB o14; omega
  have B14 : Below w.heap.size w w14 := B13.trans (b14.mono B13.size)
  have s14 : Hid (w13.heap.size ≤ w14.heap.size) := Lib.hid (b14.size)
  replace o3 := own_below o3 b14
  replace o6 := own_below o6 b14
  replace o13 := own_below o13 b14
  replace dp0 := kcell b14 dp0
  clear b14
  clear o13
  go_wp2_with fail
  refine (eqByteS_any A14 A3 n14 n3 c14 c3 (encR l0) (encR l0) true _ (by unfold maxLen; omega) (by unfold maxLen; omega) (Rd.of_own o14) (Rd.of_own o3) (by simp)).mono ?_
  rintro e w15 ⟨rfl, b15⟩
  have B15 : Below w.heap.size w w15 := B14.trans (b15.mono B14.size)
  have s15 : Hid (w14.heap.size ≤ w15.heap.size) := Lib.hid (b15.size)
  replace o3 := own_below o3 b15
  replace o6 := own_below o6 b15
  replace o14 := own_below o14 b15
  replace dp0 := kcell b15 dp0
  clear b15
  go_wp2_with fail
  refine (heldByteS_q A6 n6 c6 1 eg _ (by omega) (by have e := Heg.out; omega) Heg.out (Rd.of_own o6)).mono ?_
  rintro e w16 ⟨rfl, b16⟩
  have B16 : Below w.heap.size w w16 := B15.trans (b16.mono B15.size)
  have s16 : Hid (w15.heap.size ≤ w16.heap.size) := Lib.hid (b16.size)
  replace o3 := own_below o3 b16
  replace o6 := own_below o6 b16
  replace o14 := own_below o14 b16
  replace dp0 := kcell b16 dp0
  clear b16
  go_wp2
  go_ret
  exact ⟨rfl, B16⟩

set_option maxRecDepth 100000 in
theorem lifted (os : Os) (started : os.Started) (H : Type) (enc : TypeId × Value → H) :
    ReturnsInHanded {} Try.checked os 9 .any (Rows.fnExactEncodeRecordSpec.pre6 enc Try.prog Try.f9 Rows.fnExactEncodeRecordRow.domain false) (Rows.fnExactEncodeRecordSpec.post enc Try.prog Try.f9 false true false false) := by
  refine returnsInHanded_of_change (C := Try.checked) own started (by kernel_rfl) Try.func9
    (ChangeSpec.witness6 (enc := enc) (C := Try.checked) false ⟨#[], #[.agg #[.slice none 0 0]], []⟩ 8 (by kernel_rfl) (by kernel_rfl) (by kernel_rfl) (by kernel_rfl)) ?_
  intro W base args ds gs before hval0 hW hcnd _
  have hval : ∀ (j : Nat) t v, Try.f9.params[j]? = some t → args[j]? = some v → Value.okWide Try.prog W .any base t v := hval0
  have hW' := hW
  obtain ⟨p, q, hA0, hV, rfl, hfz, hnd⟩ := hW
  have hA : DataW.TrodAll enc Try.prog W 0 (fun _ => true) true Try.f9.params.toList args.toList ds p := hA0
  rw [Try.params9] at hA hval
  obtain ⟨v0, vs0, d0, ds0, p0, q0, hargs, rfl, rfl, h0, z0⟩ := trodAll_cons hA
  obtain ⟨rfl, rfl, rfl⟩ := trodAll_nil z0
  obtain rfl : args = #[v0] := by cases args; simp_all
  obtain ⟨rfl, rfl⟩ := trodVars_none hV
  obtain ⟨A0, n0, c0, l0, rfl, k0, m0, o0⟩ := open_record (hval 0 24 v0 rfl rfl) h0
  clear hA0 hval0
  exact (walk W A0 n0 c0 l0 k0 m0 o0).mono fun e W' ⟨he, hb⟩ => ⟨_, he, law_post laidOut (by kernel_rfl) (tb := 4) rfl Try.underlying4 rfl hW' rfl hb⟩

theorem proved : Rows.FnExactEncodeRecordSaid :=
  OpenClaim.holds_of_wide 9 Try.f9 rfl rfl rfl rfl rfl rfl rfl ⟨rfl, rfl, rfl, rfl, rfl⟩ rfl rfl rfl rfl rfl (by kernel_rfl) Try.func9 (joined_of (by kernel_rfl))
    (of_decide_eq_true (by kernel_rfl)) (by unfold Func.isWrapper; first | (rw [if_pos (by decide +kernel)]; kernel_rfl) | (rw [if_neg (by decide +kernel)]; exact ⟨rfl, rfl⟩))
    (fun os started H enc _ => lifted os started H enc)
#print axioms proved
end Go.Proofs.Ytbbngihmjdndoaa.fnExactEncodeRecord
