/-
  Proved: the law FnExactDecodeRecord answers true for every input and changes nothing that was there: the program's DecodeRecord returns what the reference's DecodeRecord returns. Conditions: none beyond those of the row.
  By an AI agent; no person has read it.
-/
import Derived.Test.YtbbngihmjdndoaaLaw
import Derived.Test.YtbbngihmjdndoaaFldDS
import Derived.Test.YtbbngihmjdndoaaFldQ
import Derived.Test.YtbbngihmjdndoaaStep
import Derived.Test.YtbbngihmjdndoaaEq
import Derived.Test.YtbbngihmjdndoaaTo
import Derived.Test.YtbbngihmjdndoaaMark
namespace Go.Proofs.Ytbbngihmjdndoaa.fnExactDecodeRecord
open Go.ChangeShapes Go.WideShapes Go.ChangeAt Go.RowKit
open Go.ChangeMaps (open_string)
set_option linter.unusedVariables false
theorem decO_len {b : List UInt8} {lr : List Fld} {r : Bool} (h : (lr, r) = decO (decP b)) : lr.length ≤ 2097152 := by
  unfold decP at h
  cases hr : readR b with
  | none =>
    rw [hr] at h
    obtain rfl : lr = [] := (Prod.mk.inj h).1
    simp
  | some p =>
    obtain ⟨l, q⟩ := p
    have h6 := (readR_canon hr).2.1
    rw [hr] at h
    simp only [] at h
    split at h
    · obtain rfl : lr = l := (Prod.mk.inj h).1
      omega
    · obtain rfl : lr = [] := (Prod.mk.inj h).1
      simp
theorem al'' {w : World} (o : Obj) : Below w.heap.size w (w.alloc o) := (Below.refl _ _).alloc (Nat.le_refl _) o

set_option maxRecDepth 100000 in
set_option maxHeartbeats 4000000 in
theorem walk (w : World) (A0 : Option Addr) (n0 c0 : Nat) (l0 : List UInt8) (h0 : Rd w 1 A0 n0 (l0.map bv)) (m0 : n0 ≤ maxLen) :
    Calls Try.prog 11 #[.slice A0 n0 c0] w fun e w' => e = .returned (.bool true) ∧ Below w.heap.size w w' := by
  unfold maxLen at m0
  by_cases hbs0 : 1048576 < n0
  · go_enter Try.func11, Try.ntmps11
    go_wp2
    go_ret
    exact ⟨rfl, Below.refl _ _⟩
  have q0s : n0 ≤ 1048576 := by omega
  clear hbs0
  have v0 : l0.length ≤ maxLen := by unfold maxLen; have := h0.lenB; omega
  have q0 : n0 ≤ 1099511627776 := by omega
  have k0 : l0.length ≤ 1048576 := by have := h0.lenB; omega
  obtain ⟨lr, r, hr⟩ : ∃ lr r, (lr, r) = decO (decP l0) := ⟨_, _, rfl⟩
  have hlr : lr.length ≤ 2097152 := decO_len hr
  have HR := Lib.hid hr
  clear hr
  have hrr : (r == r) = true := by simp
  go_enter Try.func11, Try.ntmps11
  go_wp2_with fail
  refine (toByteS_any A0 n0 c0 l0 _ q0 h0).mono ?_
  rintro e w1 ⟨A1, n1, c1, rfl, o1, b1⟩
  have R1 := Lib.hid (own_rng o1)
  have hn1 : n1 ≤ 2097152 := by have q1 := own_lenB o1; omega
  have B1 : Below w.heap.size w w1 := b1
  have s1 : Hid (w.heap.size ≤ w1.heap.size) := Lib.hid (b1.size)
  clear b1
  go_wp2_with fail
  refine (specDecodeRecord_any A1 n1 c1 l0 lr r _ (by have q1 := own_lenB o1; omega) (own_cap o1).1 (own_cap o1).2 (Rd.of_own o1) HR.out).mono ?_
  rintro e w2 ⟨A2, n2, c2, rfl, o2, b2⟩
  have R2 := Lib.hid (own_rng o2)
  have hn2 : n2 ≤ 2097152 := by have q1 := own_lenF o2; omega
  have B2 : Below w.heap.size w w2 := B1.trans (b2.mono B1.size)
  have s2 : Hid (w1.heap.size ≤ w2.heap.size) := Lib.hid (b2.size)
  replace o1 := own_below o1 b2
  clear b2
  clear o1
  replace o2 := own_below o2 (al'' (.cells #[.slice A2 n2 c2] 28))
  have dw0 : (w2.alloc (.cells #[.slice A2 n2 c2] 28)).cell? ⟨w2.heap.size, 0, none⟩ = some (.slice A2 n2 c2) := by simp
  have B3 : Below w.heap.size w (w2.alloc (.cells #[.slice A2 n2 c2] 28)) := al B2
  have s3 : Hid (w2.heap.size < (w2.alloc (.cells #[.slice A2 n2 c2] 28)).heap.size) := Lib.hid (by simp)
  go_wp2_with fail
  refine (toByteS_any A0 n0 c0 l0 _ q0 (h0.below B3)).mono ?_
  rintro e w4 ⟨A4, n4, c4, rfl, o4, b4⟩
  have R4 := Lib.hid (own_rng o4)
  have hn4 : n4 ≤ 2097152 := by have q1 := own_lenB o4; omega
  have B4 : Below w.heap.size w w4 := B3.trans (b4.mono B3.size)
  have s4 : Hid ((w2.alloc (.cells #[.slice A2 n2 c2] 28)).heap.size ≤ w4.heap.size) := Lib.hid (b4.size)
  replace o2 := own_below o2 b4
  replace dw0 := kcell b4 dw0
  clear b4
  go_wp2_with fail
  refine (implDecodeRecord_any A4 n4 c4 l0 lr r _ (by have q1 := own_lenB o4; omega) (own_cap o4).1 (own_cap o4).2 (Rd.of_own o4) HR.out).mono ?_
  rintro e w5 ⟨A5, n5, c5, rfl, o5, b5⟩
  have R5 := Lib.hid (own_rng o5)
  have hn5 : n5 ≤ 2097152 := by have q1 := own_lenF o5; omega
  have B5 : Below w.heap.size w w5 := B4.trans (b5.mono B4.size)
  have s5 : Hid (w4.heap.size ≤ w5.heap.size) := Lib.hid (b5.size)
  replace o2 := own_below o2 b5
  replace o4 := own_below o4 b5
  replace dw0 := kcell b5 dw0
  clear b5
  replace o2 := own_below o2 (al'' (.cells #[.slice A5 n5 c5] 28))
  replace o4 := own_below o4 (al'' (.cells #[.slice A5 n5 c5] 28))
  replace o5 := own_below o5 (al'' (.cells #[.slice A5 n5 c5] 28))
  replace dw0 := kcell (al'' (.cells #[.slice A5 n5 c5] 28)) dw0
  have dg0 : (w5.alloc (.cells #[.slice A5 n5 c5] 28)).cell? ⟨w5.heap.size, 0, none⟩ = some (.slice A5 n5 c5) := by simp
  have B6 : Below w.heap.size w (w5.alloc (.cells #[.slice A5 n5 c5] 28)) := al B5
  have s6 : Hid (w5.heap.size < (w5.alloc (.cells #[.slice A5 n5 c5] 28)).heap.size) := Lib.hid (by simp)
  go_wp2_with fail
  refine (eqRecord_same A5 A2 n5 n2 c5 c2 lr _ (by unfold maxLen; omega) (Rd.of_own o5) (Rd.of_own o2)).mono ?_
  rintro e w7 ⟨rfl, b7⟩
  have B7 : Below w.heap.size w w7 := B6.trans (b7.mono B6.size)
  have s7 : Hid ((w5.alloc (.cells #[.slice A5 n5 c5] 28)).heap.size ≤ w7.heap.size) := Lib.hid (b7.size)
  replace o2 := own_below o2 b7
  replace o4 := own_below o4 b7
  replace o5 := own_below o5 b7
  replace dw0 := kcell b7 dw0
  replace dg0 := kcell b7 dg0
  clear b7
  go_wp2_with fail
  refine (toByteS_any A0 n0 c0 l0 _ q0 (h0.below B7)).mono ?_
  rintro e w8 ⟨A8, n8, c8, rfl, o8, b8⟩
  have R8 := Lib.hid (own_rng o8)
  have hn8 : n8 ≤ 2097152 := by have q1 := own_lenB o8; omega
  have B8 : Below w.heap.size w w8 := B7.trans (b8.mono B7.size)
  have s8 : Hid (w7.heap.size ≤ w8.heap.size) := Lib.hid (b8.size)
  replace o2 := own_below o2 b8
  replace o4 := own_below o4 b8
  replace o5 := own_below o5 b8
  replace dw0 := kcell b8 dw0
  replace dg0 := kcell b8 dg0
  clear b8
  go_wp2_with fail
  refine (eqByteS_any A4 A8 n4 n8 c4 c8 l0 l0 true _ (by unfold maxLen; omega) (by unfold maxLen; omega) (Rd.of_own o4) (Rd.of_own o8) (by simp)).mono ?_
  rintro e w9 ⟨rfl, b9⟩
  have B9 : Below w.heap.size w w9 := B8.trans (b9.mono B8.size)
  have s9 : Hid (w8.heap.size ≤ w9.heap.size) := Lib.hid (b9.size)
  replace o2 := own_below o2 b9
  replace o4 := own_below o4 b9
  replace o5 := own_below o5 b9
  replace o8 := own_below o8 b9
  replace dw0 := kcell b9 dw0
  replace dg0 := kcell b9 dg0
  clear b9
  clear o8
  obtain ⟨e0, he0⟩ : ∃ q, q = 1 + n4 := ⟨_, rfl⟩
  have He0 := Lib.hid he0
  have le0 : e0 ≤ 1099511627776 := by omega
  have pe0 : 0 < e0 := by omega
  have ie0 : ¬ ((e0 : Nat) : Int) < 0 := by omega
  clear he0
  go_wp2_with fail
  refine (markByteS_q A4 n4 c4 _ 1 e0 _ _ (by omega) (by have e := He0.out; omega) He0.out o4).mono ?_
  rintro e w10 ⟨rfl, o4m, g10⟩
  have B10 : Below w.heap.size w w10 := B9.trans (grown_below g10 B9.size (fun ad h => by have r := R4.out ad h; have c1 := s1.out; have c2 := s2.out; have c3 := s3.out; omega))
  replace o2 := own_grown o2 g10 (sep_rng R2.out R4.out (.inl (by have c3 := s3.out; omega)))
  replace o5 := own_grown o5 g10 (sep_rng R5.out R4.out (.inr (by  omega)))
  replace dw0 := cell_apart g10 dw0 (fun ad h => by have r := R4.out ad h; have c3 := s3.out; omega)
  replace dg0 := cell_apart g10 dg0 (fun ad h => by have r := R4.out ad h; have c5 := s5.out; omega)
  replace o4 := o4m
  clear o4m
  have s10 : Hid (w9.heap.size ≤ w10.heap.size) := Lib.hid (g10.size)
  clear g10
  go_wp2_with fail
  refine (eqRecord_same A5 A2 n5 n2 c5 c2 lr _ (by unfold maxLen; omega) (Rd.of_own o5) (Rd.of_own o2)).mono ?_
  rintro e w11 ⟨rfl, b11⟩
  have B11 : Below w.heap.size w w11 := B10.trans (b11.mono B10.size)
  have s11 : Hid (w10.heap.size ≤ w11.heap.size) := Lib.hid (b11.size)
  replace o2 := own_below o2 b11
  replace o4 := own_below o4 b11
  replace o5 := own_below o5 b11
  replace dw0 := kcell b11 dw0
  replace dg0 := kcell b11 dg0
  clear b11
  obtain ⟨eg, heg⟩ : ∃ q, q = 1 + 2 * n5 := ⟨_, rfl⟩
  have Heg := Lib.hid heg
  have leg : eg ≤ 1099511627776 := by omega
  have peg : 0 < eg := by omega
  have ieg : ¬ ((eg : Nat) : Int) < 0 := by omega
  clear heg
  go_wp2_with fail
  refine (markRecord_q A5 n5 c5 _ 1 eg _ _ (by omega) (by have e := Heg.out; omega) Heg.out o5).mono ?_
  rintro e w12 ⟨rfl, o5m, g12⟩
  have B12 : Below w.heap.size w w12 := B11.trans (grown_below g12 B11.size (fun ad h => by have r := R5.out ad h; have c1 := s1.out; have c2 := s2.out; have c3 := s3.out; have c4 := s4.out; omega))
  replace o2 := own_grown o2 g12 (sep_rng R2.out R5.out (.inl (by have c3 := s3.out; have c4 := s4.out; omega)))
  replace o4 := own_grown o4 g12 (sep_rng R4.out R5.out (.inl (by  omega)))
  replace dw0 := cell_apart g12 dw0 (fun ad h => by have r := R5.out ad h; have c3 := s3.out; have c4 := s4.out; omega)
  replace dg0 := cell_apart g12 dg0 (fun ad h => by have r := R5.out ad h;  omega)
  replace o5 := o5m
  clear o5m
  have s12 : Hid (w11.heap.size ≤ w12.heap.size) := Lib.hid (g12.size)
  clear g12
  clear o4
  go_wp2_with fail
  refine (heldRecord_q A5 n5 c5 1 eg _ (by omega) (by have e := Heg.out; omega) Heg.out (Rd.of_own o5)).mono ?_
  rintro e w13 ⟨rfl, b13⟩
  have B13 : Below w.heap.size w w13 := B12.trans (b13.mono B12.size)
  have s13 : Hid (w12.heap.size ≤ w13.heap.size) := Lib.hid (b13.size)
  replace o2 := own_below o2 b13
  replace o5 := own_below o5 b13
  replace dw0 := kcell b13 dw0
  replace dg0 := kcell b13 dg0
  clear b13
  go_wp2_with fail
  refine (toByteS_any A0 n0 c0 l0 _ q0 (h0.below B13)).mono ?_
  rintro e w14 ⟨A14, n14, c14, rfl, o14, b14⟩
  have R14 := Lib.hid (own_rng o14)
  have hn14 : n14 ≤ 2097152 := by have q1 := own_lenB o14; omega
  have B14 : Below w.heap.size w w14 := B13.trans (b14.mono B13.size)
  have s14 : Hid (w13.heap.size ≤ w14.heap.size) := Lib.hid (b14.size)
  replace o2 := own_below o2 b14
  replace o5 := own_below o5 b14
  replace dw0 := kcell b14 dw0
  replace dg0 := kcell b14 dg0
  clear b14
  go_wp2_with fail
  refine (implDecodeRecord_any A14 n14 c14 l0 lr r _ (by have q1 := own_lenB o14; omega) (own_cap o14).1 (own_cap o14).2 (Rd.of_own o14) HR.out).mono ?_
  rintro e w15 ⟨A15, n15, c15, rfl, o15, b15⟩
  have R15 := Lib.hid (own_rng o15)
  have hn15 : n15 ≤ 2097152 := by have q1 := own_lenF o15; omega
  have B15 : Below w.heap.size w w15 := B14.trans (b15.mono B14.size)
  have s15 : Hid (w14.heap.size ≤ w15.heap.size) := Lib.hid (b15.size)
  replace o2 := own_below o2 b15
  replace o5 := own_below o5 b15
  replace o14 := own_below o14 b15
  replace dw0 := kcell b15 dw0
  replace dg0 := kcell b15 dg0
  clear b15
  clear o14
  replace o2 := own_below o2 (al'' (.cells #[.slice A15 n15 c15] 28))
  replace o5 := own_below o5 (al'' (.cells #[.slice A15 n15 c15] 28))
  replace o15 := own_below o15 (al'' (.cells #[.slice A15 n15 c15] 28))
  replace dw0 := kcell (al'' (.cells #[.slice A15 n15 c15] 28)) dw0
  replace dg0 := kcell (al'' (.cells #[.slice A15 n15 c15] 28)) dg0
  have dh0 : (w15.alloc (.cells #[.slice A15 n15 c15] 28)).cell? ⟨w15.heap.size, 0, none⟩ = some (.slice A15 n15 c15) := by simp
  have B16 : Below w.heap.size w (w15.alloc (.cells #[.slice A15 n15 c15] 28)) := al B15
  have s16 : Hid (w15.heap.size < (w15.alloc (.cells #[.slice A15 n15 c15] 28)).heap.size) := Lib.hid (by simp)
  go_wp2_with fail
  refine (eqRecord_same A15 A2 n15 n2 c15 c2 lr _ (by unfold maxLen; omega) (Rd.of_own o15) (Rd.of_own o2)).mono ?_
  rintro e w17 ⟨rfl, b17⟩
  have B17 : Below w.heap.size w w17 := B16.trans (b17.mono B16.size)
  have s17 : Hid ((w15.alloc (.cells #[.slice A15 n15 c15] 28)).heap.size ≤ w17.heap.size) := Lib.hid (b17.size)
  replace o2 := own_below o2 b17
  replace o5 := own_below o5 b17
  replace o15 := own_below o15 b17
  replace dw0 := kcell b17 dw0
  replace dg0 := kcell b17 dg0
  replace dh0 := kcell b17 dh0
  clear b17
  go_wp2_with fail
  refine (heldRecord_q A5 n5 c5 1 eg _ (by omega) (by have e := Heg.out; omega) Heg.out (Rd.of_own o5)).mono ?_
  rintro e w18 ⟨rfl, b18⟩
  have B18 : Below w.heap.size w w18 := B17.trans (b18.mono B17.size)
  have s18 : Hid (w17.heap.size ≤ w18.heap.size) := Lib.hid (b18.size)
  replace o2 := own_below o2 b18
  replace o5 := own_below o5 b18
  replace o15 := own_below o15 b18
  replace dw0 := kcell b18 dw0
  replace dg0 := kcell b18 dg0
  replace dh0 := kcell b18 dh0
  clear b18
  go_wp2
  go_ret
  exact ⟨rfl, B18⟩

set_option maxRecDepth 100000 in
theorem lifted (os : Os) (started : os.Started) (H : Type) (enc : TypeId × Value → H) :
    ReturnsInHanded {} Try.checked os 11 .any (Rows.fnExactDecodeRecordSpec.pre6 enc Try.prog Try.f11 Rows.fnExactDecodeRecordRow.domain false) (Rows.fnExactDecodeRecordSpec.post enc Try.prog Try.f11 false true false false) := by
  refine returnsInHanded_of_change (C := Try.checked) own started (by kernel_rfl) Try.func11
    (ChangeSpec.witness6 (enc := enc) (C := Try.checked) false ⟨#[], #[.slice none 0 0], []⟩ 8 (by kernel_rfl) (by kernel_rfl) (by kernel_rfl) (by kernel_rfl)) ?_
  intro W base args ds gs before hval0 hW hcnd _
  have hval : ∀ (j : Nat) t v, Try.f11.params[j]? = some t → args[j]? = some v → Value.okWide Try.prog W .any base t v := hval0
  have hW' := hW
  obtain ⟨p, q, hA0, hV, rfl, hfz, hnd⟩ := hW
  have hA : DataW.TrodAll enc Try.prog W 0 (fun _ => true) true Try.f11.params.toList args.toList ds p := hA0
  rw [Try.params11] at hA hval
  obtain ⟨v0, vs0, d0, ds0, p0, q0, hargs, rfl, rfl, h0, z0⟩ := trodAll_cons hA
  obtain ⟨rfl, rfl, rfl⟩ := trodAll_nil z0
  obtain rfl : args = #[v0] := by cases args; simp_all
  obtain ⟨rfl, rfl⟩ := trodVars_none hV
  obtain ⟨A0, n0, c0, rfl⟩ := okWide_slice Try.underlying58 (hval 0 58 v0 rfl rfl)
  obtain ⟨fu0, hf0⟩ := h0
  obtain ⟨l0, k0, m0⟩ := open_bytes Try.underlying58 Try.underlying5 cellsU8 hf0
  clear hA0 hval0
  exact (walk W A0 n0 c0 l0 k0 m0).mono fun e W' ⟨he, hb⟩ => ⟨_, he, law_post laidOut (by kernel_rfl) (tb := 4) rfl Try.underlying4 rfl hW' rfl hb⟩

theorem proved : Rows.FnExactDecodeRecordSaid :=
  OpenClaim.holds_of_wide 11 Try.f11 rfl rfl rfl rfl rfl rfl rfl ⟨rfl, rfl, rfl, rfl, rfl⟩ rfl rfl rfl rfl rfl (by kernel_rfl) Try.func11 (joined_of (by kernel_rfl))
    (of_decide_eq_true (by kernel_rfl)) (by unfold Func.isWrapper; first | (rw [if_pos (by decide +kernel)]; kernel_rfl) | (rw [if_neg (by decide +kernel)]; exact ⟨rfl, rfl⟩))
    (fun os started H enc _ => lifted os started H enc)
#print axioms proved
end Go.Proofs.Ytbbngihmjdndoaa.fnExactDecodeRecord
