/-
  Proved: the law FnMerges answers true for every input and changes nothing that was there: a merge takes over what only one side changed, whichever side it is, and does not depend on the order of the sides. Conditions: none beyond those of the row.
  By an AI agent; no person has read it.
-/
import Derived.Test.YtbbngihmjdndoaaLaw
import Derived.Test.YtbbngihmjdndoaaRecG
import Derived.Test.YtbbngihmjdndoaaMrgP
import Derived.Test.YtbbngihmjdndoaaMrgI
import Derived.Test.YtbbngihmjdndoaaMrgS
import Derived.Test.YtbbngihmjdndoaaFldG
namespace Go.Proofs.Ytbbngihmjdndoaa.fnMerges
open Go.ChangeShapes Go.WideShapes Go.ChangeAt Go.RowKit
open Go.ChangeMaps (open_string)
set_option linter.unusedVariables false
theorem big_any (A : Option Addr) (n c : Nat) (r : Bool) (w : World) (_hn : n ≤ 9223372036854775807) (hr : r = decide ((1048576 : Int) < (n : Int))) :
    Calls Try.prog 65 #[.slice A n c] w fun e w' => e = .returned (.bool r) ∧ w = w' := by
  have HR := Lib.hid hr
  clear hr
  go_enter Try.func65, Try.ntmps65
  go_wp2
  go_ret
  exact ⟨ret_bool HR.out, rfl⟩


set_option maxRecDepth 100000 in
set_option maxHeartbeats 20000000 in
theorem walk (w : World) (A0 : Option Addr) (n0 c0 : Nat) (l0 : List UInt8) (h0 : Rd w 1 A0 n0 (l0.map bv)) (m0 : n0 ≤ maxLen) :
    Calls Try.prog 18 #[.slice A0 n0 c0] w fun e w' => e = .returned (.bool true) ∧ Below w.heap.size w w' := by
  unfold maxLen at m0
  by_cases hb0 : (1048576 : Int) < (n0 : Int)
  · go_enter Try.func18, Try.ntmps18
    go_wp2_with fail
    refine (big_any A0 n0 c0 true _ (by omega) (decide_eq_true hb0).symm).mono ?_
    rintro e w1 ⟨rfl, rfl⟩
    go_wp2
    go_ret
    exact ⟨rfl, Below.refl _ _⟩
  have hn0 : n0 ≤ 1048576 := by omega
  go_enter Try.func18, Try.ntmps18
  go_wp2_with fail
  refine (big_any A0 n0 c0 false _ (by omega) (decide_eq_false (by omega)).symm).mono ?_
  rintro e w0 ⟨rfl, rfl⟩
  go_wp2_with fail
  refine (drawMergeRecords_any A0 n0 c0 l0 _ (by omega) h0).mono ?_
  rintro e w1 ⟨Ao, no, co, lo, Aa, na, ca, la, Ab, nb, cb, lb, rfl, ⟨ro, ra, rb⟩, ⟨ko, ka, kb⟩, ⟨hno, hna, hnb⟩, b1⟩
  have B1 : Below w.heap.size w w1 := b1
  clear b1
  obtain ⟨lr, r, hlr⟩ : ∃ lr r, (lr, r) = mrgR lo la lb := ⟨_, _, rfl⟩
  obtain ⟨lq, r2, hlq⟩ : ∃ lr r, (lr, r) = mrgR lo lb la := ⟨_, _, rfl⟩
  have ml := mrg_law lo la lb
  rw [← hlr, ← hlq] at ml
  obtain rfl : r2 = r := ml.1
  have HLR := Lib.hid hlr
  have HLQ := Lib.hid hlq
  have HM := Lib.hid ml.2
  clear ml hlr hlq
  have jo : no ≤ 1048576 := by omega
  have ja : na ≤ 1048576 := by omega
  have jb : nb ≤ 1048576 := by omega
  have xo : no ≤ maxLen := by unfold maxLen; omega
  have xa : na ≤ maxLen := by unfold maxLen; omega
  have xb : nb ≤ maxLen := by unfold maxLen; omega
  clear hno hna hnb
  have b2 : Below w1.heap.size w1 (((w1.alloc (.cells #[.slice Ao no co] 28)).alloc (.cells #[.slice Aa na ca] 28)).alloc (.cells #[.slice Ab nb cb] 28)) := al (al (al (Below.refl _ _)))
  have B2 : Below w.heap.size w (((w1.alloc (.cells #[.slice Ao no co] 28)).alloc (.cells #[.slice Aa na ca] 28)).alloc (.cells #[.slice Ab nb cb] 28)) := B1.trans (b2.mono B1.size)
  replace ro := ro.below b2
  replace ra := ra.below b2
  replace rb := rb.below b2
  have vo : (((w1.alloc (.cells #[.slice Ao no co] 28)).alloc (.cells #[.slice Aa na ca] 28)).alloc (.cells #[.slice Ab nb cb] 28)).cell? ⟨w1.heap.size, 0, none⟩ = some (.slice Ao no co) := by simp [go_sem]
  have va : (((w1.alloc (.cells #[.slice Ao no co] 28)).alloc (.cells #[.slice Aa na ca] 28)).alloc (.cells #[.slice Ab nb cb] 28)).cell? ⟨w1.heap.size + 1, 0, none⟩ = some (.slice Aa na ca) := by simp [go_sem]
  have vb : (((w1.alloc (.cells #[.slice Ao no co] 28)).alloc (.cells #[.slice Aa na ca] 28)).alloc (.cells #[.slice Ab nb cb] 28)).cell? ⟨w1.heap.size + 1 + 1, 0, none⟩ = some (.slice Ab nb cb) := by simp [go_sem]
  clear b2
  go_wp2_with fail
  refine (implMergeRecords_any Ao Aa Ab no na nb co ca cb lo la lb lr r2 _ jo ja jb ro ra rb ko ka kb HLR.out).mono ?_
  rintro e w3 ⟨A3, n3, c3, rfl, o3, b3⟩
  have B3 : Below w.heap.size w w3 := B2.trans (b3.mono B2.size)
  replace ro := ro.below b3
  replace ra := ra.below b3
  replace rb := rb.below b3
  replace vo := kcell b3 vo
  replace va := kcell b3 va
  replace vb := kcell b3 vb
  clear b3
  have p3 : n3 ≤ maxLen := Nat.le_trans (own_cap o3).1 (own_cap o3).2
  have b4 : Below w3.heap.size w3 (w3.alloc (.cells #[.slice A3 n3 c3] 28)) := al (Below.refl _ _)
  have B4 : Below w.heap.size w (w3.alloc (.cells #[.slice A3 n3 c3] 28)) := B3.trans (b4.mono B3.size)
  replace ro := ro.below b4
  replace ra := ra.below b4
  replace rb := rb.below b4
  replace o3 := own_below o3 b4
  replace vo := kcell b4 vo
  replace va := kcell b4 va
  replace vb := kcell b4 vb
  have dx : (w3.alloc (.cells #[.slice A3 n3 c3] 28)).cell? ⟨w3.heap.size, 0, none⟩ = some (.slice A3 n3 c3) := by simp
  clear b4
  go_wp2_with fail
  refine (implMergeRecords_any Ao Ab Aa no nb na co cb ca lo lb la lq r2 _ jo jb ja ro rb ra ko kb ka HLQ.out).mono ?_
  rintro e w5 ⟨A5, n5, c5, rfl, o5, b5⟩
  have B5 : Below w.heap.size w w5 := B4.trans (b5.mono B4.size)
  replace ro := ro.below b5
  replace ra := ra.below b5
  replace rb := rb.below b5
  replace o3 := own_below o3 b5
  replace vo := kcell b5 vo
  replace va := kcell b5 va
  replace vb := kcell b5 vb
  replace dx := kcell b5 dx
  clear b5
  have p5 : n5 ≤ maxLen := Nat.le_trans (own_cap o5).1 (own_cap o5).2
  have b6 : Below w5.heap.size w5 (w5.alloc (.cells #[.slice A5 n5 c5] 28)) := al (Below.refl _ _)
  have B6 : Below w.heap.size w (w5.alloc (.cells #[.slice A5 n5 c5] 28)) := B5.trans (b6.mono B5.size)
  replace ro := ro.below b6
  replace ra := ra.below b6
  replace rb := rb.below b6
  replace o3 := own_below o3 b6
  replace o5 := own_below o5 b6
  replace vo := kcell b6 vo
  replace va := kcell b6 va
  replace vb := kcell b6 vb
  replace dx := kcell b6 dx
  have dy : (w5.alloc (.cells #[.slice A5 n5 c5] 28)).cell? ⟨w5.heap.size, 0, none⟩ = some (.slice A5 n5 c5) := by simp
  clear b6
  go_wp2_with fail
  refine (specMergeRecords_any Ao Aa Ab no na nb co ca cb lo la lb lr r2 _ jo ja jb ro ra rb ko ka kb HLR.out).mono ?_
  rintro e w7 ⟨A7, n7, c7, rfl, o7, b7⟩
  have B7 : Below w.heap.size w w7 := B6.trans (b7.mono B6.size)
  replace ro := ro.below b7
  replace ra := ra.below b7
  replace rb := rb.below b7
  replace o3 := own_below o3 b7
  replace o5 := own_below o5 b7
  replace vo := kcell b7 vo
  replace va := kcell b7 va
  replace vb := kcell b7 vb
  replace dx := kcell b7 dx
  replace dy := kcell b7 dy
  clear b7
  have p7 : n7 ≤ maxLen := Nat.le_trans (own_cap o7).1 (own_cap o7).2
  clear o7 p7
  have b8 : Below w7.heap.size w7 (w7.alloc (.cells #[.slice A7 n7 c7] 28)) := al (Below.refl _ _)
  have B8 : Below w.heap.size w (w7.alloc (.cells #[.slice A7 n7 c7] 28)) := B7.trans (b8.mono B7.size)
  replace ro := ro.below b8
  replace ra := ra.below b8
  replace rb := rb.below b8
  replace o3 := own_below o3 b8
  replace o5 := own_below o5 b8
  replace vo := kcell b8 vo
  replace va := kcell b8 va
  replace vb := kcell b8 vb
  replace dx := kcell b8 dx
  replace dy := kcell b8 dy
  clear b8
  cases r2
  · obtain rfl : lr = la := HM.out.1 rfl
    go_wp2_with fail
    refine (implEqualRecords_any A3 Aa n3 na c3 ca lr lr true _ p3 xa (Rd.of_own o3) ra (by simp)).mono ?_
    rintro e w9 ⟨rfl, b9⟩
    have B9 : Below w.heap.size w w9 := B8.trans (b9.mono B8.size)
    replace ro := ro.below b9
    replace ra := ra.below b9
    replace rb := rb.below b9
    replace o3 := own_below o3 b9
    replace o5 := own_below o5 b9
    replace vo := kcell b9 vo
    replace va := kcell b9 va
    replace vb := kcell b9 vb
    replace dx := kcell b9 dx
    replace dy := kcell b9 dy
    clear b9
    go_wp2
    go_ret
    exact ⟨rfl, B9⟩
  · obtain ⟨e1, e2, e3, e4⟩ := HM.out.2 rfl
    obtain rfl : lq = lr := e1
    have H2 := Lib.hid e2.symm
    have H3 := Lib.hid e3.symm
    have H4 := Lib.hid e4.symm
    clear e2 e3 e4
    go_wp2_with fail
    refine (implMergeRecords_any Ao Aa Ao no na no co ca co lo la lo la true _ jo ja jo ro ra ro ko ka ko H2.out).mono ?_
    rintro e w9 ⟨A9, n9, c9, rfl, o9, b9⟩
    have B9 : Below w.heap.size w w9 := B8.trans (b9.mono B8.size)
    replace ro := ro.below b9
    replace ra := ra.below b9
    replace rb := rb.below b9
    replace o3 := own_below o3 b9
    replace o5 := own_below o5 b9
    replace vo := kcell b9 vo
    replace va := kcell b9 va
    replace vb := kcell b9 vb
    replace dx := kcell b9 dx
    replace dy := kcell b9 dy
    clear b9
    have p9 : n9 ≤ maxLen := Nat.le_trans (own_cap o9).1 (own_cap o9).2
    have b10 : Below w9.heap.size w9 (w9.alloc (.cells #[.slice A9 n9 c9] 28)) := al (Below.refl _ _)
    have B10 : Below w.heap.size w (w9.alloc (.cells #[.slice A9 n9 c9] 28)) := B9.trans (b10.mono B9.size)
    replace ro := ro.below b10
    replace ra := ra.below b10
    replace rb := rb.below b10
    replace o3 := own_below o3 b10
    replace o5 := own_below o5 b10
    replace o9 := own_below o9 b10
    replace vo := kcell b10 vo
    replace va := kcell b10 va
    replace vb := kcell b10 vb
    replace dx := kcell b10 dx
    replace dy := kcell b10 dy
    have d1 : (w9.alloc (.cells #[.slice A9 n9 c9] 28)).cell? ⟨w9.heap.size, 0, none⟩ = some (.slice A9 n9 c9) := by simp
    clear b10
    go_wp2_with fail
    refine (implMergeRecords_any Ao Ao Ab no no nb co co cb lo lo lb lb true _ jo jo jb ro ro rb ko ko kb H3.out).mono ?_
    rintro e w11 ⟨A11, n11, c11, rfl, o11, b11⟩
    have B11 : Below w.heap.size w w11 := B10.trans (b11.mono B10.size)
    replace ro := ro.below b11
    replace ra := ra.below b11
    replace rb := rb.below b11
    replace o3 := own_below o3 b11
    replace o5 := own_below o5 b11
    replace o9 := own_below o9 b11
    replace vo := kcell b11 vo
    replace va := kcell b11 va
    replace vb := kcell b11 vb
    replace dx := kcell b11 dx
    replace dy := kcell b11 dy
    replace d1 := kcell b11 d1
    clear b11
    have p11 : n11 ≤ maxLen := Nat.le_trans (own_cap o11).1 (own_cap o11).2
    have b12 : Below w11.heap.size w11 (w11.alloc (.cells #[.slice A11 n11 c11] 28)) := al (Below.refl _ _)
    have B12 : Below w.heap.size w (w11.alloc (.cells #[.slice A11 n11 c11] 28)) := B11.trans (b12.mono B11.size)
    replace ro := ro.below b12
    replace ra := ra.below b12
    replace rb := rb.below b12
    replace o3 := own_below o3 b12
    replace o5 := own_below o5 b12
    replace o9 := own_below o9 b12
    replace o11 := own_below o11 b12
    replace vo := kcell b12 vo
    replace va := kcell b12 va
    replace vb := kcell b12 vb
    replace dx := kcell b12 dx
    replace dy := kcell b12 dy
    replace d1 := kcell b12 d1
    have d2 : (w11.alloc (.cells #[.slice A11 n11 c11] 28)).cell? ⟨w11.heap.size, 0, none⟩ = some (.slice A11 n11 c11) := by simp
    clear b12
    go_wp2_with fail
    refine (implMergeRecords_any Ao Aa Aa no na na co ca ca lo la la la true _ jo ja ja ro ra ra ko ka ka H4.out).mono ?_
    rintro e w13 ⟨A13, n13, c13, rfl, o13, b13⟩
    have B13 : Below w.heap.size w w13 := B12.trans (b13.mono B12.size)
    replace ro := ro.below b13
    replace ra := ra.below b13
    replace rb := rb.below b13
    replace o3 := own_below o3 b13
    replace o5 := own_below o5 b13
    replace o9 := own_below o9 b13
    replace o11 := own_below o11 b13
    replace vo := kcell b13 vo
    replace va := kcell b13 va
    replace vb := kcell b13 vb
    replace dx := kcell b13 dx
    replace dy := kcell b13 dy
    replace d1 := kcell b13 d1
    replace d2 := kcell b13 d2
    clear b13
    have p13 : n13 ≤ maxLen := Nat.le_trans (own_cap o13).1 (own_cap o13).2
    have b14 : Below w13.heap.size w13 (w13.alloc (.cells #[.slice A13 n13 c13] 28)) := al (Below.refl _ _)
    have B14 : Below w.heap.size w (w13.alloc (.cells #[.slice A13 n13 c13] 28)) := B13.trans (b14.mono B13.size)
    replace ro := ro.below b14
    replace ra := ra.below b14
    replace rb := rb.below b14
    replace o3 := own_below o3 b14
    replace o5 := own_below o5 b14
    replace o9 := own_below o9 b14
    replace o11 := own_below o11 b14
    replace o13 := own_below o13 b14
    replace vo := kcell b14 vo
    replace va := kcell b14 va
    replace vb := kcell b14 vb
    replace dx := kcell b14 dx
    replace dy := kcell b14 dy
    replace d1 := kcell b14 d1
    replace d2 := kcell b14 d2
    have d3 : (w13.alloc (.cells #[.slice A13 n13 c13] 28)).cell? ⟨w13.heap.size, 0, none⟩ = some (.slice A13 n13 c13) := by simp
    clear b14
    go_wp2_with fail
    refine (implEqualRecords_any A3 A5 n3 n5 c3 c5 lq lq true _ p3 p5 (Rd.of_own o3) (Rd.of_own o5) (by simp)).mono ?_
    rintro e w15 ⟨rfl, b15⟩
    have B15 : Below w.heap.size w w15 := B14.trans (b15.mono B14.size)
    replace ro := ro.below b15
    replace ra := ra.below b15
    replace rb := rb.below b15
    replace o3 := own_below o3 b15
    replace o5 := own_below o5 b15
    replace o9 := own_below o9 b15
    replace o11 := own_below o11 b15
    replace o13 := own_below o13 b15
    replace vo := kcell b15 vo
    replace va := kcell b15 va
    replace vb := kcell b15 vb
    replace dx := kcell b15 dx
    replace dy := kcell b15 dy
    replace d1 := kcell b15 d1
    replace d2 := kcell b15 d2
    replace d3 := kcell b15 d3
    clear b15
    go_wp2_with fail
    refine (implEqualRecords_any A9 Aa n9 na c9 ca la la true _ p9 xa (Rd.of_own o9) ra (by simp)).mono ?_
    rintro e w16 ⟨rfl, b16⟩
    have B16 : Below w.heap.size w w16 := B15.trans (b16.mono B15.size)
    replace ro := ro.below b16
    replace ra := ra.below b16
    replace rb := rb.below b16
    replace o3 := own_below o3 b16
    replace o5 := own_below o5 b16
    replace o9 := own_below o9 b16
    replace o11 := own_below o11 b16
    replace o13 := own_below o13 b16
    replace vo := kcell b16 vo
    replace va := kcell b16 va
    replace vb := kcell b16 vb
    replace dx := kcell b16 dx
    replace dy := kcell b16 dy
    replace d1 := kcell b16 d1
    replace d2 := kcell b16 d2
    replace d3 := kcell b16 d3
    clear b16
    go_wp2_with fail
    refine (implEqualRecords_any A11 Ab n11 nb c11 cb lb lb true _ p11 xb (Rd.of_own o11) rb (by simp)).mono ?_
    rintro e w17 ⟨rfl, b17⟩
    have B17 : Below w.heap.size w w17 := B16.trans (b17.mono B16.size)
    replace ro := ro.below b17
    replace ra := ra.below b17
    replace rb := rb.below b17
    replace o3 := own_below o3 b17
    replace o5 := own_below o5 b17
    replace o9 := own_below o9 b17
    replace o11 := own_below o11 b17
    replace o13 := own_below o13 b17
    replace vo := kcell b17 vo
    replace va := kcell b17 va
    replace vb := kcell b17 vb
    replace dx := kcell b17 dx
    replace dy := kcell b17 dy
    replace d1 := kcell b17 d1
    replace d2 := kcell b17 d2
    replace d3 := kcell b17 d3
    clear b17
    go_wp2_with fail
    refine (implEqualRecords_any A13 Aa n13 na c13 ca la la true _ p13 xa (Rd.of_own o13) ra (by simp)).mono ?_
    rintro e w18 ⟨rfl, b18⟩
    have B18 : Below w.heap.size w w18 := B17.trans (b18.mono B17.size)
    replace ro := ro.below b18
    replace ra := ra.below b18
    replace rb := rb.below b18
    replace o3 := own_below o3 b18
    replace o5 := own_below o5 b18
    replace o9 := own_below o9 b18
    replace o11 := own_below o11 b18
    replace o13 := own_below o13 b18
    replace vo := kcell b18 vo
    replace va := kcell b18 va
    replace vb := kcell b18 vb
    replace dx := kcell b18 dx
    replace dy := kcell b18 dy
    replace d1 := kcell b18 d1
    replace d2 := kcell b18 d2
    replace d3 := kcell b18 d3
    clear b18
    go_wp2
    go_ret
    exact ⟨rfl, B18⟩

set_option maxRecDepth 100000 in
theorem lifted (os : Os) (started : os.Started) (H : Type) (enc : TypeId × Value → H) :
    ReturnsInHanded {} Try.checked os 18 .any (Rows.fnMergesSpec.pre6 enc Try.prog Try.f18 Rows.fnMergesRow.domain false) (Rows.fnMergesSpec.post enc Try.prog Try.f18 false true false false) := by
  refine returnsInHanded_of_change (C := Try.checked) own started (by kernel_rfl) Try.func18
    (ChangeSpec.witness6 (enc := enc) (C := Try.checked) false ⟨#[], #[.slice none 0 0], []⟩ 8 (by kernel_rfl) (by kernel_rfl) (by kernel_rfl) (by kernel_rfl)) ?_
  intro W base args ds gs before hval0 hW hcnd _
  have hval : ∀ (j : Nat) t v, Try.f18.params[j]? = some t → args[j]? = some v → Value.okWide Try.prog W .any base t v := hval0
  have hW' := hW
  obtain ⟨p, q, hA0, hV, rfl, hfz, hnd⟩ := hW
  have hA : DataW.TrodAll enc Try.prog W 0 (fun _ => true) true Try.f18.params.toList args.toList ds p := hA0
  rw [Try.params18] at hA hval
  obtain ⟨v0, vs0, d0, ds0, p0, q0, hargs, rfl, rfl, h0, z0⟩ := trodAll_cons hA
  obtain ⟨rfl, rfl, rfl⟩ := trodAll_nil z0
  obtain rfl : args = #[v0] := by cases args; simp_all
  obtain ⟨rfl, rfl⟩ := trodVars_none hV
  obtain ⟨A0, n0, c0, rfl⟩ := okWide_slice Try.underlying58 (hval 0 58 v0 rfl rfl)
  obtain ⟨fu0, hf0⟩ := h0
  obtain ⟨l0, k0, m0⟩ := open_bytes Try.underlying58 Try.underlying5 cellsU8 hf0
  clear hA0 hval0
  exact (walk W A0 n0 c0 l0 k0 m0).mono fun e W' ⟨he, hb⟩ => ⟨_, he, law_post laidOut (by kernel_rfl) (tb := 4) rfl Try.underlying4 rfl hW' rfl hb⟩

theorem proved : Rows.FnMergesSaid :=
  OpenClaim.holds_of_wide 18 Try.f18 rfl rfl rfl rfl rfl rfl rfl ⟨rfl, rfl, rfl, rfl, rfl⟩ rfl rfl rfl rfl rfl (by kernel_rfl) Try.func18 (joined_of (by kernel_rfl))
    (of_decide_eq_true (by kernel_rfl)) (by unfold Func.isWrapper; first | (rw [if_pos (by decide +kernel)]; kernel_rfl) | (rw [if_neg (by decide +kernel)]; exact ⟨rfl, rfl⟩))
    (fun os started H enc _ => lifted os started H enc)
#print axioms proved
end Go.Proofs.Ytbbngihmjdndoaa.fnMerges
