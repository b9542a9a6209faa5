/-
  Proved: the law FnRecords answers true for every input and changes nothing that was there: records are decoded from their encoding, and a field that was set is found until it is removed. Conditions: none beyond those of the row.
  By an AI agent; no person has read it.
-/
import Derived.Test.YtbbngihmjdndoaaLaw
import Derived.Test.YtbbngihmjdndoaaRecF
import Derived.Test.YtbbngihmjdndoaaRecL
import Derived.Test.YtbbngihmjdndoaaDrawB
import Derived.Test.YtbbngihmjdndoaaSame
import Derived.Test.YtbbngihmjdndoaaFldRm
import Derived.Test.YtbbngihmjdndoaaFldSt
import Derived.Test.YtbbngihmjdndoaaFldI
import Derived.Test.YtbbngihmjdndoaaFldH
import Derived.Test.YtbbngihmjdndoaaFldD
namespace Go.Proofs.Ytbbngihmjdndoaa.fnRecords
open Go.ChangeShapes Go.WideShapes Go.ChangeAt Go.RowKit
open Go.ChangeMaps (open_string)
set_option linter.unusedVariables false

set_option maxRecDepth 100000 in
set_option maxHeartbeats 4000000 in
theorem walk (w : World) (A0 : Option Addr) (n0 c0 : Nat) (l0 : List UInt8) (h0 : Rd w 1 A0 n0 (l0.map bv)) (m0 : n0 ≤ maxLen) :
    Calls Try.prog 16 #[.slice A0 n0 c0] w fun e w' => e = .returned (.bool true) ∧ Below w.heap.size w w' := by
  unfold maxLen at m0
  by_cases hb0 : (1048576 : Int) < (n0 : Int)
  · go_enter Try.func16, Try.ntmps16
    go_wp2_with fail
    refine (big_any A0 n0 c0 true _ (by omega) (decide_eq_true hb0).symm).mono ?_
    rintro e w1 ⟨rfl, rfl⟩
    go_wp2
    go_ret
    exact ⟨rfl, Below.refl _ _⟩
  have hn0 : n0 ≤ 1048576 := by omega
  go_enter Try.func16, Try.ntmps16
  go_wp2_with fail
  refine (big_any A0 n0 c0 false _ (by omega) (decide_eq_false (by omega)).symm).mono ?_
  rintro e w0 ⟨rfl, rfl⟩
  go_wp2_with fail
  refine (drawSetField_any A0 n0 c0 l0 _ (by omega) h0).mono ?_
  rintro e w1 ⟨A1, n1, c1, l1, s1, x1, rfl, o1, ⟨ok1, hn1, hs1, hx1⟩, b1⟩
  have B1 : Below w.heap.size w w1 := b1
  clear b1
  obtain ⟨lr, rr, hlr⟩ : ∃ lr rr, (lr, rr) = setR l1 s1 x1 := ⟨_, _, rfl⟩
  have HLR := Lib.hid hlr
  have okr : okF lr := setR_ok hlr ok1 (by unfold maxLen; omega) hx1
  have hl3 := setR_len2 hlr
  have ql1 := own_lenF o1
  have hlr9 : lr.length ≤ 10 := by omega
  clear hlr hl3 ql1
  have b2 : Below w1.heap.size w1 (w1.alloc (.cells #[.slice A1 n1 c1] 28)) := al (Below.refl _ _)
  have B2 : Below w.heap.size w (w1.alloc (.cells #[.slice A1 n1 c1] 28)) := B1.trans (b2.mono B1.size)
  replace o1 := own_below o1 b2
  have dr : (w1.alloc (.cells #[.slice A1 n1 c1] 28)).cell? ⟨w1.heap.size, 0, none⟩ = some (.slice A1 n1 c1) := by simp
  clear b2
  go_wp2_with fail
  refine (implSetField_any A1 n1 c1 l1 s1 x1 lr rr _ (by omega) (Rd.of_own o1) ok1 (by unfold maxLen; omega) hx1 HLR.out).mono ?_
  rintro e w3 ⟨A3, n3, c3, rfl, o3, b3⟩
  have B3 : Below w.heap.size w w3 := B2.trans (b3.mono B2.size)
  replace o1 := own_below o1 b3
  replace dr := kcell b3 dr
  clear b3
  have hn3 : n3 ≤ 10 := by have := own_lenF o3; omega
  have b4 : Below w3.heap.size w3 (w3.alloc (.cells #[.slice A3 n3 c3] 28)) := al (Below.refl _ _)
  have B4 : Below w.heap.size w (w3.alloc (.cells #[.slice A3 n3 c3] 28)) := B3.trans (b4.mono B3.size)
  replace o1 := own_below o1 b4
  replace o3 := own_below o3 b4
  replace dr := kcell b4 dr
  have dx : (w3.alloc (.cells #[.slice A3 n3 c3] 28)).cell? ⟨w3.heap.size, 0, none⟩ = some (.slice A3 n3 c3) := by simp
  clear b4
  go_wp2_with fail
  refine (specSetField_any A1 n1 c1 _ l1 s1 x1 lr rr _ (by omega) o1 ok1 (by unfold maxLen; omega) hx1 HLR.out).mono ?_
  rintro e w5 ⟨A5, n5, c5, rfl, o5, b5⟩
  have B5 : Below w.heap.size w w5 := B4.trans (b5.mono B4.size)
  replace o1 := own_below o1 b5
  replace o3 := own_below o3 b5
  replace dr := kcell b5 dr
  replace dx := kcell b5 dx
  clear b5
  clear o5
  have b6 : Below w5.heap.size w5 (w5.alloc (.cells #[.slice A5 n5 c5] 28)) := al (Below.refl _ _)
  have B6 : Below w.heap.size w (w5.alloc (.cells #[.slice A5 n5 c5] 28)) := B5.trans (b6.mono B5.size)
  replace o1 := own_below o1 b6
  replace o3 := own_below o3 b6
  replace dr := kcell b6 dr
  replace dx := kcell b6 dx
  clear b6
  cases rr
  · have heq := setR_not HLR.out
    subst heq
    go_wp2_with fail
    refine (implEqualRecords_any A3 A1 n3 n1 c3 c1 lr lr true _ (by unfold maxLen; omega) (by unfold maxLen; omega) (Rd.of_own o3) (Rd.of_own o1) (by simp)).mono ?_
    rintro e w7 ⟨rfl, b7⟩
    have B7 : Below w.heap.size w w7 := B6.trans (b7.mono B6.size)
    replace o1 := own_below o1 b7
    replace o3 := own_below o3 b7
    replace dr := kcell b7 dr
    replace dx := kcell b7 dx
    clear b7
    go_wp2
    go_ret
    exact ⟨rfl, B7⟩
  · obtain ⟨hg1, hg2, hg3⟩ := rec_law HLR.out
    have hrec : true = recB lr := (setR_yes HLR.out).1.symm
    have hdec : (lr, true) = decO (decP (encR lr)) := by rw [dec_encR hrec.symm]; rfl
    have hle := encR_small lr
    obtain ⟨ls, hls⟩ : ∃ ls, ls = remS lr s1 := ⟨_, rfl⟩
    rw [← hls] at hg2 hg3
    have hll : ls.length ≤ 10 := by rw [hls]; exact Nat.le_trans (List.length_filter_le _ _) hlr9
    have HG1 := Lib.hid hg1
    have HG2 := Lib.hid hg2
    have HG3 := Lib.hid hg3
    have HRC := Lib.hid hrec
    have HDC := Lib.hid hdec
    have hxx : (x1 == x1) = true := by simp
    clear hg1 hg2 hg3 hrec hdec hls
    go_wp2_with fail
    refine (implGetField_any A3 n3 c3 lr s1 x1 true _ (by unfold maxLen; omega) (Rd.of_own o3) HG1.out).mono ?_
    rintro e w7 ⟨rfl, b7⟩
    have B7 : Below w.heap.size w w7 := B6.trans (b7.mono B6.size)
    replace o1 := own_below o1 b7
    replace o3 := own_below o3 b7
    replace dr := kcell b7 dr
    replace dx := kcell b7 dx
    clear b7
    go_wp2_with fail
    refine (implRemoveField_any A3 n3 c3 lr s1 ls true _ (by omega) (Rd.of_own o3) okr HG2.out).mono ?_
    rintro e w8 ⟨A8, n8, c8, rfl, o8, b8⟩
    have B8 : Below w.heap.size w w8 := B7.trans (b8.mono B7.size)
    replace o1 := own_below o1 b8
    replace o3 := own_below o3 b8
    replace dr := kcell b8 dr
    replace dx := kcell b8 dx
    clear b8
    have hn8 : n8 ≤ 10 := by have := own_lenF o8; omega
    have b9 : Below w8.heap.size w8 (w8.alloc (.cells #[.slice A8 n8 c8] 28)) := al (Below.refl _ _)
    have B9 : Below w.heap.size w (w8.alloc (.cells #[.slice A8 n8 c8] 28)) := B8.trans (b9.mono B8.size)
    replace o1 := own_below o1 b9
    replace o3 := own_below o3 b9
    replace o8 := own_below o8 b9
    replace dr := kcell b9 dr
    replace dx := kcell b9 dx
    have dy : (w8.alloc (.cells #[.slice A8 n8 c8] 28)).cell? ⟨w8.heap.size, 0, none⟩ = some (.slice A8 n8 c8) := by simp
    clear b9
    go_wp2_with fail
    refine (implGetField_any A8 n8 c8 ls s1 0 false _ (by unfold maxLen; omega) (Rd.of_own o8) HG3.out).mono ?_
    rintro e w10 ⟨rfl, b10⟩
    have B10 : Below w.heap.size w w10 := B9.trans (b10.mono B9.size)
    replace o1 := own_below o1 b10
    replace o3 := own_below o3 b10
    replace o8 := own_below o8 b10
    replace dr := kcell b10 dr
    replace dx := kcell b10 dx
    replace dy := kcell b10 dy
    clear b10
    clear o8 dy
    go_wp2_with fail
    refine (implEncodeRecord_any A3 n3 c3 lr _ (by omega) (Rd.of_own o3) okr).mono ?_
    rintro e w11 ⟨A11, n11, c11, rfl, o11, b11⟩
    have B11 : Below w.heap.size w w11 := B10.trans (b11.mono B10.size)
    replace o1 := own_below o1 b11
    replace o3 := own_below o3 b11
    replace dr := kcell b11 dr
    replace dx := kcell b11 dx
    clear b11
    have hn11 : n11 ≤ 200 := by have := own_lenB o11; omega
    have hc11 := own_cap o11
    go_wp2_with fail
    refine (implDecodeRecord_any A11 n11 c11 (encR lr) lr true _ (by omega) hc11.1 hc11.2 (Rd.of_own o11) HDC.out).mono ?_
    rintro e w12 ⟨A12, n12, c12, rfl, o12, b12⟩
    have B12 : Below w.heap.size w w12 := B11.trans (b12.mono B11.size)
    replace o1 := own_below o1 b12
    replace o3 := own_below o3 b12
    replace dr := kcell b12 dr
    replace dx := kcell b12 dx
    clear b12
    have hn12 : n12 ≤ 10 := by have := own_lenF o12; omega
    have b13 : Below w12.heap.size w12 (w12.alloc (.cells #[.slice A12 n12 c12] 28)) := al (Below.refl _ _)
    have B13 : Below w.heap.size w (w12.alloc (.cells #[.slice A12 n12 c12] 28)) := B12.trans (b13.mono B12.size)
    replace o1 := own_below o1 b13
    replace o3 := own_below o3 b13
    replace o12 := own_below o12 b13
    replace dr := kcell b13 dr
    replace dx := kcell b13 dx
    have dz : (w12.alloc (.cells #[.slice A12 n12 c12] 28)).cell? ⟨w12.heap.size, 0, none⟩ = some (.slice A12 n12 c12) := by simp
    clear b13
    go_wp2_with fail
    refine (drawDecodeRecord_any A0 n0 c0 l0 _ (by omega) (h0.below B13)).mono ?_
    rintro e w14 ⟨A14, n14, c14, l14, rfl, o14, hl14, b14⟩
    have B14 : Below w.heap.size w w14 := B13.trans (b14.mono B13.size)
    replace o1 := own_below o1 b14
    replace o3 := own_below o3 b14
    replace o12 := own_below o12 b14
    replace dr := kcell b14 dr
    replace dx := kcell b14 dx
    replace dz := kcell b14 dz
    clear b14
    have hn14 : n14 ≤ 201 := by have := own_lenB o14; omega
    have hc14 := own_cap o14
    obtain ⟨u, iu, hu⟩ : ∃ u iu, (u, iu) = decO (decP l14) := ⟨_, _, rfl⟩
    have HU := Lib.hid hu
    clear hu
    go_wp2_with fail
    refine (implDecodeRecord_any A14 n14 c14 l14 u iu _ (by omega) hc14.1 hc14.2 (Rd.of_own o14) HU.out).mono ?_
    rintro e w15 ⟨A15, n15, c15, rfl, o15, b15⟩
    have B15 : Below w.heap.size w w15 := B14.trans (b15.mono B14.size)
    replace o1 := own_below o1 b15
    replace o3 := own_below o3 b15
    replace o12 := own_below o12 b15
    replace o14 := own_below o14 b15
    replace dr := kcell b15 dr
    replace dx := kcell b15 dx
    replace dz := kcell b15 dz
    clear b15
    have b16 : Below w15.heap.size w15 (w15.alloc (.cells #[.slice A15 n15 c15] 28)) := al (Below.refl _ _)
    have B16 : Below w.heap.size w (w15.alloc (.cells #[.slice A15 n15 c15] 28)) := B15.trans (b16.mono B15.size)
    replace o1 := own_below o1 b16
    replace o3 := own_below o3 b16
    replace o12 := own_below o12 b16
    replace o14 := own_below o14 b16
    replace o15 := own_below o15 b16
    replace dr := kcell b16 dr
    replace dx := kcell b16 dx
    replace dz := kcell b16 dz
    have du : (w15.alloc (.cells #[.slice A15 n15 c15] 28)).cell? ⟨w15.heap.size, 0, none⟩ = some (.slice A15 n15 c15) := by simp
    clear b16
    go_wp2_with fail
    refine (implEqualRecords_any A12 A3 n12 n3 c12 c3 lr lr true _ (by unfold maxLen; omega) (by unfold maxLen; omega) (Rd.of_own o12) (Rd.of_own o3) (by simp)).mono ?_
    rintro e w17 ⟨rfl, b17⟩
    have B17 : Below w.heap.size w w17 := B16.trans (b17.mono B16.size)
    replace o1 := own_below o1 b17
    replace o3 := own_below o3 b17
    replace o12 := own_below o12 b17
    replace o14 := own_below o14 b17
    replace o15 := own_below o15 b17
    replace dr := kcell b17 dr
    replace dx := kcell b17 dx
    replace dz := kcell b17 dz
    replace du := kcell b17 du
    clear b17
    go_wp2_with fail
    refine (implIsRecord_any A3 n3 c3 lr true _ (by unfold maxLen; omega) (Rd.of_own o3) okr HRC.out).mono ?_
    rintro e w18 ⟨rfl, b18⟩
    have B18 : Below w.heap.size w w18 := B17.trans (b18.mono B17.size)
    replace o1 := own_below o1 b18
    replace o3 := own_below o3 b18
    replace o12 := own_below o12 b18
    replace o14 := own_below o14 b18
    replace o15 := own_below o15 b18
    replace dr := kcell b18 dr
    replace dx := kcell b18 dx
    replace dz := kcell b18 dz
    replace du := kcell b18 du
    clear b18
    cases iu
    · go_wp2
      go_ret
      exact ⟨rfl, B18⟩
    · obtain ⟨hu1, hu2⟩ := dec_back HU.out
      have hu6 := recB_len hu1
      have hn15 : n15 ≤ 6 := by have := own_lenF o15; omega
      have HU2 := Lib.hid hu2
      have oku := okF_rec hu1
      clear hu1 hu2
      go_wp2_with fail
      refine (implEncodeRecord_any A15 n15 c15 u _ (by omega) (Rd.of_own o15) oku).mono ?_
      rintro e w19 ⟨A19, n19, c19, rfl, o19, b19⟩
      have B19 : Below w.heap.size w w19 := B18.trans (b19.mono B18.size)
      replace o1 := own_below o1 b19
      replace o3 := own_below o3 b19
      replace o12 := own_below o12 b19
      replace o14 := own_below o14 b19
      replace o15 := own_below o15 b19
      replace dr := kcell b19 dr
      replace dx := kcell b19 dx
      replace dz := kcell b19 dz
      replace du := kcell b19 du
      clear b19
      rw [HU2.out] at o19
      have hn19 : n19 ≤ 201 := by have := own_lenB o19; omega
      go_wp2_with fail
      refine (sameBytes_any A19 A14 n19 n14 c19 c14 l14 l14 true _ (by unfold maxLen; omega) (by unfold maxLen; omega) (Rd.of_own o19) (Rd.of_own o14) (by simp)).mono ?_
      rintro e w20 ⟨rfl, b20⟩
      have B20 : Below w.heap.size w w20 := B19.trans (b20.mono B19.size)
      replace o1 := own_below o1 b20
      replace o3 := own_below o3 b20
      replace o12 := own_below o12 b20
      replace o14 := own_below o14 b20
      replace o15 := own_below o15 b20
      replace dr := kcell b20 dr
      replace dx := kcell b20 dx
      replace dz := kcell b20 dz
      replace du := kcell b20 du
      clear b20
      go_wp2
      go_ret
      exact ⟨rfl, B20⟩

set_option maxRecDepth 100000 in
theorem lifted (os : Os) (started : os.Started) (H : Type) (enc : TypeId × Value → H) :
    ReturnsInHanded {} Try.checked os 16 .any (Rows.fnRecordsSpec.pre6 enc Try.prog Try.f16 Rows.fnRecordsRow.domain false) (Rows.fnRecordsSpec.post enc Try.prog Try.f16 false true false false) := by
  refine returnsInHanded_of_change (C := Try.checked) own started (by kernel_rfl) Try.func16
    (ChangeSpec.witness6 (enc := enc) (C := Try.checked) false ⟨#[], #[.slice none 0 0], []⟩ 8 (by kernel_rfl) (by kernel_rfl) (by kernel_rfl) (by kernel_rfl)) ?_
  intro W base args ds gs before hval0 hW hcnd _
  have hval : ∀ (j : Nat) t v, Try.f16.params[j]? = some t → args[j]? = some v → Value.okWide Try.prog W .any base t v := hval0
  have hW' := hW
  obtain ⟨p, q, hA0, hV, rfl, hfz, hnd⟩ := hW
  have hA : DataW.TrodAll enc Try.prog W 0 (fun _ => true) true Try.f16.params.toList args.toList ds p := hA0
  rw [Try.params16] at hA hval
  obtain ⟨v0, vs0, d0, ds0, p0, q0, hargs, rfl, rfl, h0, z0⟩ := trodAll_cons hA
  obtain ⟨rfl, rfl, rfl⟩ := trodAll_nil z0
  obtain rfl : args = #[v0] := by cases args; simp_all
  obtain ⟨rfl, rfl⟩ := trodVars_none hV
  obtain ⟨A0, n0, c0, rfl⟩ := okWide_slice Try.underlying58 (hval 0 58 v0 rfl rfl)
  obtain ⟨fu0, hf0⟩ := h0
  obtain ⟨l0, k0, m0⟩ := open_bytes Try.underlying58 Try.underlying5 cellsU8 hf0
  clear hA0 hval0
  exact (walk W A0 n0 c0 l0 k0 m0).mono fun e W' ⟨he, hb⟩ => ⟨_, he, law_post laidOut (by kernel_rfl) (tb := 4) rfl Try.underlying4 rfl hW' rfl hb⟩

theorem proved : Rows.FnRecordsSaid :=
  OpenClaim.holds_of_wide 16 Try.f16 rfl rfl rfl rfl rfl rfl rfl ⟨rfl, rfl, rfl, rfl, rfl⟩ rfl rfl rfl rfl rfl (by kernel_rfl) Try.func16 (joined_of (by kernel_rfl))
    (of_decide_eq_true (by kernel_rfl)) (by unfold Func.isWrapper; first | (rw [if_pos (by decide +kernel)]; kernel_rfl) | (rw [if_neg (by decide +kernel)]; exact ⟨rfl, rfl⟩))
    (fun os started H enc _ => lifted os started H enc)
#print axioms proved
end Go.Proofs.Ytbbngihmjdndoaa.fnRecords
