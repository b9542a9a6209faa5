/-
  Proved: the law FnByteStrings answers true for every input and changes nothing that was there: byte strings and lists of integers are decoded from their encodings. Conditions: none beyond those of the row.
  By an AI agent; no person has read it.
-/
import Derived.Test.YtiliahafaldfcaaLaw
import Derived.Test.YtiliahafaldfcaaPlA
import Derived.Test.YtiliahafaldfcaaDrawB
import Derived.Test.YtiliahafaldfcaaSame
import Derived.Test.YtiliahafaldfcaaSameI
namespace Go.Proofs.Ytiliahafaldfcaa.fnByteStrings
open Go.ChangeShapes Go.WideShapes Go.ChangeAt Go.RowKit
open Go.ChangeMaps (open_string)
set_option linter.unusedVariables false

set_option maxRecDepth 100000 in
set_option maxHeartbeats 4000000 in
theorem walk (w : World) (A0 : Option Addr) (n0 c0 : Nat) (l0 : List UInt8) (h0 : Rd w 1 A0 n0 (l0.map bv)) (m0 : n0 ≤ maxLen) :
    Calls Try.prog 5 #[.slice A0 n0 c0] w fun e w' => e = .returned (.bool true) ∧ Below w.heap.size w w' := by
  unfold maxLen at m0
  by_cases hb0 : (1048576 : Int) < (n0 : Int)
  · go_enter Try.func5, Try.ntmps5
    go_wp2_with fail
    refine (big_any A0 n0 c0 true _ (by omega) (decide_eq_true hb0).symm).mono ?_
    rintro e w1 ⟨rfl, rfl⟩
    go_wp2
    go_ret
    exact ⟨rfl, Below.refl _ _⟩
  have hn0 : n0 ≤ 1048576 := by omega
  obtain ⟨i0, hi, hz0, hz1, hz2⟩ := info_parts infoI
  go_enter Try.func5, Try.ntmps5
  go_wp2_with fail
  refine (big_any A0 n0 c0 false _ (by omega) (decide_eq_false (by omega)).symm).mono ?_
  rintro e w0 ⟨rfl, rfl⟩
  go_wp2_with fail
  refine (drawAppendBytes_any A0 n0 c0 l0 _ (by omega) h0).mono ?_
  rintro e w1 ⟨A1, n1, c1, l1, A9, n9, c9, l9, rfl, o1, o9, hl1, hl9, B1⟩
  have HL1 := Lib.hid (own_lenB o1)
  have HL9 := Lib.hid (own_lenB o9)
  have q1 : n1 ≤ 8 := by have := HL1.out; omega
  have q9 : n9 ≤ 8 := by have := HL9.out; omega
  have HRB := readB_app l1 l9 (by omega)
  rw [HL1.out, HL9.out] at HRB
  go_wp2_with fail
  refine (implAppendBytes_any A1 A9 n1 n9 c1 c9 l1 l9 _ (by omega) (by omega) (Rd.of_own o1) (Rd.of_own o9)).mono ?_
  rintro e w2 ⟨A2, n2, c2, rfl, o2, b2⟩
  have B2 := B1.trans (b2.mono B1.size)
  replace o1 := own_below o1 b2
  replace o9 := own_below o9 b2
  have q2 : n2 ≤ 32 := by have z1 := own_lenB o2; have z2 := appB_len l1 l9; omega
  have HL2 := Lib.hid (own_lenB o2)
  rw [HL2.out] at HRB
  have HR1 := Lib.hid HRB.1
  have HR2 := Lib.hid HRB.2
  clear HRB hl1 hl9
  have R2 := own_cap o2
  go_wp2_with fail
  refine (implReadBytes_yes A2 n2 c2 _ l9 (n1 : Int) (n9 : Int) n2 _ (by omega) R2.1 R2.2 (Rd.of_own o2) (by omega) HR1.out).mono ?_
  rintro e w3 ⟨A3, n3, c3, rfl, o3, b3⟩
  have B3 := B2.trans (b3.mono B2.size)
  replace o1 := own_below o1 b3
  replace o9 := own_below o9 b3
  replace o2 := own_below o2 b3
  have q3 : n3 ≤ 8 := by have z1 := own_lenB o3; have z2 := own_lenB o9; omega
  go_wp2_with fail
  refine (implReadBytes_no A2 n2 c2 _ (n1 : Int) ((n9 : Int) - 1) _ (by omega) (Rd.of_own o2) (by omega) HR2.out).mono ?_
  rintro e w4 ⟨A4, n4, c4, rfl, o4, b4⟩
  have B4 := B3.trans (b4.mono B3.size)
  replace o1 := own_below o1 b4
  replace o9 := own_below o9 b4
  replace o2 := own_below o2 b4
  replace o3 := own_below o3 b4
  go_wp2_with fail
  refine (sameBytes_any A3 A9 n3 n9 c3 c9 _ _ true _ (by unfold maxLen; omega) (by unfold maxLen; omega) (Rd.of_own o3) (Rd.of_own o9) (by simp)).mono ?_
  rintro e w5 ⟨rfl, b5⟩
  have B5 := B4.trans (b5.mono B4.size)
  replace o1 := own_below o1 b5
  replace o9 := own_below o9 b5
  replace o2 := own_below o2 b5
  replace o3 := own_below o3 b5
  clear o1 o2 o3 o4 o9 R2 b2 b3 b4 b5
  have hN := atF_rng l0 0
  obtain ⟨N, hN2⟩ : ∃ N : Nat, (N : Int) = atF l0 0 % 6 := ⟨(atF l0 0 % 6).toNat, by omega⟩
  have hN5 : N ≤ 5 := by omega
  have HN := Lib.hid hN2
  clear hN2
  have HOL := Lib.hid (own_new (w := w5) (base := w5.heap.size) (e := 3) (size := 1) (Nat.le_refl _))
  have HBL := Lib.hid (B5.alloc B5.size (.cells #[] 3))
  have hz5 := B5.size
  go_wp2
  go_loopw [12, 13] (fun v i wr => ∃ (k : Nat) (B : Option Addr) (m d : Nat) (l : List Int), k ≤ N ∧ i = .int .i64 k ∧ v = .slice B m d ∧ m = k ∧ wr.ownsRow w5.heap.size 3 1 (.slice B m d) m (l.map iv) ∧ (∀ z ∈ l, 0 ≤ z ∧ z ≤ 1000000000000) ∧ Below w.heap.size w wr ∧ w5.heap.size ≤ wr.heap.size) (fun _ i _ => N - (intOf i).toNat)
  case atStart => exact ⟨0, _, _, _, [], Nat.zero_le _, rfl, rfl, rfl, HOL.out, by simp, HBL.out, by simp⟩
  case round =>
    obtain ⟨k, B, m, d, l, hk, rfl, rfl, rfl, ho, hall, hbel, hbs⟩ := hrel
    have HA := Lib.hid hall
    clear hall HOL HBL B1 B2 B3 B4 B5
    have hx := h0.below hbel
    go_wp2_with fail
    refine (at_any A0 n0 c0 l0 0 _ (by omega) (by omega) hx).mono ?_
    rintro e w6 ⟨rfl, rfl⟩
    obtain ⟨a0, ha0⟩ : ∃ a0, a0 = atF l0 0 := ⟨_, rfl⟩
    rw [← ha0] at hN ⊢
    have HA0 := Lib.hid ha0
    have hNa : (N : Int) = a0 % 6 := by rw [HA0.out]; exact HN.out
    clear ha0
    by_cases hlt : m < N
    · have hlt2 : (m : Int) < a0 % 6 := by omega
      have HNa := Lib.hid hNa
      clear hNa
      go_wp2_with fail
      refine (at_any A0 n0 c0 l0 (m + 1) _ (by omega) (by omega) hx).mono ?_
      rintro e w7 ⟨rfl, rfl⟩
      have r1 := atF_rng l0 (m + 1)
      generalize atF l0 (m + 1) = x1 at r1 ⊢
      go_wp2_with fail
      refine (at_any A0 n0 c0 l0 (m + 2) _ (by omega) (by omega) hx).mono ?_
      rintro e w8 ⟨rfl, rfl⟩
      have r2 := atF_rng l0 (m + 2)
      generalize atF l0 (m + 2) = x2 at r2 ⊢
      have r12 : 0 ≤ x1 * x2 ∧ x1 * x2 ≤ 65025 := ⟨Int.mul_nonneg r1.1 r2.1, by
        have h1 : x1 * x2 ≤ 255 * x2 := Int.mul_le_mul_of_nonneg_right r1.2 r2.1
        omega⟩
      go_wp2_with fail
      refine (at_any A0 n0 c0 l0 (m + 3) _ (by omega) (by omega) hx).mono ?_
      rintro e w9 ⟨rfl, rfl⟩
      have r3 := atF_rng l0 (m + 3)
      generalize atF l0 (m + 3) = x3 at r3 ⊢
      have r123 : 0 ≤ x1 * x2 * x3 ∧ x1 * x2 * x3 ≤ 16581375 := ⟨Int.mul_nonneg r12.1 r3.1, by
        have h1 : x1 * x2 * x3 ≤ 65025 * x3 := Int.mul_le_mul_of_nonneg_right r12.2 r3.1
        omega⟩
      go_wp2_with (at_builtin; refine wpList_push wr rfl _ _ 28 rfl w5.heap.size 3 i0 (.int .i64 0) 8 Try.underlying28 hi hz0 hz1 hz2 rfl B m d _ (by rfl) ho _ (by rfl) (by rfl) ?c1 ?c2 ?c3 ?_)
      case c1 => unfold maxLen; omega
      case c2 => omega
      case c3 => exact hbs
      intro A' k' c' w10 hk2 ho2 hb2
      have HO : Hid (w10.ownsRow w5.heap.size 3 1 (.slice A' k' c') k' ((l ++ [x1 * x2 * x3]).map iv)) := by
        rw [List.map_append]
        first | exact ho2 | (simpa using ho2)
      have HW2 : Hid (∀ z ∈ l ++ [x1 * x2 * x3], 0 ≤ z ∧ z ≤ 1000000000000) := by
        intro z hz
        rcases List.mem_append.1 hz with h | h
        · exact HA.out z h
        · rw [List.mem_singleton.1 h]
          omega
      have HB := Lib.hid (hbel.trans (hb2.mono hz5))
      have hbs2 := Nat.le_trans hbs hb2.size
      have HK := Lib.hid hk2
      clear hk2 ho2 hb2
      go_wp2
      go_roundw
      case rel => exact ⟨m + 1, _, _, _, _, by omega, by go_num, rfl, HK.out, HO.out, HW2.out, HB.out, hbs2⟩
      case measure => simp [intOf]; omega
    · have hge : a0 % 6 ≤ (m : Int) := by omega
      have HNa := Lib.hid hNa
      clear hNa
      have HLL := Lib.hid (own_lenI ho)
      have hm5 : m ≤ 5 := by omega
      have HD := decI_enc HA.out (by have := HLL.out; omega)
      rw [HLL.out] at HD
      go_wp2_with fail
      refine (implEncodeInts_any B m d l _ (by omega) (Rd.of_own ho)).mono ?_
      rintro e w7 ⟨A7, n7, c7, rfl, o7, b7⟩
      have B7 := hbel.trans (b7.mono hbel.size)
      replace ho := own_below ho b7
      have HL7 := Lib.hid (own_lenB o7)
      have q7 : n7 ≤ 30 := by have := HL7.out; have := encI_len l; have := HLL.out; omega
      rw [HL7.out] at HD
      have HD1 := Lib.hid HD.1
      have HD2 := Lib.hid HD.2
      clear HD
      go_wp2_with fail
      refine (implDecodeInts_yes A7 n7 c7 _ 0 (m : Int) l (n7 : Int) _ (by omega) (Rd.of_own o7) (by omega) HD1.out).mono ?_
      rintro e w8 ⟨A8, n8, c8, rfl, o8, b8⟩
      have B8 := B7.trans (b8.mono B7.size)
      replace ho := own_below ho b8
      replace o7 := own_below o7 b8
      have q8 : n8 ≤ 5 := by have z1 := own_lenI o8; have := HLL.out; omega
      go_wp2_with fail
      refine (implDecodeInts_no A7 n7 c7 _ 0 ((m : Int) + 1) _ (by omega) (Rd.of_own o7) (by omega) HD2.out).mono ?_
      rintro e w9 ⟨A10, n10, c10, rfl, o10, b9⟩
      have B9 := B8.trans (b9.mono B8.size)
      replace ho := own_below ho b9
      replace o8 := own_below o8 b9
      go_wp2_with fail
      refine (sameInts_any A8 B n8 m c8 d _ _ true _ (by unfold maxLen; omega) (by unfold maxLen; omega) (Rd.of_own o8) (Rd.of_own ho) (by simp)).mono ?_
      rintro e w10 ⟨rfl, b10⟩
      have B10 := B9.trans (b10.mono B9.size)
      go_wp2
      go_ret
      exact ⟨rfl, B10⟩

set_option maxRecDepth 100000 in
theorem lifted (os : Os) (started : os.Started) (H : Type) (enc : TypeId × Value → H) :
    ReturnsInHanded {} Try.checked os 5 .any (Rows.fnByteStringsSpec.pre6 enc Try.prog Try.f5 Rows.fnByteStringsRow.domain false) (Rows.fnByteStringsSpec.post enc Try.prog Try.f5 false true false false) := by
  refine returnsInHanded_of_change (C := Try.checked) own started (by kernel_rfl) Try.func5
    (ChangeSpec.witness6 (enc := enc) (C := Try.checked) false ⟨#[], #[.slice none 0 0], []⟩ 8 (by kernel_rfl) (by kernel_rfl) (by kernel_rfl) (by kernel_rfl)) ?_
  intro W base args ds gs before hval0 hW hcnd _
  have hval : ∀ (j : Nat) t v, Try.f5.params[j]? = some t → args[j]? = some v → Value.okWide Try.prog W .any base t v := hval0
  have hW' := hW
  obtain ⟨p, q, hA0, hV, rfl, hfz, hnd⟩ := hW
  have hA : DataW.TrodAll enc Try.prog W 0 (fun _ => true) true Try.f5.params.toList args.toList ds p := hA0
  rw [Try.params5] at hA hval
  obtain ⟨v0, vs0, d0, ds0, p0, q0, hargs, rfl, rfl, h0, z0⟩ := trodAll_cons hA
  obtain ⟨rfl, rfl, rfl⟩ := trodAll_nil z0
  obtain rfl : args = #[v0] := by cases args; simp_all
  obtain ⟨rfl, rfl⟩ := trodVars_none hV
  obtain ⟨A0, n0, c0, rfl⟩ := okWide_slice Try.underlying22 (hval 0 22 v0 rfl rfl)
  obtain ⟨fu0, hf0⟩ := h0
  obtain ⟨l0, k0, m0⟩ := open_bytes Try.underlying22 Try.underlying5 cellsU8 hf0
  clear hA0 hval0
  exact (walk W A0 n0 c0 l0 k0 m0).mono fun e W' ⟨he, hb⟩ => ⟨_, he, law_post laidOut (by kernel_rfl) (tb := 4) rfl Try.underlying4 rfl hW' rfl hb⟩

theorem proved : Rows.FnByteStringsSaid :=
  OpenClaim.holds_of_wide 5 Try.f5 rfl rfl rfl rfl rfl rfl rfl ⟨rfl, rfl, rfl, rfl, rfl⟩ rfl rfl rfl rfl rfl (by kernel_rfl) Try.func5 (joined_of (by kernel_rfl))
    (of_decide_eq_true (by kernel_rfl)) (by unfold Func.isWrapper; first | (rw [if_pos (by decide +kernel)]; kernel_rfl) | (rw [if_neg (by decide +kernel)]; exact ⟨rfl, rfl⟩))
    (fun os started H enc _ => lifted os started H enc)
#print axioms proved
end Go.Proofs.Ytiliahafaldfcaa.fnByteStrings
