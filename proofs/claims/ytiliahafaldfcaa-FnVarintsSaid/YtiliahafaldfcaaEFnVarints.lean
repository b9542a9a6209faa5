/-
  Proved: the law FnVarints answers true for every input and changes nothing that was there: an integer is decoded from its varint, and a decoded varint is the encoding of its integer. Conditions: none beyond those of the row.
  By an AI agent; no person has read it.
-/
import Derived.Test.YtiliahafaldfcaaLaw
import Derived.Test.YtiliahafaldfcaaPlA
import Derived.Test.YtiliahafaldfcaaDrawB
import Derived.Test.YtiliahafaldfcaaSame
import Derived.Test.YtiliahafaldfcaaHeld
namespace Go.Proofs.Ytiliahafaldfcaa.fnVarints
open Go.ChangeShapes Go.WideShapes Go.ChangeAt Go.RowKit
open Go.ChangeMaps (open_string)
set_option linter.unusedVariables false
theorem vs_step {w W W1 : World} {B n : Nat} {A : Option Addr} {xs : List Value} (h : Below w.heap.size w W ∧ Rd W 1 A n xs) (hb0 : Below B W W1) (e : B = W.heap.size := by rfl) : Below w.heap.size w W1 ∧ Rd W1 1 A n xs := by
  have hb : Below W.heap.size W W1 := e ▸ hb0
  exact ⟨h.1.trans (hb.mono h.1.size), h.2.below hb⟩
theorem vs_cut {w W : World} {b o n f k : Nat} {y : List UInt8} (h : Below w.heap.size w W ∧ Rd W 1 (some ⟨b, o, none⟩) n (y.map bv)) (hk : f + k ≤ n) : Rd W 1 (some ⟨b, o + f, none⟩) k (((y.drop f).take k).map bv) := by
  have := h.2.cut hk
  rw [← List.map_drop, ← List.map_take] at this
  exact this
theorem vs_al {w W : World} {n : Nat} {A : Option Addr} {xs : List Value} {o : Obj} (h : Below w.heap.size w W ∧ Rd W 1 A n xs) : Below w.heap.size w (W.alloc o) ∧ Rd (W.alloc o) 1 A n xs := ⟨h.1.alloc h.1.size o, h.2.alloc o⟩

set_option maxRecDepth 100000 in
set_option maxHeartbeats 4000000 in
theorem walk (w : World) (A0 : Option Addr) (n0 c0 : Nat) (l0 : List UInt8) (h0 : Rd w 1 A0 n0 (l0.map bv)) (m0 : n0 ≤ maxLen) :
    Calls Try.prog 6 #[.slice A0 n0 c0] w fun e w' => e = .returned (.bool true) ∧ Below w.heap.size w w' := by
  unfold maxLen at m0
  by_cases hb0 : (1048576 : Int) < (n0 : Int)
  · go_enter Try.func6, Try.ntmps6
    go_wp2_with fail
    refine (big_any A0 n0 c0 true _ (by omega) (decide_eq_true hb0).symm).mono ?_
    rintro e w1 ⟨rfl, rfl⟩
    go_wp2
    go_ret
    exact ⟨rfl, Below.refl _ _⟩
  have hn0 : n0 ≤ 1048576 := by omega
  go_enter Try.func6, Try.ntmps6
  go_wp2_with fail
  refine (big_any A0 n0 c0 false _ (by omega) (decide_eq_false (by omega)).symm).mono ?_
  rintro e w0 ⟨rfl, rfl⟩
  go_wp2_with fail
  refine (drawAppendUvarint_any A0 n0 c0 l0 _ (by omega) h0).mono ?_
  rintro e w1 ⟨A1, n1, c1, l1, x, rfl, o1, hl, hx, B1⟩
  have q1 : n1 ≤ 8 := by have z1 := own_lenB o1; omega
  unfold i64R at hx
  go_wp2_with fail
  refine (implAppendUvarint_any A1 n1 c1 l1 x _ (by omega) (Rd.of_own o1)).mono ?_
  rintro e w2 ⟨A2, n2, c2, rfl, o2, b2⟩
  have B2 := B1.trans (b2.mono B1.size)
  replace o1 := own_below o1 b2
  have q2 : n2 ≤ 16 := by have z1 := own_lenB o2; have z2 := appU_len l1 x; omega
  have HL1 := Lib.hid (own_lenB o1)
  by_cases hx2 : 0 ≤ x ∧ x ≤ 1000000000000
  · have HA := Lib.hid (readU_app (b := l1) hx2.1 hx2.2)
    rw [HL1.out, own_lenB o2] at HA
    obtain ⟨xn, rfl⟩ : ∃ xn : Nat, x = (xn : Int) := ⟨x.toNat, by omega⟩
    obtain ⟨hx3, hx4⟩ := hx2
    go_wp2_with fail
    refine (implReadUvarint_some A2 n2 c2 _ (n1 : Int) _ _ _ (by omega) (Rd.of_own o2) HA.out).mono ?_
    rintro e w3 ⟨rfl, b3⟩
    have B3 := B2.trans (b3.mono B2.size)
    replace o1 := own_below o1 b3
    replace o2 := own_below o2 b3
    clear b3 o1 o2 hx
    go_wp2_with fail
    refine (drawReadUvarint_any A0 n0 c0 l0 _ (by omega) (h0.below B3)).mono ?_
    rintro e w4 ⟨A4, n4, c4, y, off, rfl, o4, hy, ho, b4⟩
    have B4 := B3.trans (b4.mono B3.size)
    have OY := Lib.hid (own_base o4 B3.size)
    have R4 := own_cap o4
    have HY := Lib.hid (own_lenB o4)
    have q4 : n4 ≤ 16 := by have := HY.out; omega
    clear o4 b4
    rcases hu : readU y off with _ | ⟨m, k⟩
    · have HU := Lib.hid hu
      clear hu
      go_wp2_with fail
      refine (implReadUvarint_none A4 n4 c4 y off _ (by omega) (Rd.of_own OY.out) HU.out).mono ?_
      rintro e w5 ⟨rfl, b5⟩
      have B5 := B4.trans (b5.mono B4.size)
      have OZ := Lib.hid (own_below OY.out b5)
      clear b5
      go_wp2_with fail
      refine (specReadUvarint_none A4 n4 c4 y off _ (by omega) (Rd.of_own OZ.out) (by omega) HU.out).mono ?_
      rintro e w6 ⟨rfl, b6⟩
      have B6 := B5.trans (b6.mono B5.size)
      clear b6
      go_wp2
      go_ret
      exact ⟨rfl, B6⟩
    · have HU := Lib.hid hu
      have hle := readU_le hu
      have hk1 : k ≤ n4 := by have := HY.out; omega
      have hm1 : m ≤ 1000000000000 := hle.2.2.2
      have ho1 : 0 ≤ off := hle.1
      have ho2 : off < (k : Int) := hle.2.1
      clear hu hle ho
      obtain ⟨f, rfl⟩ : ∃ f : Nat, off = (f : Int) := ⟨off.toNat, by omega⟩
      obtain ⟨bb, oo, rfl, hbb, _⟩ := (Rd.of_own OY.out).2 (by omega)
      go_wp2_with fail
      refine (implReadUvarint_some _ n4 c4 y f m k _ (by omega) (Rd.of_own OY.out) HU.out).mono ?_
      rintro e w5 ⟨rfl, b5⟩
      have B5 := B4.trans (b5.mono B4.size)
      have OZ := Lib.hid (own_below OY.out b5)
      clear b5
      have hfc : f < c4 := by have := R4.1; omega
      have hkc : k ≤ c4 := by have := R4.1; omega
      have hfn : f < n4 := by omega
      have hfk : f < k := by omega
      have hne : ¬ c4 = f := by omega
      have hcm : c4 ≤ 9223372036854775807 := R4.2
      have HC : Hid ((y.drop f).take (k - f) = uvar m) := readU_canon HU.out
      have HE : Hid (true = decide (appU [] (m : Int) = (y.drop f).take (k - f))) := by
        rw [HC.out, appU_in [] (by omega) (by omega), Int.toNat_natCast]
        exact (decide_eq_true rfl).symm
      have hi1 : (0 : Int) ≤ (f : Int) := by omega
      have hi2 : (f : Int) ≤ (k : Int) := by omega
      have hi3 : (k : Int) ≤ (c4 : Int) := by omega
      have hi4 : (k : Int) ≤ (n4 : Int) := by omega
      have hkm : k - f ≤ maxLen := by unfold maxLen; omega
      have hkn : f + (k - f) ≤ n4 := by omega
      go_wp2
      go_region_held3 (fun W => Below w.heap.size w W ∧ Rd W 1 (some ⟨bb, oo, none⟩) n4 (y.map bv))
        (first | assumption | exact ⟨B5.drew, Rd.drew (Rd.of_own OZ.out)⟩ | exact vs_al (by assumption) | exact vs_step (by assumption) hb)
        (first
          | (go_at_call 27; refine (implAppendUvarint_any _ 0 0 [] m _ (by omega) ?_).mono ?_; exact ⟨rfl, fun h => absurd h (by omega)⟩; rintro e W1 ⟨Ax, nx, cx, rfl, ox, hb⟩)
          | (go_at_call 9; refine (sameBytes_any _ (some ⟨bb, oo + f, none⟩) _ (k - f) _ _ (appU [] (m : Int)) ((y.drop f).take (k - f)) true _ (Nat.le_trans (own_cap ox).1 (own_cap ox).2) hkm (Rd.of_own ox) ?_ HE.out).mono ?_; exact vs_cut ‹_› hkn; rintro e W2 ⟨rfl, hb⟩))
      obtain ⟨BZ, _⟩ := ‹Below w.heap.size w _ ∧ _›
      go_wp2
      go_ret
      exact ⟨rfl, BZ⟩
  · have HA := Lib.hid (appU_out l1 hx2)
    rw [HA.out] at o2
    have HN := Lib.hid (readU_at_end l1)
    rw [HL1.out] at HN
    obtain rfl : n2 = n1 := by
      have z1 := own_lenB o2
      have z2 := HL1.out
      omega
    go_wp2_with fail
    refine (implReadUvarint_none A2 n2 c2 _ (n2 : Int) _ (by omega) (Rd.of_own o2) HN.out).mono ?_
    rintro e w3 ⟨rfl, b3⟩
    have B3 := B2.trans (b3.mono B2.size)
    replace o1 := own_below o1 b3
    replace o2 := own_below o2 b3
    have hx5 : x < 0 ∨ 1000000000000 < x := by omega
    clear hx2
    rcases hx5 with hx5 | hx5
    · skip
      go_wp2_with fail
      refine (sameBytes_any A2 A1 n2 n2 c2 c1 _ _ true _ (by unfold maxLen; omega) (by unfold maxLen; omega) (Rd.of_own o2) (Rd.of_own o1) (by simp)).mono ?_
      rintro e w4 ⟨rfl, b4⟩
      have B4 := B3.trans (b4.mono B3.size)
      replace o1 := own_below o1 b4
      replace o2 := own_below o2 b4
      clear b4 o1 o2
      go_wp2_with fail
      refine (drawReadUvarint_any A0 n0 c0 l0 _ (by omega) (h0.below B4)).mono ?_
      rintro e w5 ⟨A5, n5, c5, y, off, rfl, o5, hy, ho, b5⟩
      have B5 := B4.trans (b5.mono B4.size)
      have OY := Lib.hid (own_base o5 B4.size)
      have R5 := own_cap o5
      have HY := Lib.hid (own_lenB o5)
      have q5 : n5 ≤ 16 := by have := HY.out; omega
      clear o5 b5
      rcases hu : readU y off with _ | ⟨m, k⟩
      · have HU := Lib.hid hu
        clear hu
        go_wp2_with fail
        refine (implReadUvarint_none A5 n5 c5 y off _ (by omega) (Rd.of_own OY.out) HU.out).mono ?_
        rintro e w6 ⟨rfl, b6⟩
        have B6 := B5.trans (b6.mono B5.size)
        have OZ := Lib.hid (own_below OY.out b6)
        clear b6
        go_wp2_with fail
        refine (specReadUvarint_none A5 n5 c5 y off _ (by omega) (Rd.of_own OZ.out) (by omega) HU.out).mono ?_
        rintro e w7 ⟨rfl, b7⟩
        have B7 := B6.trans (b7.mono B6.size)
        clear b7
        go_wp2
        go_ret
        exact ⟨rfl, B7⟩
      · have HU := Lib.hid hu
        have hle := readU_le hu
        have hk1 : k ≤ n5 := by have := HY.out; omega
        have hm1 : m ≤ 1000000000000 := hle.2.2.2
        have ho1 : 0 ≤ off := hle.1
        have ho2 : off < (k : Int) := hle.2.1
        clear hu hle ho
        obtain ⟨f, rfl⟩ : ∃ f : Nat, off = (f : Int) := ⟨off.toNat, by omega⟩
        obtain ⟨bb, oo, rfl, hbb, _⟩ := (Rd.of_own OY.out).2 (by omega)
        go_wp2_with fail
        refine (implReadUvarint_some _ n5 c5 y f m k _ (by omega) (Rd.of_own OY.out) HU.out).mono ?_
        rintro e w6 ⟨rfl, b6⟩
        have B6 := B5.trans (b6.mono B5.size)
        have OZ := Lib.hid (own_below OY.out b6)
        clear b6
        have hfc : f < c5 := by have := R5.1; omega
        have hkc : k ≤ c5 := by have := R5.1; omega
        have hfn : f < n5 := by omega
        have hfk : f < k := by omega
        have hne : ¬ c5 = f := by omega
        have hcm : c5 ≤ 9223372036854775807 := R5.2
        have HC : Hid ((y.drop f).take (k - f) = uvar m) := readU_canon HU.out
        have HE : Hid (true = decide (appU [] (m : Int) = (y.drop f).take (k - f))) := by
          rw [HC.out, appU_in [] (by omega) (by omega), Int.toNat_natCast]
          exact (decide_eq_true rfl).symm
        have hi1 : (0 : Int) ≤ (f : Int) := by omega
        have hi2 : (f : Int) ≤ (k : Int) := by omega
        have hi3 : (k : Int) ≤ (c5 : Int) := by omega
        have hi4 : (k : Int) ≤ (n5 : Int) := by omega
        have hkm : k - f ≤ maxLen := by unfold maxLen; omega
        have hkn : f + (k - f) ≤ n5 := by omega
        go_wp2
        go_region_held3 (fun W => Below w.heap.size w W ∧ Rd W 1 (some ⟨bb, oo, none⟩) n5 (y.map bv))
          (first | assumption | exact ⟨B6.drew, Rd.drew (Rd.of_own OZ.out)⟩ | exact vs_al (by assumption) | exact vs_step (by assumption) hb)
          (first
            | (go_at_call 27; refine (implAppendUvarint_any _ 0 0 [] m _ (by omega) ?_).mono ?_; exact ⟨rfl, fun h => absurd h (by omega)⟩; rintro e W1 ⟨Ax, nx, cx, rfl, ox, hb⟩)
            | (go_at_call 9; refine (sameBytes_any _ (some ⟨bb, oo + f, none⟩) _ (k - f) _ _ (appU [] (m : Int)) ((y.drop f).take (k - f)) true _ (Nat.le_trans (own_cap ox).1 (own_cap ox).2) hkm (Rd.of_own ox) ?_ HE.out).mono ?_; exact vs_cut ‹_› hkn; rintro e W2 ⟨rfl, hb⟩))
        obtain ⟨BZ, _⟩ := ‹Below w.heap.size w _ ∧ _›
        go_wp2
        go_ret
        exact ⟨rfl, BZ⟩
    · skip
      have hx6 : ¬ x < 0 := by omega
      go_wp2_with fail
      refine (sameBytes_any A2 A1 n2 n2 c2 c1 _ _ true _ (by unfold maxLen; omega) (by unfold maxLen; omega) (Rd.of_own o2) (Rd.of_own o1) (by simp)).mono ?_
      rintro e w4 ⟨rfl, b4⟩
      have B4 := B3.trans (b4.mono B3.size)
      replace o1 := own_below o1 b4
      replace o2 := own_below o2 b4
      clear b4 o1 o2
      go_wp2_with fail
      refine (drawReadUvarint_any A0 n0 c0 l0 _ (by omega) (h0.below B4)).mono ?_
      rintro e w5 ⟨A5, n5, c5, y, off, rfl, o5, hy, ho, b5⟩
      have B5 := B4.trans (b5.mono B4.size)
      have OY := Lib.hid (own_base o5 B4.size)
      have R5 := own_cap o5
      have HY := Lib.hid (own_lenB o5)
      have q5 : n5 ≤ 16 := by have := HY.out; omega
      clear o5 b5
      rcases hu : readU y off with _ | ⟨m, k⟩
      · have HU := Lib.hid hu
        clear hu
        go_wp2_with fail
        refine (implReadUvarint_none A5 n5 c5 y off _ (by omega) (Rd.of_own OY.out) HU.out).mono ?_
        rintro e w6 ⟨rfl, b6⟩
        have B6 := B5.trans (b6.mono B5.size)
        have OZ := Lib.hid (own_below OY.out b6)
        clear b6
        go_wp2_with fail
        refine (specReadUvarint_none A5 n5 c5 y off _ (by omega) (Rd.of_own OZ.out) (by omega) HU.out).mono ?_
        rintro e w7 ⟨rfl, b7⟩
        have B7 := B6.trans (b7.mono B6.size)
        clear b7
        go_wp2
        go_ret
        exact ⟨rfl, B7⟩
      · have HU := Lib.hid hu
        have hle := readU_le hu
        have hk1 : k ≤ n5 := by have := HY.out; omega
        have hm1 : m ≤ 1000000000000 := hle.2.2.2
        have ho1 : 0 ≤ off := hle.1
        have ho2 : off < (k : Int) := hle.2.1
        clear hu hle ho
        obtain ⟨f, rfl⟩ : ∃ f : Nat, off = (f : Int) := ⟨off.toNat, by omega⟩
        obtain ⟨bb, oo, rfl, hbb, _⟩ := (Rd.of_own OY.out).2 (by omega)
        go_wp2_with fail
        refine (implReadUvarint_some _ n5 c5 y f m k _ (by omega) (Rd.of_own OY.out) HU.out).mono ?_
        rintro e w6 ⟨rfl, b6⟩
        have B6 := B5.trans (b6.mono B5.size)
        have OZ := Lib.hid (own_below OY.out b6)
        clear b6
        have hfc : f < c5 := by have := R5.1; omega
        have hkc : k ≤ c5 := by have := R5.1; omega
        have hfn : f < n5 := by omega
        have hfk : f < k := by omega
        have hne : ¬ c5 = f := by omega
        have hcm : c5 ≤ 9223372036854775807 := R5.2
        have HC : Hid ((y.drop f).take (k - f) = uvar m) := readU_canon HU.out
        have HE : Hid (true = decide (appU [] (m : Int) = (y.drop f).take (k - f))) := by
          rw [HC.out, appU_in [] (by omega) (by omega), Int.toNat_natCast]
          exact (decide_eq_true rfl).symm
        have hi1 : (0 : Int) ≤ (f : Int) := by omega
        have hi2 : (f : Int) ≤ (k : Int) := by omega
        have hi3 : (k : Int) ≤ (c5 : Int) := by omega
        have hi4 : (k : Int) ≤ (n5 : Int) := by omega
        have hkm : k - f ≤ maxLen := by unfold maxLen; omega
        have hkn : f + (k - f) ≤ n5 := by omega
        go_wp2
        go_region_held3 (fun W => Below w.heap.size w W ∧ Rd W 1 (some ⟨bb, oo, none⟩) n5 (y.map bv))
          (first | assumption | exact ⟨B6.drew, Rd.drew (Rd.of_own OZ.out)⟩ | exact vs_al (by assumption) | exact vs_step (by assumption) hb)
          (first
            | (go_at_call 27; refine (implAppendUvarint_any _ 0 0 [] m _ (by omega) ?_).mono ?_; exact ⟨rfl, fun h => absurd h (by omega)⟩; rintro e W1 ⟨Ax, nx, cx, rfl, ox, hb⟩)
            | (go_at_call 9; refine (sameBytes_any _ (some ⟨bb, oo + f, none⟩) _ (k - f) _ _ (appU [] (m : Int)) ((y.drop f).take (k - f)) true _ (Nat.le_trans (own_cap ox).1 (own_cap ox).2) hkm (Rd.of_own ox) ?_ HE.out).mono ?_; exact vs_cut ‹_› hkn; rintro e W2 ⟨rfl, hb⟩))
        obtain ⟨BZ, _⟩ := ‹Below w.heap.size w _ ∧ _›
        go_wp2
        go_ret
        exact ⟨rfl, BZ⟩

set_option maxRecDepth 100000 in
theorem lifted (os : Os) (started : os.Started) (H : Type) (enc : TypeId × Value → H) :
    ReturnsInHanded {} Try.checked os 6 .any (Rows.fnVarintsSpec.pre6 enc Try.prog Try.f6 Rows.fnVarintsRow.domain false) (Rows.fnVarintsSpec.post enc Try.prog Try.f6 false true false false) := by
  refine returnsInHanded_of_change (C := Try.checked) own started (by kernel_rfl) Try.func6
    (ChangeSpec.witness6 (enc := enc) (C := Try.checked) false ⟨#[], #[.slice none 0 0], []⟩ 8 (by kernel_rfl) (by kernel_rfl) (by kernel_rfl) (by kernel_rfl)) ?_
  intro W base args ds gs before hval0 hW hcnd _
  have hval : ∀ (j : Nat) t v, Try.f6.params[j]? = some t → args[j]? = some v → Value.okWide Try.prog W .any base t v := hval0
  have hW' := hW
  obtain ⟨p, q, hA0, hV, rfl, hfz, hnd⟩ := hW
  have hA : DataW.TrodAll enc Try.prog W 0 (fun _ => true) true Try.f6.params.toList args.toList ds p := hA0
  rw [Try.params6] at hA hval
  obtain ⟨v0, vs0, d0, ds0, p0, q0, hargs, rfl, rfl, h0, z0⟩ := trodAll_cons hA
  obtain ⟨rfl, rfl, rfl⟩ := trodAll_nil z0
  obtain rfl : args = #[v0] := by cases args; simp_all
  obtain ⟨rfl, rfl⟩ := trodVars_none hV
  obtain ⟨A0, n0, c0, rfl⟩ := okWide_slice Try.underlying22 (hval 0 22 v0 rfl rfl)
  obtain ⟨fu0, hf0⟩ := h0
  obtain ⟨l0, k0, m0⟩ := open_bytes Try.underlying22 Try.underlying5 cellsU8 hf0
  clear hA0 hval0
  exact (walk W A0 n0 c0 l0 k0 m0).mono fun e W' ⟨he, hb⟩ => ⟨_, he, law_post laidOut (by kernel_rfl) (tb := 4) rfl Try.underlying4 rfl hW' rfl hb⟩

theorem proved : Rows.FnVarintsSaid :=
  OpenClaim.holds_of_wide 6 Try.f6 rfl rfl rfl rfl rfl rfl rfl ⟨rfl, rfl, rfl, rfl, rfl⟩ rfl rfl rfl rfl rfl (by kernel_rfl) Try.func6 (joined_of (by kernel_rfl))
    (of_decide_eq_true (by kernel_rfl)) (by unfold Func.isWrapper; first | (rw [if_pos (by decide +kernel)]; kernel_rfl) | (rw [if_neg (by decide +kernel)]; exact ⟨rfl, rfl⟩))
    (fun os started H enc _ => lifted os started H enc)
#print axioms proved
end Go.Proofs.Ytiliahafaldfcaa.fnVarints
