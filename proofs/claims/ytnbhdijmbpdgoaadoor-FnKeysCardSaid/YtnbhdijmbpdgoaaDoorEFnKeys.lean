/-
  Proved: the law FnKeys answers true for every input and changes nothing that was there; and the card, which ties the listed variables to the program's text. Conditions: none beyond those of the row.
  By an AI agent; no person has read it.
-/
import Derived.Test.YtnbhdijmbpdgoaaDoorLaw
import Derived.Test.YtnbhdijmbpdgoaaDoorLaid5
import Derived.Test.YtnbhdijmbpdgoaaDoorPKeyR
import Derived.Test.YtnbhdijmbpdgoaaDoorKeyO
import Derived.Test.YtnbhdijmbpdgoaaDoorKeyD
import Derived.Test.YtnbhdijmbpdgoaaDoorKeyQ
import Derived.Test.YtnbhdijmbpdgoaaDoorDrawT
import Derived.Test.YtnbhdijmbpdgoaaDoorPKeyS
import Derived.Test.YtnbhdijmbpdgoaaDoorPKeyI
import Derived.Test.YtnbhdijmbpdgoaaDoorDrawB
import Derived.Test.YtnbhdijmbpdgoaaDoorShape
import Derived.Test.YtnbhdijmbpdgoaaDoorKeyL
import Derived.Test.YtnbhdijmbpdgoaaDoorStep
import Derived.Test.YtnbhdijmbpdgoaaDoorCards
import Derived.Test.YtnbhdijmbpdgoaaDoorTie
import Derived.SevenTiedAt
namespace Go.Proofs.YtnbhdijmbpdgoaaDoor.fnKeys
open Go.ChangeShapes Go.WideShapes Go.ChangeAt Go.RowKit
open Go.ChangeMaps (open_string)
set_option linter.unusedVariables false

open Go.Lib
theorem cmpK_in {k n : Int} {s : ByteArray} {k2 n2 : Int} {s2 : ByteArray} (h : keyB k n s = true) (h2 : keyB k2 n2 s2 = true) : -1 ≤ cmpK k n s k2 n2 s2 ∧ cmpK k n s k2 n2 s2 ≤ 1 := by
  rw [cmp_enc h h2, cmp_sign]
  unfold signOf
  split
  · omega
  · split <;> omega
set_option maxRecDepth 100000 in
set_option maxHeartbeats 20000000 in
theorem walk (w : World) (A0 : Option Addr) (n0 c0 : Nat) (l0 : List UInt8) (h0 : Rd w 1 A0 n0 (l0.map bv)) (m0 : n0 ≤ maxLen) (he : Env w) (hm : MaxIs w) :
    Calls Tryd.prog 4 #[.slice A0 n0 c0] w fun e w' => e = .returned (.bool true) ∧ Below w.heap.size w w' := by
  unfold maxLen at m0
  by_cases hb0 : (1048576 : Int) < (n0 : Int)
  · go_enter Tryd.func4, Tryd.ntmps4
    go_wp2_with fail
    refine (big_any A0 n0 c0 true _ (by omega) (decide_eq_true hb0).symm).mono ?_
    rintro e w1 ⟨rfl, rfl⟩
    go_wp2
    go_ret
    exact ⟨rfl, Below.refl _ _⟩
  have hn0 : n0 ≤ 1048576 := by omega
  go_enter Tryd.func4, Tryd.ntmps4
  go_wp2_with fail
  refine (big_any A0 n0 c0 false _ (by omega) (decide_eq_false (by omega)).symm).mono ?_
  rintro e w0 ⟨rfl, rfl⟩
  go_wp2_with fail
  refine (drawThreeKeys_any A0 n0 c0 l0 _ (by omega) h0).mono ?_
  rintro e w1 ⟨ka, na, sa, kb, nb, sb, kc, nc, sc, rfl, ⟨hka_, hkb_, hkc_⟩, b1⟩
  have B1 : Below w.heap.size w w1 := b1
  clear b1
  have za := keyB_len hka_
  have zb := keyB_len hkb_
  have zc := keyB_len hkc_
  have ub := (keyB_parts hkb_).2.1
  have HA := Lib.hid hka_
  have HB := Lib.hid hkb_
  have HC := Lib.hid hkc_
  obtain ⟨z, hz⟩ : ∃ z, z = cmpK ka na sa kb nb sb := ⟨_, rfl⟩
  have hzr : -1 ≤ z ∧ z ≤ 1 := by rw [hz]; exact cmpK_in hka_ hkb_
  have HEQ : Hid (eqKyQ ka na sa kb nb sb = (z == 0)) := by
    show _ = _
    rw [hz, Bool.eq_iff_iff, eqKyQ_iff, beq_iff_eq, cmpK_zero hka_ hkb_]
  have HZ := Lib.hid hz
  obtain ⟨y, hy⟩ : ∃ y, y = cmpK kb nb sb kc nc sc := ⟨_, rfl⟩
  have HY := Lib.hid hy
  obtain ⟨x, hx⟩ : ∃ x, x = cmpK ka na sa kc nc sc := ⟨_, rfl⟩
  have HX := Lib.hid hx
  have HT : Hid (z ≤ 0 → y ≤ 0 → x ≤ 0) := by
    show z ≤ 0 → y ≤ 0 → x ≤ 0
    rw [hz, hy, hx]
    exact cmpK_trans hka_ hkb_ hkc_
  have hneg : IntKind.i64.wrap (-z) = -z := by rw [IntKind.wrap_i64]; omega
  clear hz hy hx hka_ hkb_ hkc_
  have b2 : Below w1.heap.size w1 (((w1.alloc (.cells #[.int .i64 ka, .int .i64 na, .string sa] 23)).alloc (.cells #[.int .i64 kb, .int .i64 nb, .string sb] 23)).alloc (.cells #[.int .i64 kc, .int .i64 nc, .string sc] 23)) := al (al (al (Below.refl _ _)))
  have B2 : Below w.heap.size w (((w1.alloc (.cells #[.int .i64 ka, .int .i64 na, .string sa] 23)).alloc (.cells #[.int .i64 kb, .int .i64 nb, .string sb] 23)).alloc (.cells #[.int .i64 kc, .int .i64 nc, .string sc] 23)) := B1.trans (b2.mono B1.size)
  clear b2
  have a0_ : (((w1.alloc (.cells #[.int .i64 ka, .int .i64 na, .string sa] 23)).alloc (.cells #[.int .i64 kb, .int .i64 nb, .string sb] 23)).alloc (.cells #[.int .i64 kc, .int .i64 nc, .string sc] 23)).cell? ⟨w1.heap.size, 0, none⟩ = some (.int .i64 ka) := by simp [go_sem]
  have a1_ : (((w1.alloc (.cells #[.int .i64 ka, .int .i64 na, .string sa] 23)).alloc (.cells #[.int .i64 kb, .int .i64 nb, .string sb] 23)).alloc (.cells #[.int .i64 kc, .int .i64 nc, .string sc] 23)).cell? ⟨w1.heap.size, 1, none⟩ = some (.int .i64 na) := by simp [go_sem]
  have a2_ : (((w1.alloc (.cells #[.int .i64 ka, .int .i64 na, .string sa] 23)).alloc (.cells #[.int .i64 kb, .int .i64 nb, .string sb] 23)).alloc (.cells #[.int .i64 kc, .int .i64 nc, .string sc] 23)).cell? ⟨w1.heap.size, 2, none⟩ = some (.string sa) := by simp [go_sem]
  have b0_ : (((w1.alloc (.cells #[.int .i64 ka, .int .i64 na, .string sa] 23)).alloc (.cells #[.int .i64 kb, .int .i64 nb, .string sb] 23)).alloc (.cells #[.int .i64 kc, .int .i64 nc, .string sc] 23)).cell? ⟨w1.heap.size + 1, 0, none⟩ = some (.int .i64 kb) := by simp [go_sem]
  have b1_ : (((w1.alloc (.cells #[.int .i64 ka, .int .i64 na, .string sa] 23)).alloc (.cells #[.int .i64 kb, .int .i64 nb, .string sb] 23)).alloc (.cells #[.int .i64 kc, .int .i64 nc, .string sc] 23)).cell? ⟨w1.heap.size + 1, 1, none⟩ = some (.int .i64 nb) := by simp [go_sem]
  have b2_ : (((w1.alloc (.cells #[.int .i64 ka, .int .i64 na, .string sa] 23)).alloc (.cells #[.int .i64 kb, .int .i64 nb, .string sb] 23)).alloc (.cells #[.int .i64 kc, .int .i64 nc, .string sc] 23)).cell? ⟨w1.heap.size + 1, 2, none⟩ = some (.string sb) := by simp [go_sem]
  have c0_ : (((w1.alloc (.cells #[.int .i64 ka, .int .i64 na, .string sa] 23)).alloc (.cells #[.int .i64 kb, .int .i64 nb, .string sb] 23)).alloc (.cells #[.int .i64 kc, .int .i64 nc, .string sc] 23)).cell? ⟨w1.heap.size + 1 + 1, 0, none⟩ = some (.int .i64 kc) := by simp [go_sem]
  have c1_ : (((w1.alloc (.cells #[.int .i64 ka, .int .i64 na, .string sa] 23)).alloc (.cells #[.int .i64 kb, .int .i64 nb, .string sb] 23)).alloc (.cells #[.int .i64 kc, .int .i64 nc, .string sc] 23)).cell? ⟨w1.heap.size + 1 + 1, 1, none⟩ = some (.int .i64 nc) := by simp [go_sem]
  have c2_ : (((w1.alloc (.cells #[.int .i64 ka, .int .i64 na, .string sa] 23)).alloc (.cells #[.int .i64 kb, .int .i64 nb, .string sb] 23)).alloc (.cells #[.int .i64 kc, .int .i64 nc, .string sc] 23)).cell? ⟨w1.heap.size + 1 + 1, 2, none⟩ = some (.string sc) := by simp [go_sem]
  go_wp2_with fail
  refine (implCompareKeys_any ka na kb nb sa sb _ (by unfold maxLen; omega) (by unfold maxLen; omega)).mono ?_
  rw [← HZ.out]
  rintro e w3 ⟨rfl, b3⟩
  have B3 : Below w.heap.size w w3 := B2.trans (b3.mono B2.size)
  replace a0_ := kcell b3 a0_
  replace a1_ := kcell b3 a1_
  replace a2_ := kcell b3 a2_
  replace b0_ := kcell b3 b0_
  replace b1_ := kcell b3 b1_
  replace b2_ := kcell b3 b2_
  replace c0_ := kcell b3 c0_
  replace c1_ := kcell b3 c1_
  replace c2_ := kcell b3 c2_
  clear b3
  have hcmp := run_eqKyQ ka na sa kb nb sb
  have hgd := run_guardKQ
  have heq := HEQ.out
  go_wp2
  refine wp_region_held_drew (S := fun W => Below w3.heap.size w3 W ∧ W.cell? ⟨w1.heap.size, 0, none⟩ = some (.int .i64 ka) ∧ W.cell? ⟨w1.heap.size, 1, none⟩ = some (.int .i64 na) ∧ W.cell? ⟨w1.heap.size, 2, none⟩ = some (.string sa) ∧ W.cell? ⟨w1.heap.size + 1, 0, none⟩ = some (.int .i64 kb) ∧ W.cell? ⟨w1.heap.size + 1, 1, none⟩ = some (.int .i64 nb) ∧ W.cell? ⟨w1.heap.size + 1, 2, none⟩ = some (.string sb)) (by kernel_rfl) ?_ (fun hHeld => ?_)
  · exact ⟨(Below.refl _ _).drew, a0_, a1_, a2_, b0_, b1_, b2_⟩
  refine takeDK (i := 0) (d := some 27) (v := ?_) _ rfl rfl (by kernel_rfl) (by kernel_rfl) (by kernel_rfl) (fun _ _ _ h => h) (Or.inl ⟨by rfl, ?_⟩) (by assumption) ?_
  rotate_left
  · (intro W hSw; (try dsimp only at hSw); go_simp; try with_reducible rfl)
  try simp only [Act.put, List.setIfInBounds_toArray, List.set_cons_zero, List.set_cons_succ]
  refine takeDK (i := 1) (d := some 28) (v := ?_) _ rfl rfl (by kernel_rfl) (by kernel_rfl) (by kernel_rfl) (fun _ _ _ h => h) (Or.inl ⟨by rfl, ?_⟩) (by assumption) ?_
  rotate_left
  · (intro W hSw; (try dsimp only at hSw); go_simp; try with_reducible rfl)
  try simp only [Act.put, List.setIfInBounds_toArray, List.set_cons_zero, List.set_cons_succ]
  refine takeDK (i := 3) (d := some 30) (v := ?_) _ rfl rfl (by kernel_rfl) (by kernel_rfl) (by kernel_rfl) (fun _ _ _ h => h) (Or.inl ⟨by rfl, ?_⟩) (by assumption) ?_
  rotate_left
  · (intro W hSw; (try dsimp only at hSw); go_simp; try with_reducible rfl)
  try simp only [Act.put, List.setIfInBounds_toArray, List.set_cons_zero, List.set_cons_succ]
  refine wpAnyH_ready (rs := [2]) (by kernel_rfl) (by simp) ?_
  refine AllReadyH.cons rfl (fun K hK => ?_) AllReadyH.nil
  go_simp
  refine (implEncodeKey_any ka na sa _ (by unfold maxLen; omega)).mono ?_; rintro e U2 ⟨Ea, ea, ca_, rfl, oea, hb⟩
  try go_wp2_with fail
  refine hK.out _ _ ?_ (fun hHeld2 => ?_)
  · try dsimp only
    first | assumption | (refine sz6 ?_ hb rfl; assumption)
  clear hK K
  try simp only [Act.put, List.setIfInBounds_toArray, List.set_cons_zero, List.set_cons_succ]
  refine wpAnyH_ready (rs := [4]) (by kernel_rfl) (by simp) ?_
  refine AllReadyH.cons rfl (fun K hK => ?_) AllReadyH.nil
  go_simp
  refine (implEncodeKey_any kb nb sb _ (by unfold maxLen; omega)).mono ?_; rintro e U4 ⟨Eb, eb, cb_, rfl, oeb, hb⟩
  try go_wp2_with fail
  replace oea := own_below oea hb
  refine hK.out _ _ ?_ (fun hHeld4 => ?_)
  · try dsimp only
    first | assumption | (refine sz6 ?_ hb rfl; assumption)
  clear hK K
  try simp only [Act.put, List.setIfInBounds_toArray, List.set_cons_zero, List.set_cons_succ]
  refine wpAnyH_ready (rs := [5]) (by kernel_rfl) (by simp) ?_
  refine AllReadyH.cons rfl (fun K hK => ?_) AllReadyH.nil
  go_simp
  refine (implCompareBytes_any Ea Eb ea eb ca_ cb_ _ _ _ (Rd.of_own oea) (Rd.of_own oeb)).mono ?_
  rw [← cmp_enc HA.out HB.out, ← HZ.out]
  rintro e U5 ⟨rfl, rfl⟩
  try go_wp2_with fail
  refine hK.out _ _ ?_ (fun hHeld5 => ?_)
  · try dsimp only
    first | assumption | (refine sz6 ?_ hb rfl; assumption)
  clear hK K
  try simp only [Act.put, List.setIfInBounds_toArray, List.set_cons_zero, List.set_cons_succ]
  refine takeDK (i := 6) (d := some 33) (v := ?_) _ rfl rfl (by kernel_rfl) (by kernel_rfl) (by kernel_rfl) (fun _ _ _ h => h) (Or.inl ⟨by rfl, ?_⟩) (by assumption) ?_
  rotate_left
  · (intro W hSw; (try dsimp only at hSw); go_simp; try with_reducible rfl)
  try simp only [Act.put, List.setIfInBounds_toArray, List.set_cons_zero, List.set_cons_succ]
  refine takeDK (i := 7) (d := some 34) (v := ?_) _ rfl rfl (by kernel_rfl) (by kernel_rfl) (by kernel_rfl) (fun _ _ _ h => h) (Or.inl ⟨by rfl, ?_⟩) (by assumption) ?_
  rotate_left
  · (intro W hSw; (try dsimp only at hSw); go_simp; try with_reducible rfl)
  try simp only [Act.put, List.setIfInBounds_toArray, List.set_cons_zero, List.set_cons_succ]
  refine takeDK (i := 8) (d := some 35) (v := ?_) _ rfl rfl (by kernel_rfl) (by kernel_rfl) (by kernel_rfl) (fun _ _ _ h => h) (Or.inl ⟨by rfl, ?_⟩) (by assumption) ?_
  rotate_left
  · (intro W hSw; (try dsimp only at hSw); go_simp; try with_reducible rfl)
  try simp only [Act.put, List.setIfInBounds_toArray, List.set_cons_zero, List.set_cons_succ]
  refine takeDK (i := 9) (d := some 36) (v := ?_) _ rfl rfl (by kernel_rfl) (by kernel_rfl) (by kernel_rfl) (fun _ _ _ h => h) (Or.inl ⟨by rfl, ?_⟩) (by assumption) ?_
  rotate_left
  · (intro W hSw; (try dsimp only at hSw); go_simp; try with_reducible rfl)
  try simp only [Act.put, List.setIfInBounds_toArray, List.set_cons_zero, List.set_cons_succ]
  refine takeDK (i := 11) (d := some 38) (v := ?_) _ rfl rfl (by kernel_rfl) (by kernel_rfl) (by kernel_rfl) (fun _ _ _ h => h) (Or.inl ⟨by rfl, ?_⟩) (by assumption) ?_
  rotate_left
  · (intro W hSw; (try dsimp only at hSw); go_simp; try with_reducible rfl)
  try simp only [Act.put, List.setIfInBounds_toArray, List.set_cons_zero, List.set_cons_succ]
  refine takeDK (i := 12) (d := some 39) (v := ?_) _ rfl rfl (by kernel_rfl) (by kernel_rfl) (by kernel_rfl) (fun _ _ _ h => h) (Or.inl ⟨by rfl, ?_⟩) (by assumption) ?_
  rotate_left
  · (intro W hSw; (try dsimp only at hSw); go_simp; try with_reducible rfl)
  try simp only [Act.put, List.setIfInBounds_toArray, List.set_cons_zero, List.set_cons_succ]
  refine wpAnyH_ready (rs := [10]) (by kernel_rfl) (by simp) ?_
  refine AllReadyH.cons rfl (fun K hK => ?_) AllReadyH.nil
  go_simp
  refine (implCompareKeys_any kb nb ka na sb sa _ (by unfold maxLen; omega) (by unfold maxLen; omega)).mono ?_
  rw [cmpK_anti HA.out HB.out, ← HZ.out]
  rintro e U10 ⟨rfl, hb⟩
  try go_wp2_with fail
  refine hK.out _ _ ?_ (fun hHeld10 => ?_)
  · try dsimp only
    first | assumption | (refine sz6 ?_ hb rfl; assumption)
  clear hK K
  try simp only [Act.put, List.setIfInBounds_toArray, List.set_cons_zero, List.set_cons_succ]
  refine takeDK (i := 13) (d := some 40) (v := ?_) _ rfl rfl (by kernel_rfl) (by kernel_rfl) (by kernel_rfl) (fun _ _ _ h => h) (Or.inl ⟨by rfl, ?_⟩) (by assumption) ?_
  rotate_left
  · (intro W hSw; (try dsimp only at hSw); go_simp; try with_reducible rfl)
  try simp only [Act.put, List.setIfInBounds_toArray, List.set_cons_zero, List.set_cons_succ]
  refine takeDK (i := 14) (d := some 41) (v := ?_) _ rfl rfl (by kernel_rfl) (by kernel_rfl) (by kernel_rfl) (fun _ _ _ h => h) (Or.inl ⟨by rfl, ?_⟩) (by assumption) ?_
  rotate_left
  · (intro W hSw; (try dsimp only at hSw); go_simp; try with_reducible rfl)
  try simp only [Act.put, List.setIfInBounds_toArray, List.set_cons_zero, List.set_cons_succ]
  refine takeDK (i := 15) (d := some 42) (v := ?_) _ rfl rfl (by kernel_rfl) (by kernel_rfl) (by kernel_rfl) (fun _ _ _ h => h) (Or.inl ⟨by rfl, ?_⟩) (by assumption) ?_
  rotate_left
  · (intro W hSw; (try dsimp only at hSw); go_simp; try with_reducible rfl)
  try simp only [Act.put, List.setIfInBounds_toArray, List.set_cons_zero, List.set_cons_succ]
  refine takeDK (i := 16) (d := some 43) (v := ?_) _ rfl rfl (by kernel_rfl) (by kernel_rfl) (by kernel_rfl) (fun _ _ _ h => h) (Or.inl ⟨by rfl, ?_⟩) (by assumption) ?_
  rotate_left
  · (intro W hSw; (try dsimp only at hSw); go_simp; try with_reducible rfl)
  try simp only [Act.put, List.setIfInBounds_toArray, List.set_cons_zero, List.set_cons_succ]
  refine takeDK (i := 17) (d := some 44) (v := ?_) _ rfl rfl (by kernel_rfl) (by kernel_rfl) (by kernel_rfl) (fun _ _ _ h => h) (Or.inl ⟨by rfl, ?_⟩) (by assumption) ?_
  rotate_left
  · (intro W hSw; (try dsimp only at hSw); go_simp; try with_reducible rfl)
  try simp only [Act.put, List.setIfInBounds_toArray, List.set_cons_zero, List.set_cons_succ]
  refine takeDK (i := 18) (d := some 45) (v := ?_) _ rfl rfl (by kernel_rfl) (by kernel_rfl) (by kernel_rfl) (fun _ _ _ h => h) (Or.inl ⟨by rfl, ?_⟩) (by assumption) ?_
  rotate_left
  · (intro W hSw; (try dsimp only at hSw); go_simp; try with_reducible rfl)
  try simp only [Act.put, List.setIfInBounds_toArray, List.set_cons_zero, List.set_cons_succ]
  refine takeDK (i := 19) (d := some 46) (v := ?_) _ rfl rfl (by kernel_rfl) (by kernel_rfl) (by kernel_rfl) (fun _ _ _ h => h) (Or.inl ⟨by rfl, ?_⟩) (by assumption) ?_
  rotate_left
  · (intro W hSw; (try dsimp only at hSw); go_simp; try with_reducible rfl)
  try simp only [Act.put, List.setIfInBounds_toArray, List.set_cons_zero, List.set_cons_succ]
  refine takeDK (i := 20) (d := some 47) (v := ?_) _ rfl rfl (by kernel_rfl) (by kernel_rfl) (by kernel_rfl) (fun _ _ _ h => h) (Or.inl ⟨by rfl, ?_⟩) (by assumption) ?_
  rotate_left
  · (intro W hSw; (try dsimp only at hSw); go_simp; try with_reducible rfl)
  try simp only [Act.put, List.setIfInBounds_toArray, List.set_cons_zero, List.set_cons_succ]
  refine takeDK (i := 21) (d := some 48) (v := ?_) _ rfl rfl (by kernel_rfl) (by kernel_rfl) (by kernel_rfl) (fun _ _ _ h => h) (Or.inl ⟨by rfl, ?_⟩) (by assumption) ?_
  rotate_left
  · (intro W hSw; (try dsimp only at hSw); go_simp; try with_reducible rfl)
  try simp only [Act.put, List.setIfInBounds_toArray, List.set_cons_zero, List.set_cons_succ]
  refine takeDK (i := 22) (d := some 49) (v := ?_) _ rfl rfl (by kernel_rfl) (by kernel_rfl) (by kernel_rfl) (fun _ _ _ h => h) (Or.inl ⟨by rfl, ?_⟩) (by assumption) ?_
  rotate_left
  · (intro W hSw; (try dsimp only at hSw); go_simp; try with_reducible rfl)
  try simp only [Act.put, List.setIfInBounds_toArray, List.set_cons_zero, List.set_cons_succ]
  refine wpAnyH_done (by kernel_rfl) ?_ _
  obtain ⟨bq, a0_, a1_, a2_, b0_, b1_, b2_⟩ := hHeld10
  clear hHeld hHeld2 hHeld4 hHeld5
  obtain ⟨w4, hw4⟩ : ∃ X, X = U10 := ⟨_, rfl⟩
  rw [← hw4] at bq a0_ a1_ a2_ b0_ b1_ b2_ ⊢
  clear hw4 oea oeb heq
  have B4 : Below w.heap.size w w4 := B3.trans (bq.mono B3.size)
  replace c0_ := kcell bq c0_
  replace c1_ := kcell bq c1_
  replace c2_ := kcell bq c2_
  clear bq hb
  clear hcmp hgd
  by_cases hz0 : z ≤ 0
  · skip
    go_wp2_with fail
    refine (implCompareKeys_any kb nb kc nc sb sc _ (by unfold maxLen; omega) (by unfold maxLen; omega)).mono ?_
    rw [← HY.out]
    rintro e w5 ⟨rfl, b5⟩
    have B5 : Below w.heap.size w w5 := B4.trans (b5.mono B4.size)
    replace a0_ := kcell b5 a0_
    replace a1_ := kcell b5 a1_
    replace a2_ := kcell b5 a2_
    replace b0_ := kcell b5 b0_
    replace b1_ := kcell b5 b1_
    replace b2_ := kcell b5 b2_
    replace c0_ := kcell b5 c0_
    replace c1_ := kcell b5 c1_
    replace c2_ := kcell b5 c2_
    clear b5
    by_cases hy0 : y ≤ 0
    · have hx0 : ¬ 0 < x := by have := HT.out hz0 hy0; omega
      go_wp2_with fail
      refine (implCompareKeys_any ka na kc nc sa sc _ (by unfold maxLen; omega) (by unfold maxLen; omega)).mono ?_
      rw [← HX.out]
      rintro e w6 ⟨rfl, b6⟩
      have B6 : Below w.heap.size w w6 := B5.trans (b6.mono B5.size)
      replace a0_ := kcell b6 a0_
      replace a1_ := kcell b6 a1_
      replace a2_ := kcell b6 a2_
      replace b0_ := kcell b6 b0_
      replace b1_ := kcell b6 b1_
      replace b2_ := kcell b6 b2_
      replace c0_ := kcell b6 c0_
      replace c1_ := kcell b6 c1_
      replace c2_ := kcell b6 c2_
      clear b6
      go_wp2_with fail
      refine (implEncodeKey_any ka na sa _ (by unfold maxLen; omega)).mono ?_
      rintro e w7 ⟨E1, nE, cE, rfl, oE, b7⟩
      have B7 : Below w.heap.size w w7 := B6.trans (b7.mono B6.size)
      replace a0_ := kcell b7 a0_
      replace a1_ := kcell b7 a1_
      replace a2_ := kcell b7 a2_
      replace b0_ := kcell b7 b0_
      replace b1_ := kcell b7 b1_
      replace b2_ := kcell b7 b2_
      replace c0_ := kcell b7 c0_
      replace c1_ := kcell b7 c1_
      replace c2_ := kcell b7 c2_
      clear b7
      have hnE : nE ≤ 19 := by have q := own_lenB oE; have q2 := encK_len ka na sa; omega
      have hcE := own_cap oE
      have hcE2 : cE ≤ 9223372036854775807 := by have := hcE.2; unfold maxLen at this; omega
      go_wp2_with fail
      refine (implDecodeKey_any E1 nE cE (encK ka na sa) _ (by omega) hcE.1 hcE2 (Rd.of_own oE)).mono ?_
      intro e w8 hd
      obtain ⟨rfl, b8⟩ := DkAny.t (show dkT (decK (encK ka na sa)) = (ka, na, sa, true) by rw [dec_enc_key HA.out]; rfl) hd
      clear hd oE hcE
      have B8 : Below w.heap.size w w8 := B7.trans (b8.mono B7.size)
      replace a0_ := kcell b8 a0_
      replace a1_ := kcell b8 a1_
      replace a2_ := kcell b8 a2_
      replace b0_ := kcell b8 b0_
      replace b1_ := kcell b8 b1_
      replace b2_ := kcell b8 b2_
      replace c0_ := kcell b8 c0_
      replace c1_ := kcell b8 c1_
      replace c2_ := kcell b8 c2_
      clear b8
      have b9 : Below w8.heap.size w8 (w8.alloc (.cells #[.int .i64 ka, .int .i64 na, .string sa] 23)) := al (Below.refl _ _)
      have B9 : Below w.heap.size w (w8.alloc (.cells #[.int .i64 ka, .int .i64 na, .string sa] 23)) := B8.trans (b9.mono B8.size)
      replace a0_ := kcell b9 a0_
      replace a1_ := kcell b9 a1_
      replace a2_ := kcell b9 a2_
      replace b0_ := kcell b9 b0_
      replace b1_ := kcell b9 b1_
      replace b2_ := kcell b9 b2_
      replace c0_ := kcell b9 c0_
      replace c1_ := kcell b9 c1_
      replace c2_ := kcell b9 c2_
      have x0 : (w8.alloc (.cells #[.int .i64 ka, .int .i64 na, .string sa] 23)).cell? ⟨w8.heap.size, 0, none⟩ = some (.int .i64 ka) := by simp
      have x1 : (w8.alloc (.cells #[.int .i64 ka, .int .i64 na, .string sa] 23)).cell? ⟨w8.heap.size, 1, none⟩ = some (.int .i64 na) := by simp
      have x2 : (w8.alloc (.cells #[.int .i64 ka, .int .i64 na, .string sa] 23)).cell? ⟨w8.heap.size, 2, none⟩ = some (.string sa) := by simp
      clear b9
      go_wp2_with fail
      refine (implFormatKey_any kb nb sb _ (by unfold maxLen; omega) (he.1.keep B9)).mono ?_
      rintro e w10 ⟨rfl, b10⟩
      have B10 : Below w.heap.size w w10 := B9.trans (b10.mono B9.size)
      replace a0_ := kcell b10 a0_
      replace a1_ := kcell b10 a1_
      replace a2_ := kcell b10 a2_
      replace b0_ := kcell b10 b0_
      replace b1_ := kcell b10 b1_
      replace b2_ := kcell b10 b2_
      replace c0_ := kcell b10 c0_
      replace c1_ := kcell b10 c1_
      replace c2_ := kcell b10 c2_
      replace x0 := kcell b10 x0
      replace x1 := kcell b10 x1
      replace x2 := kcell b10 x2
      clear b10
      obtain ⟨T, hT⟩ : ∃ T, T = fmtK kb nb sb := ⟨_, rfl⟩
      have hTs : T.size ≤ 40 := by rw [hT]; exact fmtK_size kb nb sb (by omega) (by omega)
      have hpf := pk_fmt HB.out
      rw [← hT] at hpf ⊢
      obtain ⟨f1, f2, f3, f4⟩ := hpf
      clear hT
      go_wp2_with fail
      refine (implParseKey_any T _ (by omega) (he.keep B10) (hm.keep B10)).mono ?_
      rw [f1, f2, f3, f4]
      rintro e w11 ⟨rfl, b11⟩
      have B11 : Below w.heap.size w w11 := B10.trans (b11.mono B10.size)
      replace a0_ := kcell b11 a0_
      replace a1_ := kcell b11 a1_
      replace a2_ := kcell b11 a2_
      replace b0_ := kcell b11 b0_
      replace b1_ := kcell b11 b1_
      replace b2_ := kcell b11 b2_
      replace c0_ := kcell b11 c0_
      replace c1_ := kcell b11 c1_
      replace c2_ := kcell b11 c2_
      replace x0 := kcell b11 x0
      replace x1 := kcell b11 x1
      replace x2 := kcell b11 x2
      clear b11
      clear f1 f2 f3 f4
      have b12 : Below w11.heap.size w11 (w11.alloc (.cells #[.int .i64 kb, .int .i64 nb, .string sb] 23)) := al (Below.refl _ _)
      have B12 : Below w.heap.size w (w11.alloc (.cells #[.int .i64 kb, .int .i64 nb, .string sb] 23)) := B11.trans (b12.mono B11.size)
      replace a0_ := kcell b12 a0_
      replace a1_ := kcell b12 a1_
      replace a2_ := kcell b12 a2_
      replace b0_ := kcell b12 b0_
      replace b1_ := kcell b12 b1_
      replace b2_ := kcell b12 b2_
      replace c0_ := kcell b12 c0_
      replace c1_ := kcell b12 c1_
      replace c2_ := kcell b12 c2_
      replace x0 := kcell b12 x0
      replace x1 := kcell b12 x1
      replace x2 := kcell b12 x2
      have y0 : (w11.alloc (.cells #[.int .i64 kb, .int .i64 nb, .string sb] 23)).cell? ⟨w11.heap.size, 0, none⟩ = some (.int .i64 kb) := by simp
      have y1 : (w11.alloc (.cells #[.int .i64 kb, .int .i64 nb, .string sb] 23)).cell? ⟨w11.heap.size, 1, none⟩ = some (.int .i64 nb) := by simp
      have y2 : (w11.alloc (.cells #[.int .i64 kb, .int .i64 nb, .string sb] 23)).cell? ⟨w11.heap.size, 2, none⟩ = some (.string sb) := by simp
      clear b12
      go_wp2_with fail
      refine (drawParseKey_any A0 n0 c0 l0 _ (by omega) (h0.below B12)).mono ?_
      rintro e w13 ⟨s, rfl, hs40, b13⟩
      have B13 : Below w.heap.size w w13 := B12.trans (b13.mono B12.size)
      replace a0_ := kcell b13 a0_
      replace a1_ := kcell b13 a1_
      replace a2_ := kcell b13 a2_
      replace b0_ := kcell b13 b0_
      replace b1_ := kcell b13 b1_
      replace b2_ := kcell b13 b2_
      replace c0_ := kcell b13 c0_
      replace c1_ := kcell b13 c1_
      replace c2_ := kcell b13 c2_
      replace x0 := kcell b13 x0
      replace x1 := kcell b13 x1
      replace x2 := kcell b13 x2
      replace y0 := kcell b13 y0
      replace y1 := kcell b13 y1
      replace y2 := kcell b13 y2
      clear b13
      obtain ⟨kz, hkz⟩ : ∃ x, x = rkK s := ⟨_, rfl⟩
      obtain ⟨nz, hnz⟩ : ∃ x, x = rkN s := ⟨_, rfl⟩
      obtain ⟨tz, htz⟩ : ∃ x, x = rkT s := ⟨_, rfl⟩
      obtain ⟨q, hq⟩ : ∃ b, b = pkOk s := ⟨_, rfl⟩
      have HK := Lib.hid hkz
      have HN := Lib.hid hnz
      have HTZ := Lib.hid htz
      have HQ := Lib.hid hq
      clear hkz hnz htz hq
      go_wp2_with fail
      refine (implParseKey_any s _ (by omega) (he.keep B13) (hm.keep B13)).mono ?_
      rw [← HK.out, ← HN.out, ← HTZ.out, ← HQ.out]
      rintro e w14 ⟨rfl, b14⟩
      have B14 : Below w.heap.size w w14 := B13.trans (b14.mono B13.size)
      replace a0_ := kcell b14 a0_
      replace a1_ := kcell b14 a1_
      replace a2_ := kcell b14 a2_
      replace b0_ := kcell b14 b0_
      replace b1_ := kcell b14 b1_
      replace b2_ := kcell b14 b2_
      replace c0_ := kcell b14 c0_
      replace c1_ := kcell b14 c1_
      replace c2_ := kcell b14 c2_
      replace x0 := kcell b14 x0
      replace x1 := kcell b14 x1
      replace x2 := kcell b14 x2
      replace y0 := kcell b14 y0
      replace y1 := kcell b14 y1
      replace y2 := kcell b14 y2
      clear b14
      have b15 : Below w14.heap.size w14 (w14.alloc (.cells #[.int .i64 kz, .int .i64 nz, .string tz] 23)) := al (Below.refl _ _)
      have B15 : Below w.heap.size w (w14.alloc (.cells #[.int .i64 kz, .int .i64 nz, .string tz] 23)) := B14.trans (b15.mono B14.size)
      replace a0_ := kcell b15 a0_
      replace a1_ := kcell b15 a1_
      replace a2_ := kcell b15 a2_
      replace b0_ := kcell b15 b0_
      replace b1_ := kcell b15 b1_
      replace b2_ := kcell b15 b2_
      replace c0_ := kcell b15 c0_
      replace c1_ := kcell b15 c1_
      replace c2_ := kcell b15 c2_
      replace x0 := kcell b15 x0
      replace x1 := kcell b15 x1
      replace x2 := kcell b15 x2
      replace y0 := kcell b15 y0
      replace y1 := kcell b15 y1
      replace y2 := kcell b15 y2
      have zz0 : (w14.alloc (.cells #[.int .i64 kz, .int .i64 nz, .string tz] 23)).cell? ⟨w14.heap.size, 0, none⟩ = some (.int .i64 kz) := by simp
      have zz1 : (w14.alloc (.cells #[.int .i64 kz, .int .i64 nz, .string tz] 23)).cell? ⟨w14.heap.size, 1, none⟩ = some (.int .i64 nz) := by simp
      have zz2 : (w14.alloc (.cells #[.int .i64 kz, .int .i64 nz, .string tz] 23)).cell? ⟨w14.heap.size, 2, none⟩ = some (.string tz) := by simp
      clear b15
      go_wp2_with fail
      refine (specParseKey_any s _ (by omega)).mono ?_
      rw [← HK.out, ← HN.out, ← HTZ.out, ← HQ.out]
      rintro e w16 ⟨rfl, b16⟩
      have B16 : Below w.heap.size w w16 := B15.trans (b16.mono B15.size)
      replace a0_ := kcell b16 a0_
      replace a1_ := kcell b16 a1_
      replace a2_ := kcell b16 a2_
      replace b0_ := kcell b16 b0_
      replace b1_ := kcell b16 b1_
      replace b2_ := kcell b16 b2_
      replace c0_ := kcell b16 c0_
      replace c1_ := kcell b16 c1_
      replace c2_ := kcell b16 c2_
      replace x0 := kcell b16 x0
      replace x1 := kcell b16 x1
      replace x2 := kcell b16 x2
      replace y0 := kcell b16 y0
      replace y1 := kcell b16 y1
      replace y2 := kcell b16 y2
      replace zz0 := kcell b16 zz0
      replace zz1 := kcell b16 zz1
      replace zz2 := kcell b16 zz2
      clear b16
      have b17 : Below w16.heap.size w16 (w16.alloc (.cells #[.int .i64 kz, .int .i64 nz, .string tz] 23)) := al (Below.refl _ _)
      have B17 : Below w.heap.size w (w16.alloc (.cells #[.int .i64 kz, .int .i64 nz, .string tz] 23)) := B16.trans (b17.mono B16.size)
      replace a0_ := kcell b17 a0_
      replace a1_ := kcell b17 a1_
      replace a2_ := kcell b17 a2_
      replace b0_ := kcell b17 b0_
      replace b1_ := kcell b17 b1_
      replace b2_ := kcell b17 b2_
      replace c0_ := kcell b17 c0_
      replace c1_ := kcell b17 c1_
      replace c2_ := kcell b17 c2_
      replace x0 := kcell b17 x0
      replace x1 := kcell b17 x1
      replace x2 := kcell b17 x2
      replace y0 := kcell b17 y0
      replace y1 := kcell b17 y1
      replace y2 := kcell b17 y2
      replace zz0 := kcell b17 zz0
      replace zz1 := kcell b17 zz1
      replace zz2 := kcell b17 zz2
      clear b17
      have hg1 := run_eqKyQ ka na sa ka na sa
      have hg2 := run_eqKyQ kb nb sb kb nb sb
      have hg3 := eqKyQ_self ka na sa
      have hg4 := eqKyQ_self kb nb sb
      have hgd := run_guardKQ
      cases q
      · go_wp2
        go_ret
        exact ⟨rfl, B17⟩
      · have hpb := pk_back HQ.out.symm
        rw [← HK.out, ← HN.out, ← HTZ.out] at hpb
        have htz := keyB_len hpb.1
        have HPB := Lib.hid hpb
        clear hpb
        go_wp2_with fail
        refine (implFormatKey_any kz nz tz _ (by unfold maxLen; omega) (he.1.keep B17)).mono ?_
        rw [HPB.out.2]
        rintro e w18 ⟨rfl, b18⟩
        have B18 : Below w.heap.size w w18 := B17.trans (b18.mono B17.size)
        replace a0_ := kcell b18 a0_
        replace a1_ := kcell b18 a1_
        replace a2_ := kcell b18 a2_
        replace b0_ := kcell b18 b0_
        replace b1_ := kcell b18 b1_
        replace b2_ := kcell b18 b2_
        replace c0_ := kcell b18 c0_
        replace c1_ := kcell b18 c1_
        replace c2_ := kcell b18 c2_
        replace x0 := kcell b18 x0
        replace x1 := kcell b18 x1
        replace x2 := kcell b18 x2
        replace y0 := kcell b18 y0
        replace y1 := kcell b18 y1
        replace y2 := kcell b18 y2
        replace zz0 := kcell b18 zz0
        replace zz1 := kcell b18 zz1
        replace zz2 := kcell b18 zz2
        clear b18
        go_wp2_with fail
        refine (implIsKey_any kz nz tz true _ (by unfold maxLen; omega) HPB.out.1.symm).mono ?_
        rintro e w19 ⟨rfl, b19⟩
        have B19 : Below w.heap.size w w19 := B18.trans (b19.mono B18.size)
        replace a0_ := kcell b19 a0_
        replace a1_ := kcell b19 a1_
        replace a2_ := kcell b19 a2_
        replace b0_ := kcell b19 b0_
        replace b1_ := kcell b19 b1_
        replace b2_ := kcell b19 b2_
        replace c0_ := kcell b19 c0_
        replace c1_ := kcell b19 c1_
        replace c2_ := kcell b19 c2_
        replace x0 := kcell b19 x0
        replace x1 := kcell b19 x1
        replace x2 := kcell b19 x2
        replace y0 := kcell b19 y0
        replace y1 := kcell b19 y1
        replace y2 := kcell b19 y2
        replace zz0 := kcell b19 zz0
        replace zz1 := kcell b19 zz1
        replace zz2 := kcell b19 zz2
        clear b19
        go_wp2
        go_ret
        exact ⟨rfl, B19⟩
    · skip
      go_wp2_with fail
      refine (implEncodeKey_any ka na sa _ (by unfold maxLen; omega)).mono ?_
      rintro e w6 ⟨E1, nE, cE, rfl, oE, b6⟩
      have B6 : Below w.heap.size w w6 := B5.trans (b6.mono B5.size)
      replace a0_ := kcell b6 a0_
      replace a1_ := kcell b6 a1_
      replace a2_ := kcell b6 a2_
      replace b0_ := kcell b6 b0_
      replace b1_ := kcell b6 b1_
      replace b2_ := kcell b6 b2_
      replace c0_ := kcell b6 c0_
      replace c1_ := kcell b6 c1_
      replace c2_ := kcell b6 c2_
      clear b6
      have hnE : nE ≤ 19 := by have q := own_lenB oE; have q2 := encK_len ka na sa; omega
      have hcE := own_cap oE
      have hcE2 : cE ≤ 9223372036854775807 := by have := hcE.2; unfold maxLen at this; omega
      go_wp2_with fail
      refine (implDecodeKey_any E1 nE cE (encK ka na sa) _ (by omega) hcE.1 hcE2 (Rd.of_own oE)).mono ?_
      intro e w7 hd
      obtain ⟨rfl, b7⟩ := DkAny.t (show dkT (decK (encK ka na sa)) = (ka, na, sa, true) by rw [dec_enc_key HA.out]; rfl) hd
      clear hd oE hcE
      have B7 : Below w.heap.size w w7 := B6.trans (b7.mono B6.size)
      replace a0_ := kcell b7 a0_
      replace a1_ := kcell b7 a1_
      replace a2_ := kcell b7 a2_
      replace b0_ := kcell b7 b0_
      replace b1_ := kcell b7 b1_
      replace b2_ := kcell b7 b2_
      replace c0_ := kcell b7 c0_
      replace c1_ := kcell b7 c1_
      replace c2_ := kcell b7 c2_
      clear b7
      have b8 : Below w7.heap.size w7 (w7.alloc (.cells #[.int .i64 ka, .int .i64 na, .string sa] 23)) := al (Below.refl _ _)
      have B8 : Below w.heap.size w (w7.alloc (.cells #[.int .i64 ka, .int .i64 na, .string sa] 23)) := B7.trans (b8.mono B7.size)
      replace a0_ := kcell b8 a0_
      replace a1_ := kcell b8 a1_
      replace a2_ := kcell b8 a2_
      replace b0_ := kcell b8 b0_
      replace b1_ := kcell b8 b1_
      replace b2_ := kcell b8 b2_
      replace c0_ := kcell b8 c0_
      replace c1_ := kcell b8 c1_
      replace c2_ := kcell b8 c2_
      have x0 : (w7.alloc (.cells #[.int .i64 ka, .int .i64 na, .string sa] 23)).cell? ⟨w7.heap.size, 0, none⟩ = some (.int .i64 ka) := by simp
      have x1 : (w7.alloc (.cells #[.int .i64 ka, .int .i64 na, .string sa] 23)).cell? ⟨w7.heap.size, 1, none⟩ = some (.int .i64 na) := by simp
      have x2 : (w7.alloc (.cells #[.int .i64 ka, .int .i64 na, .string sa] 23)).cell? ⟨w7.heap.size, 2, none⟩ = some (.string sa) := by simp
      clear b8
      go_wp2_with fail
      refine (implFormatKey_any kb nb sb _ (by unfold maxLen; omega) (he.1.keep B8)).mono ?_
      rintro e w9 ⟨rfl, b9⟩
      have B9 : Below w.heap.size w w9 := B8.trans (b9.mono B8.size)
      replace a0_ := kcell b9 a0_
      replace a1_ := kcell b9 a1_
      replace a2_ := kcell b9 a2_
      replace b0_ := kcell b9 b0_
      replace b1_ := kcell b9 b1_
      replace b2_ := kcell b9 b2_
      replace c0_ := kcell b9 c0_
      replace c1_ := kcell b9 c1_
      replace c2_ := kcell b9 c2_
      replace x0 := kcell b9 x0
      replace x1 := kcell b9 x1
      replace x2 := kcell b9 x2
      clear b9
      obtain ⟨T, hT⟩ : ∃ T, T = fmtK kb nb sb := ⟨_, rfl⟩
      have hTs : T.size ≤ 40 := by rw [hT]; exact fmtK_size kb nb sb (by omega) (by omega)
      have hpf := pk_fmt HB.out
      rw [← hT] at hpf ⊢
      obtain ⟨f1, f2, f3, f4⟩ := hpf
      clear hT
      go_wp2_with fail
      refine (implParseKey_any T _ (by omega) (he.keep B9) (hm.keep B9)).mono ?_
      rw [f1, f2, f3, f4]
      rintro e w10 ⟨rfl, b10⟩
      have B10 : Below w.heap.size w w10 := B9.trans (b10.mono B9.size)
      replace a0_ := kcell b10 a0_
      replace a1_ := kcell b10 a1_
      replace a2_ := kcell b10 a2_
      replace b0_ := kcell b10 b0_
      replace b1_ := kcell b10 b1_
      replace b2_ := kcell b10 b2_
      replace c0_ := kcell b10 c0_
      replace c1_ := kcell b10 c1_
      replace c2_ := kcell b10 c2_
      replace x0 := kcell b10 x0
      replace x1 := kcell b10 x1
      replace x2 := kcell b10 x2
      clear b10
      clear f1 f2 f3 f4
      have b11 : Below w10.heap.size w10 (w10.alloc (.cells #[.int .i64 kb, .int .i64 nb, .string sb] 23)) := al (Below.refl _ _)
      have B11 : Below w.heap.size w (w10.alloc (.cells #[.int .i64 kb, .int .i64 nb, .string sb] 23)) := B10.trans (b11.mono B10.size)
      replace a0_ := kcell b11 a0_
      replace a1_ := kcell b11 a1_
      replace a2_ := kcell b11 a2_
      replace b0_ := kcell b11 b0_
      replace b1_ := kcell b11 b1_
      replace b2_ := kcell b11 b2_
      replace c0_ := kcell b11 c0_
      replace c1_ := kcell b11 c1_
      replace c2_ := kcell b11 c2_
      replace x0 := kcell b11 x0
      replace x1 := kcell b11 x1
      replace x2 := kcell b11 x2
      have y0 : (w10.alloc (.cells #[.int .i64 kb, .int .i64 nb, .string sb] 23)).cell? ⟨w10.heap.size, 0, none⟩ = some (.int .i64 kb) := by simp
      have y1 : (w10.alloc (.cells #[.int .i64 kb, .int .i64 nb, .string sb] 23)).cell? ⟨w10.heap.size, 1, none⟩ = some (.int .i64 nb) := by simp
      have y2 : (w10.alloc (.cells #[.int .i64 kb, .int .i64 nb, .string sb] 23)).cell? ⟨w10.heap.size, 2, none⟩ = some (.string sb) := by simp
      clear b11
      go_wp2_with fail
      refine (drawParseKey_any A0 n0 c0 l0 _ (by omega) (h0.below B11)).mono ?_
      rintro e w12 ⟨s, rfl, hs40, b12⟩
      have B12 : Below w.heap.size w w12 := B11.trans (b12.mono B11.size)
      replace a0_ := kcell b12 a0_
      replace a1_ := kcell b12 a1_
      replace a2_ := kcell b12 a2_
      replace b0_ := kcell b12 b0_
      replace b1_ := kcell b12 b1_
      replace b2_ := kcell b12 b2_
      replace c0_ := kcell b12 c0_
      replace c1_ := kcell b12 c1_
      replace c2_ := kcell b12 c2_
      replace x0 := kcell b12 x0
      replace x1 := kcell b12 x1
      replace x2 := kcell b12 x2
      replace y0 := kcell b12 y0
      replace y1 := kcell b12 y1
      replace y2 := kcell b12 y2
      clear b12
      obtain ⟨kz, hkz⟩ : ∃ x, x = rkK s := ⟨_, rfl⟩
      obtain ⟨nz, hnz⟩ : ∃ x, x = rkN s := ⟨_, rfl⟩
      obtain ⟨tz, htz⟩ : ∃ x, x = rkT s := ⟨_, rfl⟩
      obtain ⟨q, hq⟩ : ∃ b, b = pkOk s := ⟨_, rfl⟩
      have HK := Lib.hid hkz
      have HN := Lib.hid hnz
      have HTZ := Lib.hid htz
      have HQ := Lib.hid hq
      clear hkz hnz htz hq
      go_wp2_with fail
      refine (implParseKey_any s _ (by omega) (he.keep B12) (hm.keep B12)).mono ?_
      rw [← HK.out, ← HN.out, ← HTZ.out, ← HQ.out]
      rintro e w13 ⟨rfl, b13⟩
      have B13 : Below w.heap.size w w13 := B12.trans (b13.mono B12.size)
      replace a0_ := kcell b13 a0_
      replace a1_ := kcell b13 a1_
      replace a2_ := kcell b13 a2_
      replace b0_ := kcell b13 b0_
      replace b1_ := kcell b13 b1_
      replace b2_ := kcell b13 b2_
      replace c0_ := kcell b13 c0_
      replace c1_ := kcell b13 c1_
      replace c2_ := kcell b13 c2_
      replace x0 := kcell b13 x0
      replace x1 := kcell b13 x1
      replace x2 := kcell b13 x2
      replace y0 := kcell b13 y0
      replace y1 := kcell b13 y1
      replace y2 := kcell b13 y2
      clear b13
      have b14 : Below w13.heap.size w13 (w13.alloc (.cells #[.int .i64 kz, .int .i64 nz, .string tz] 23)) := al (Below.refl _ _)
      have B14 : Below w.heap.size w (w13.alloc (.cells #[.int .i64 kz, .int .i64 nz, .string tz] 23)) := B13.trans (b14.mono B13.size)
      replace a0_ := kcell b14 a0_
      replace a1_ := kcell b14 a1_
      replace a2_ := kcell b14 a2_
      replace b0_ := kcell b14 b0_
      replace b1_ := kcell b14 b1_
      replace b2_ := kcell b14 b2_
      replace c0_ := kcell b14 c0_
      replace c1_ := kcell b14 c1_
      replace c2_ := kcell b14 c2_
      replace x0 := kcell b14 x0
      replace x1 := kcell b14 x1
      replace x2 := kcell b14 x2
      replace y0 := kcell b14 y0
      replace y1 := kcell b14 y1
      replace y2 := kcell b14 y2
      have zz0 : (w13.alloc (.cells #[.int .i64 kz, .int .i64 nz, .string tz] 23)).cell? ⟨w13.heap.size, 0, none⟩ = some (.int .i64 kz) := by simp
      have zz1 : (w13.alloc (.cells #[.int .i64 kz, .int .i64 nz, .string tz] 23)).cell? ⟨w13.heap.size, 1, none⟩ = some (.int .i64 nz) := by simp
      have zz2 : (w13.alloc (.cells #[.int .i64 kz, .int .i64 nz, .string tz] 23)).cell? ⟨w13.heap.size, 2, none⟩ = some (.string tz) := by simp
      clear b14
      go_wp2_with fail
      refine (specParseKey_any s _ (by omega)).mono ?_
      rw [← HK.out, ← HN.out, ← HTZ.out, ← HQ.out]
      rintro e w15 ⟨rfl, b15⟩
      have B15 : Below w.heap.size w w15 := B14.trans (b15.mono B14.size)
      replace a0_ := kcell b15 a0_
      replace a1_ := kcell b15 a1_
      replace a2_ := kcell b15 a2_
      replace b0_ := kcell b15 b0_
      replace b1_ := kcell b15 b1_
      replace b2_ := kcell b15 b2_
      replace c0_ := kcell b15 c0_
      replace c1_ := kcell b15 c1_
      replace c2_ := kcell b15 c2_
      replace x0 := kcell b15 x0
      replace x1 := kcell b15 x1
      replace x2 := kcell b15 x2
      replace y0 := kcell b15 y0
      replace y1 := kcell b15 y1
      replace y2 := kcell b15 y2
      replace zz0 := kcell b15 zz0
      replace zz1 := kcell b15 zz1
      replace zz2 := kcell b15 zz2
      clear b15
      have b16 : Below w15.heap.size w15 (w15.alloc (.cells #[.int .i64 kz, .int .i64 nz, .string tz] 23)) := al (Below.refl _ _)
      have B16 : Below w.heap.size w (w15.alloc (.cells #[.int .i64 kz, .int .i64 nz, .string tz] 23)) := B15.trans (b16.mono B15.size)
      replace a0_ := kcell b16 a0_
      replace a1_ := kcell b16 a1_
      replace a2_ := kcell b16 a2_
      replace b0_ := kcell b16 b0_
      replace b1_ := kcell b16 b1_
      replace b2_ := kcell b16 b2_
      replace c0_ := kcell b16 c0_
      replace c1_ := kcell b16 c1_
      replace c2_ := kcell b16 c2_
      replace x0 := kcell b16 x0
      replace x1 := kcell b16 x1
      replace x2 := kcell b16 x2
      replace y0 := kcell b16 y0
      replace y1 := kcell b16 y1
      replace y2 := kcell b16 y2
      replace zz0 := kcell b16 zz0
      replace zz1 := kcell b16 zz1
      replace zz2 := kcell b16 zz2
      clear b16
      have hg1 := run_eqKyQ ka na sa ka na sa
      have hg2 := run_eqKyQ kb nb sb kb nb sb
      have hg3 := eqKyQ_self ka na sa
      have hg4 := eqKyQ_self kb nb sb
      have hgd := run_guardKQ
      cases q
      · go_wp2
        go_ret
        exact ⟨rfl, B16⟩
      · have hpb := pk_back HQ.out.symm
        rw [← HK.out, ← HN.out, ← HTZ.out] at hpb
        have htz := keyB_len hpb.1
        have HPB := Lib.hid hpb
        clear hpb
        go_wp2_with fail
        refine (implFormatKey_any kz nz tz _ (by unfold maxLen; omega) (he.1.keep B16)).mono ?_
        rw [HPB.out.2]
        rintro e w17 ⟨rfl, b17⟩
        have B17 : Below w.heap.size w w17 := B16.trans (b17.mono B16.size)
        replace a0_ := kcell b17 a0_
        replace a1_ := kcell b17 a1_
        replace a2_ := kcell b17 a2_
        replace b0_ := kcell b17 b0_
        replace b1_ := kcell b17 b1_
        replace b2_ := kcell b17 b2_
        replace c0_ := kcell b17 c0_
        replace c1_ := kcell b17 c1_
        replace c2_ := kcell b17 c2_
        replace x0 := kcell b17 x0
        replace x1 := kcell b17 x1
        replace x2 := kcell b17 x2
        replace y0 := kcell b17 y0
        replace y1 := kcell b17 y1
        replace y2 := kcell b17 y2
        replace zz0 := kcell b17 zz0
        replace zz1 := kcell b17 zz1
        replace zz2 := kcell b17 zz2
        clear b17
        go_wp2_with fail
        refine (implIsKey_any kz nz tz true _ (by unfold maxLen; omega) HPB.out.1.symm).mono ?_
        rintro e w18 ⟨rfl, b18⟩
        have B18 : Below w.heap.size w w18 := B17.trans (b18.mono B17.size)
        replace a0_ := kcell b18 a0_
        replace a1_ := kcell b18 a1_
        replace a2_ := kcell b18 a2_
        replace b0_ := kcell b18 b0_
        replace b1_ := kcell b18 b1_
        replace b2_ := kcell b18 b2_
        replace c0_ := kcell b18 c0_
        replace c1_ := kcell b18 c1_
        replace c2_ := kcell b18 c2_
        replace x0 := kcell b18 x0
        replace x1 := kcell b18 x1
        replace x2 := kcell b18 x2
        replace y0 := kcell b18 y0
        replace y1 := kcell b18 y1
        replace y2 := kcell b18 y2
        replace zz0 := kcell b18 zz0
        replace zz1 := kcell b18 zz1
        replace zz2 := kcell b18 zz2
        clear b18
        go_wp2
        go_ret
        exact ⟨rfl, B18⟩
  · skip
    go_wp2_with fail
    refine (implEncodeKey_any ka na sa _ (by unfold maxLen; omega)).mono ?_
    rintro e w5 ⟨E1, nE, cE, rfl, oE, b5⟩
    have B5 : Below w.heap.size w w5 := B4.trans (b5.mono B4.size)
    replace a0_ := kcell b5 a0_
    replace a1_ := kcell b5 a1_
    replace a2_ := kcell b5 a2_
    replace b0_ := kcell b5 b0_
    replace b1_ := kcell b5 b1_
    replace b2_ := kcell b5 b2_
    replace c0_ := kcell b5 c0_
    replace c1_ := kcell b5 c1_
    replace c2_ := kcell b5 c2_
    clear b5
    have hnE : nE ≤ 19 := by have q := own_lenB oE; have q2 := encK_len ka na sa; omega
    have hcE := own_cap oE
    have hcE2 : cE ≤ 9223372036854775807 := by have := hcE.2; unfold maxLen at this; omega
    go_wp2_with fail
    refine (implDecodeKey_any E1 nE cE (encK ka na sa) _ (by omega) hcE.1 hcE2 (Rd.of_own oE)).mono ?_
    intro e w6 hd
    obtain ⟨rfl, b6⟩ := DkAny.t (show dkT (decK (encK ka na sa)) = (ka, na, sa, true) by rw [dec_enc_key HA.out]; rfl) hd
    clear hd oE hcE
    have B6 : Below w.heap.size w w6 := B5.trans (b6.mono B5.size)
    replace a0_ := kcell b6 a0_
    replace a1_ := kcell b6 a1_
    replace a2_ := kcell b6 a2_
    replace b0_ := kcell b6 b0_
    replace b1_ := kcell b6 b1_
    replace b2_ := kcell b6 b2_
    replace c0_ := kcell b6 c0_
    replace c1_ := kcell b6 c1_
    replace c2_ := kcell b6 c2_
    clear b6
    have b7 : Below w6.heap.size w6 (w6.alloc (.cells #[.int .i64 ka, .int .i64 na, .string sa] 23)) := al (Below.refl _ _)
    have B7 : Below w.heap.size w (w6.alloc (.cells #[.int .i64 ka, .int .i64 na, .string sa] 23)) := B6.trans (b7.mono B6.size)
    replace a0_ := kcell b7 a0_
    replace a1_ := kcell b7 a1_
    replace a2_ := kcell b7 a2_
    replace b0_ := kcell b7 b0_
    replace b1_ := kcell b7 b1_
    replace b2_ := kcell b7 b2_
    replace c0_ := kcell b7 c0_
    replace c1_ := kcell b7 c1_
    replace c2_ := kcell b7 c2_
    have x0 : (w6.alloc (.cells #[.int .i64 ka, .int .i64 na, .string sa] 23)).cell? ⟨w6.heap.size, 0, none⟩ = some (.int .i64 ka) := by simp
    have x1 : (w6.alloc (.cells #[.int .i64 ka, .int .i64 na, .string sa] 23)).cell? ⟨w6.heap.size, 1, none⟩ = some (.int .i64 na) := by simp
    have x2 : (w6.alloc (.cells #[.int .i64 ka, .int .i64 na, .string sa] 23)).cell? ⟨w6.heap.size, 2, none⟩ = some (.string sa) := by simp
    clear b7
    go_wp2_with fail
    refine (implFormatKey_any kb nb sb _ (by unfold maxLen; omega) (he.1.keep B7)).mono ?_
    rintro e w8 ⟨rfl, b8⟩
    have B8 : Below w.heap.size w w8 := B7.trans (b8.mono B7.size)
    replace a0_ := kcell b8 a0_
    replace a1_ := kcell b8 a1_
    replace a2_ := kcell b8 a2_
    replace b0_ := kcell b8 b0_
    replace b1_ := kcell b8 b1_
    replace b2_ := kcell b8 b2_
    replace c0_ := kcell b8 c0_
    replace c1_ := kcell b8 c1_
    replace c2_ := kcell b8 c2_
    replace x0 := kcell b8 x0
    replace x1 := kcell b8 x1
    replace x2 := kcell b8 x2
    clear b8
    obtain ⟨T, hT⟩ : ∃ T, T = fmtK kb nb sb := ⟨_, rfl⟩
    have hTs : T.size ≤ 40 := by rw [hT]; exact fmtK_size kb nb sb (by omega) (by omega)
    have hpf := pk_fmt HB.out
    rw [← hT] at hpf ⊢
    obtain ⟨f1, f2, f3, f4⟩ := hpf
    clear hT
    go_wp2_with fail
    refine (implParseKey_any T _ (by omega) (he.keep B8) (hm.keep B8)).mono ?_
    rw [f1, f2, f3, f4]
    rintro e w9 ⟨rfl, b9⟩
    have B9 : Below w.heap.size w w9 := B8.trans (b9.mono B8.size)
    replace a0_ := kcell b9 a0_
    replace a1_ := kcell b9 a1_
    replace a2_ := kcell b9 a2_
    replace b0_ := kcell b9 b0_
    replace b1_ := kcell b9 b1_
    replace b2_ := kcell b9 b2_
    replace c0_ := kcell b9 c0_
    replace c1_ := kcell b9 c1_
    replace c2_ := kcell b9 c2_
    replace x0 := kcell b9 x0
    replace x1 := kcell b9 x1
    replace x2 := kcell b9 x2
    clear b9
    clear f1 f2 f3 f4
    have b10 : Below w9.heap.size w9 (w9.alloc (.cells #[.int .i64 kb, .int .i64 nb, .string sb] 23)) := al (Below.refl _ _)
    have B10 : Below w.heap.size w (w9.alloc (.cells #[.int .i64 kb, .int .i64 nb, .string sb] 23)) := B9.trans (b10.mono B9.size)
    replace a0_ := kcell b10 a0_
    replace a1_ := kcell b10 a1_
    replace a2_ := kcell b10 a2_
    replace b0_ := kcell b10 b0_
    replace b1_ := kcell b10 b1_
    replace b2_ := kcell b10 b2_
    replace c0_ := kcell b10 c0_
    replace c1_ := kcell b10 c1_
    replace c2_ := kcell b10 c2_
    replace x0 := kcell b10 x0
    replace x1 := kcell b10 x1
    replace x2 := kcell b10 x2
    have y0 : (w9.alloc (.cells #[.int .i64 kb, .int .i64 nb, .string sb] 23)).cell? ⟨w9.heap.size, 0, none⟩ = some (.int .i64 kb) := by simp
    have y1 : (w9.alloc (.cells #[.int .i64 kb, .int .i64 nb, .string sb] 23)).cell? ⟨w9.heap.size, 1, none⟩ = some (.int .i64 nb) := by simp
    have y2 : (w9.alloc (.cells #[.int .i64 kb, .int .i64 nb, .string sb] 23)).cell? ⟨w9.heap.size, 2, none⟩ = some (.string sb) := by simp
    clear b10
    go_wp2_with fail
    refine (drawParseKey_any A0 n0 c0 l0 _ (by omega) (h0.below B10)).mono ?_
    rintro e w11 ⟨s, rfl, hs40, b11⟩
    have B11 : Below w.heap.size w w11 := B10.trans (b11.mono B10.size)
    replace a0_ := kcell b11 a0_
    replace a1_ := kcell b11 a1_
    replace a2_ := kcell b11 a2_
    replace b0_ := kcell b11 b0_
    replace b1_ := kcell b11 b1_
    replace b2_ := kcell b11 b2_
    replace c0_ := kcell b11 c0_
    replace c1_ := kcell b11 c1_
    replace c2_ := kcell b11 c2_
    replace x0 := kcell b11 x0
    replace x1 := kcell b11 x1
    replace x2 := kcell b11 x2
    replace y0 := kcell b11 y0
    replace y1 := kcell b11 y1
    replace y2 := kcell b11 y2
    clear b11
    obtain ⟨kz, hkz⟩ : ∃ x, x = rkK s := ⟨_, rfl⟩
    obtain ⟨nz, hnz⟩ : ∃ x, x = rkN s := ⟨_, rfl⟩
    obtain ⟨tz, htz⟩ : ∃ x, x = rkT s := ⟨_, rfl⟩
    obtain ⟨q, hq⟩ : ∃ b, b = pkOk s := ⟨_, rfl⟩
    have HK := Lib.hid hkz
    have HN := Lib.hid hnz
    have HTZ := Lib.hid htz
    have HQ := Lib.hid hq
    clear hkz hnz htz hq
    go_wp2_with fail
    refine (implParseKey_any s _ (by omega) (he.keep B11) (hm.keep B11)).mono ?_
    rw [← HK.out, ← HN.out, ← HTZ.out, ← HQ.out]
    rintro e w12 ⟨rfl, b12⟩
    have B12 : Below w.heap.size w w12 := B11.trans (b12.mono B11.size)
    replace a0_ := kcell b12 a0_
    replace a1_ := kcell b12 a1_
    replace a2_ := kcell b12 a2_
    replace b0_ := kcell b12 b0_
    replace b1_ := kcell b12 b1_
    replace b2_ := kcell b12 b2_
    replace c0_ := kcell b12 c0_
    replace c1_ := kcell b12 c1_
    replace c2_ := kcell b12 c2_
    replace x0 := kcell b12 x0
    replace x1 := kcell b12 x1
    replace x2 := kcell b12 x2
    replace y0 := kcell b12 y0
    replace y1 := kcell b12 y1
    replace y2 := kcell b12 y2
    clear b12
    have b13 : Below w12.heap.size w12 (w12.alloc (.cells #[.int .i64 kz, .int .i64 nz, .string tz] 23)) := al (Below.refl _ _)
    have B13 : Below w.heap.size w (w12.alloc (.cells #[.int .i64 kz, .int .i64 nz, .string tz] 23)) := B12.trans (b13.mono B12.size)
    replace a0_ := kcell b13 a0_
    replace a1_ := kcell b13 a1_
    replace a2_ := kcell b13 a2_
    replace b0_ := kcell b13 b0_
    replace b1_ := kcell b13 b1_
    replace b2_ := kcell b13 b2_
    replace c0_ := kcell b13 c0_
    replace c1_ := kcell b13 c1_
    replace c2_ := kcell b13 c2_
    replace x0 := kcell b13 x0
    replace x1 := kcell b13 x1
    replace x2 := kcell b13 x2
    replace y0 := kcell b13 y0
    replace y1 := kcell b13 y1
    replace y2 := kcell b13 y2
    have zz0 : (w12.alloc (.cells #[.int .i64 kz, .int .i64 nz, .string tz] 23)).cell? ⟨w12.heap.size, 0, none⟩ = some (.int .i64 kz) := by simp
    have zz1 : (w12.alloc (.cells #[.int .i64 kz, .int .i64 nz, .string tz] 23)).cell? ⟨w12.heap.size, 1, none⟩ = some (.int .i64 nz) := by simp
    have zz2 : (w12.alloc (.cells #[.int .i64 kz, .int .i64 nz, .string tz] 23)).cell? ⟨w12.heap.size, 2, none⟩ = some (.string tz) := by simp
    clear b13
    go_wp2_with fail
    refine (specParseKey_any s _ (by omega)).mono ?_
    rw [← HK.out, ← HN.out, ← HTZ.out, ← HQ.out]
    rintro e w14 ⟨rfl, b14⟩
    have B14 : Below w.heap.size w w14 := B13.trans (b14.mono B13.size)
    replace a0_ := kcell b14 a0_
    replace a1_ := kcell b14 a1_
    replace a2_ := kcell b14 a2_
    replace b0_ := kcell b14 b0_
    replace b1_ := kcell b14 b1_
    replace b2_ := kcell b14 b2_
    replace c0_ := kcell b14 c0_
    replace c1_ := kcell b14 c1_
    replace c2_ := kcell b14 c2_
    replace x0 := kcell b14 x0
    replace x1 := kcell b14 x1
    replace x2 := kcell b14 x2
    replace y0 := kcell b14 y0
    replace y1 := kcell b14 y1
    replace y2 := kcell b14 y2
    replace zz0 := kcell b14 zz0
    replace zz1 := kcell b14 zz1
    replace zz2 := kcell b14 zz2
    clear b14
    have b15 : Below w14.heap.size w14 (w14.alloc (.cells #[.int .i64 kz, .int .i64 nz, .string tz] 23)) := al (Below.refl _ _)
    have B15 : Below w.heap.size w (w14.alloc (.cells #[.int .i64 kz, .int .i64 nz, .string tz] 23)) := B14.trans (b15.mono B14.size)
    replace a0_ := kcell b15 a0_
    replace a1_ := kcell b15 a1_
    replace a2_ := kcell b15 a2_
    replace b0_ := kcell b15 b0_
    replace b1_ := kcell b15 b1_
    replace b2_ := kcell b15 b2_
    replace c0_ := kcell b15 c0_
    replace c1_ := kcell b15 c1_
    replace c2_ := kcell b15 c2_
    replace x0 := kcell b15 x0
    replace x1 := kcell b15 x1
    replace x2 := kcell b15 x2
    replace y0 := kcell b15 y0
    replace y1 := kcell b15 y1
    replace y2 := kcell b15 y2
    replace zz0 := kcell b15 zz0
    replace zz1 := kcell b15 zz1
    replace zz2 := kcell b15 zz2
    clear b15
    have hg1 := run_eqKyQ ka na sa ka na sa
    have hg2 := run_eqKyQ kb nb sb kb nb sb
    have hg3 := eqKyQ_self ka na sa
    have hg4 := eqKyQ_self kb nb sb
    have hgd := run_guardKQ
    cases q
    · go_wp2
      go_ret
      exact ⟨rfl, B15⟩
    · have hpb := pk_back HQ.out.symm
      rw [← HK.out, ← HN.out, ← HTZ.out] at hpb
      have htz := keyB_len hpb.1
      have HPB := Lib.hid hpb
      clear hpb
      go_wp2_with fail
      refine (implFormatKey_any kz nz tz _ (by unfold maxLen; omega) (he.1.keep B15)).mono ?_
      rw [HPB.out.2]
      rintro e w16 ⟨rfl, b16⟩
      have B16 : Below w.heap.size w w16 := B15.trans (b16.mono B15.size)
      replace a0_ := kcell b16 a0_
      replace a1_ := kcell b16 a1_
      replace a2_ := kcell b16 a2_
      replace b0_ := kcell b16 b0_
      replace b1_ := kcell b16 b1_
      replace b2_ := kcell b16 b2_
      replace c0_ := kcell b16 c0_
      replace c1_ := kcell b16 c1_
      replace c2_ := kcell b16 c2_
      replace x0 := kcell b16 x0
      replace x1 := kcell b16 x1
      replace x2 := kcell b16 x2
      replace y0 := kcell b16 y0
      replace y1 := kcell b16 y1
      replace y2 := kcell b16 y2
      replace zz0 := kcell b16 zz0
      replace zz1 := kcell b16 zz1
      replace zz2 := kcell b16 zz2
      clear b16
      go_wp2_with fail
      refine (implIsKey_any kz nz tz true _ (by unfold maxLen; omega) HPB.out.1.symm).mono ?_
      rintro e w17 ⟨rfl, b17⟩
      have B17 : Below w.heap.size w w17 := B16.trans (b17.mono B16.size)
      replace a0_ := kcell b17 a0_
      replace a1_ := kcell b17 a1_
      replace a2_ := kcell b17 a2_
      replace b0_ := kcell b17 b0_
      replace b1_ := kcell b17 b1_
      replace b2_ := kcell b17 b2_
      replace c0_ := kcell b17 c0_
      replace c1_ := kcell b17 c1_
      replace c2_ := kcell b17 c2_
      replace x0 := kcell b17 x0
      replace x1 := kcell b17 x1
      replace x2 := kcell b17 x2
      replace y0 := kcell b17 y0
      replace y1 := kcell b17 y1
      replace y2 := kcell b17 y2
      replace zz0 := kcell b17 zz0
      replace zz1 := kcell b17 zz1
      replace zz2 := kcell b17 zz2
      clear b17
      go_wp2
      go_ret
      exact ⟨rfl, B17⟩

theorem laid_met (os : Os) (args : Array Value) : laidMet Tryd.prog Rows.fnKeysRow.laid ((tabWorld5 os).forCall (fun _ _ => 0) ⟨#[], args, []⟩).memory :=
  laidMet_of_run' 8 (by kernel_rfl) (by kernel_rfl)

set_option maxRecDepth 100000 in
theorem lifted (os : Os) (started : os.Started) (H : Type) (enc : TypeId × Value → H) :
    ReturnsInHanded {} Tryd.checked os 4 .any (fun w args => (Rows.fnKeysSpec.pre enc Tryd.prog Tryd.f4 Rows.fnKeysRow.domain false w args ∧ laidMet Tryd.prog Rows.fnKeysRow.laid w) ∧ sizedMet enc Tryd.prog Tryd.f4 (OpenSpec.ofChange Rows.fnKeysSpec) false w args)
      (Rows.fnKeysSpec.post enc Tryd.prog Tryd.f4 false true false false) := by
  refine returns_both (C := Tryd.checked) (X := fun w _ => laidMet Tryd.prog Rows.fnKeysRow.laid w) (fun _ _ _ hh h => h.of_heap hh) own started (by kernel_rfl) Tryd.func4
    (ChangeSpec.witness_at (enc := enc) (C := Tryd.checked) (os := os) (X := fun w _ => laidMet Tryd.prog Rows.fnKeysRow.laid w) false (tabWorld5 os) #[.slice none 0 0] 8 rfl (by kernel_rfl) (by kernel_rfl) (by kernel_rfl) (by kernel_rfl) (by kernel_rfl) (laid_met os _)) ?_
  intro W base args ds gs before hval0 hW hL hsh
  have hval : ∀ (j : Nat) t v, Tryd.f4.params[j]? = some t → args[j]? = some v → Value.okWide Tryd.prog W .any base t v := hval0
  have hW' := hW
  obtain ⟨p, q, hA0, hV, rfl, hfz, hnd⟩ := hW
  have hA : DataW.TrodAll enc Tryd.prog W 0 (fun _ => true) true Tryd.f4.params.toList args.toList ds p := hA0
  rw [Tryd.params4] at hA hval
  obtain ⟨v0, vs0, d0, ds0, p0, q0, hargs, rfl, rfl, h0, z0⟩ := trodAll_cons hA
  obtain ⟨rfl, rfl, rfl⟩ := trodAll_nil z0
  obtain rfl : args = #[v0] := by cases args; simp_all
  obtain ⟨rfl, rfl⟩ := trodVars_none hV
  obtain ⟨a0, n0, c0, rfl⟩ := okWide_slice Tryd.underlying28 (hval 0 28 v0 rfl rfl)
  obtain ⟨fu0, hf0⟩ := h0
  obtain ⟨l0, rd0, hm0⟩ := open_bytes Tryd.underlying28 Tryd.underlying5 cellsU8 hf0
  clear hA0 hval0
  exact (walk W a0 n0 c0 l0 rd0 hm0 (errs_of hL) (max_of hsh)).mono fun e W' ⟨he, hb⟩ => ⟨_, he, law_post laidOut (by kernel_rfl) (tb := 4) rfl Tryd.underlying4 rfl hW' rfl hb⟩

theorem said : Rows.FnKeysSaid :=
  OpenClaim.holds_of_wide 4 Tryd.f4 rfl rfl rfl rfl rfl rfl rfl ⟨rfl, rfl, rfl, rfl, rfl⟩ rfl rfl rfl rfl rfl (by kernel_rfl) Tryd.func4 (joined_of (by kernel_rfl))
    (of_decide_eq_true (by kernel_rfl)) (by unfold Func.isWrapper; first | (rw [if_pos (by decide +kernel)]; kernel_rfl) | (rw [if_neg (by decide +kernel)]; exact ⟨rfl, rfl⟩))
    (fun os started H enc _ => lifted os started H enc)

theorem proved : Rows.FnKeysCardSaid :=
  Claim7.holds_tied_plain_at .later [] [.data, .data, .data, .sentinel, .sentinel] true (true, "1049c4310d5bfca20d1f95a2c888a3439faeb0685337254e1c5ae66fe8242137") true
    said (fun _ h => by cases h) (by kernel_rfl) (fun _ h => by cases h) fnKeys_row_tie rfl ⟨rfl, rfl⟩ (by kernel_rfl) rfl
    (fun f fn hf hfn => by
      obtain rfl : f = 4 := Option.some.inj ((show Tryd.prog.funcNamed "loop.example/g00583/laws.FnKeys" = some 4 by kernel_rfl).symm.trans hf) |>.symm
      obtain rfl : fn = Tryd.f4 := (Option.some.inj (Tryd.func4.symm.trans hfn)).symm
      exact ⟨by kernel_rfl, fun j t ht => by
        rw [Tryd.params4] at ht
        have h3 : t = 28 := by
          rcases j with _ | j
          · simpa using ht.symm
          · simp at ht
        subst h3
        exact (show Tryd.prog.wantsStandIn 28 = false by kernel_rfl)⟩)
    (by kernel_rfl)
#print axioms proved
end Go.Proofs.YtnbhdijmbpdgoaaDoor.fnKeys
