/-
  Proved: the law FnExactMergeRecords answers true for every input and changes nothing that was there: the program's MergeRecords returns what the reference's MergeRecords returns. Conditions: none beyond those of the row.
  By an AI agent; no person has read it.
-/
import Derived.Test.YtbbngihmjdndoaaLaw
import Derived.Test.YtbbngihmjdndoaaMrgS
import Derived.Test.YtbbngihmjdndoaaFldQ
import Derived.Test.YtbbngihmjdndoaaOpenR
import Derived.Test.YtbbngihmjdndoaaStep
namespace Go.Proofs.Ytbbngihmjdndoaa.fnExactMergeRecords
open Go.ChangeShapes Go.WideShapes Go.ChangeAt Go.RowKit
open Go.ChangeMaps (open_string)
set_option linter.unusedVariables false
theorem mrgR_len {lo la lb : List Fld} {lr : List Fld} {r : Bool} (h : (lr, r) = mrgR lo la lb) : lr.length ≤ la.length + lb.length := by
  unfold mrgR at h
  split at h
  · obtain rfl : lr = mrgL lo la lb := (Prod.mk.inj h).1
    exact Nat.le_trans (mgL_len _) (uniN_len la lb)
  · obtain rfl : lr = la := (Prod.mk.inj h).1
    omega
theorem al'' {w : World} (o : Obj) : Below w.heap.size w (w.alloc o) := (Below.refl _ _).alloc (Nat.le_refl _) o

set_option maxRecDepth 100000 in
set_option maxHeartbeats 20000000 in
theorem walk (w : World) (A0 : Option Addr) (n0 c0 : Nat) (l0 : List Fld) (h0 : Rd w 2 A0 n0 (fl l0)) (m0 : n0 ≤ maxLen) (o0 : okF l0) (A1 : Option Addr) (n1 c1 : Nat) (l1 : List Fld) (h1 : Rd w 2 A1 n1 (fl l1)) (m1 : n1 ≤ maxLen) (o1 : okF l1) (A2 : Option Addr) (n2 c2 : Nat) (l2 : List Fld) (h2 : Rd w 2 A2 n2 (fl l2)) (m2 : n2 ≤ maxLen) (o2 : okF l2) :
    Calls Try.prog 3 #[.agg #[.slice A0 n0 c0], .agg #[.slice A1 n1 c1], .agg #[.slice A2 n2 c2]] w fun e w' => e = .returned (.bool true) ∧ Below w.heap.size w w' := by
  unfold maxLen at m0
  unfold maxLen at m1
  unfold maxLen at m2
  by_cases hb0 : (1048576 : Int) < (n0 : Int) + sumF l0
  · go_enter Try.func3, Try.ntmps3
    go_wp2_with fail
    refine (szRecord_big A0 n0 c0 l0 (1048576) _ m0 (by omega) (by omega) (((h0.alloc _).alloc _).alloc _) o0 hb0).mono ?_
    rintro e w1 ⟨rfl, b1⟩
    go_wp2
    go_ret
    exact ⟨rfl, Below.trans (al (al (al (Below.refl _ _)))) (b1.mono (by simp; omega))⟩
  have hs0 : (n0 : Int) + sumF l0 ≤ 1048576 := by omega
  clear hb0
  by_cases hb1 : (1048576 - n0 - sumF l0 : Int) < (n1 : Int) + sumF l1
  · go_enter Try.func3, Try.ntmps3
    go_wp2_with fail
    refine (szRecord_ok A0 n0 c0 l0 (1048576) _ m0 (by omega) (((h0.alloc _).alloc _).alloc _) o0 hs0).mono ?_
    rintro e w1 ⟨rfl, b1⟩
    have B1 : Below w.heap.size w w1 := Below.trans (al (al (al (Below.refl _ _)))) (b1.mono (by simp; omega))
    have d0 : w1.cell? ⟨w.heap.size, 0, none⟩ = some (.slice A0 n0 c0) := kcell b1 (by simp [go_sem])
    have d1 : w1.cell? ⟨w.heap.size + 1, 0, none⟩ = some (.slice A1 n1 c1) := kcell b1 (by simp [go_sem])
    have d2 : w1.cell? ⟨w.heap.size + 1 + 1, 0, none⟩ = some (.slice A2 n2 c2) := kcell b1 (by simp [go_sem])
    go_wp2_with fail
    refine (szRecord_big A1 n1 c1 l1 (1048576 - n0 - sumF l0) _ m1 (by omega) (by omega) (h1.below B1) o1 hb1).mono ?_
    rintro e w2 ⟨rfl, b2⟩
    go_wp2
    go_ret
    exact ⟨rfl, B1.trans (b2.mono B1.size)⟩
  have hs1 : (n1 : Int) + sumF l1 ≤ 1048576 - n0 - sumF l0 := by omega
  clear hb1
  by_cases hb2 : (1048576 - n0 - sumF l0 - n1 - sumF l1 : Int) < (n2 : Int) + sumF l2
  · go_enter Try.func3, Try.ntmps3
    go_wp2_with fail
    refine (szRecord_ok A0 n0 c0 l0 (1048576) _ m0 (by omega) (((h0.alloc _).alloc _).alloc _) o0 hs0).mono ?_
    rintro e w1 ⟨rfl, b1⟩
    have B1 : Below w.heap.size w w1 := Below.trans (al (al (al (Below.refl _ _)))) (b1.mono (by simp; omega))
    have d0 : w1.cell? ⟨w.heap.size, 0, none⟩ = some (.slice A0 n0 c0) := kcell b1 (by simp [go_sem])
    have d1 : w1.cell? ⟨w.heap.size + 1, 0, none⟩ = some (.slice A1 n1 c1) := kcell b1 (by simp [go_sem])
    have d2 : w1.cell? ⟨w.heap.size + 1 + 1, 0, none⟩ = some (.slice A2 n2 c2) := kcell b1 (by simp [go_sem])
    go_wp2_with fail
    refine (szRecord_ok A1 n1 c1 l1 (1048576 - n0 - sumF l0) _ m1 (by omega) (h1.below B1) o1 hs1).mono ?_
    rintro e w2 ⟨rfl, b2⟩
    have B2 := B1.trans (b2.mono B1.size)
    replace d0 := kcell b2 d0
    replace d1 := kcell b2 d1
    replace d2 := kcell b2 d2
    go_wp2_with fail
    refine (szRecord_big A2 n2 c2 l2 (1048576 - n0 - sumF l0 - n1 - sumF l1) _ m2 (by omega) (by omega) (h2.below B2) o2 hb2).mono ?_
    rintro e w3 ⟨rfl, b3⟩
    go_wp2
    go_ret
    exact ⟨rfl, B2.trans (b3.mono B2.size)⟩
  have hs2 : (n2 : Int) + sumF l2 ≤ 1048576 - n0 - sumF l0 - n1 - sumF l1 := by omega
  clear hb2
  have v0 : l0.length ≤ maxLen := by unfold maxLen; have := h0.lenF; omega
  have q0 : n0 ≤ 1099511627776 := by omega
  have k0 : l0.length ≤ 1048576 := by have := h0.lenF; omega
  have v1 : l1.length ≤ maxLen := by unfold maxLen; have := h1.lenF; omega
  have q1 : n1 ≤ 1099511627776 := by omega
  have k1 : l1.length ≤ 1048576 := by have := h1.lenF; omega
  have v2 : l2.length ≤ maxLen := by unfold maxLen; have := h2.lenF; omega
  have q2 : n2 ≤ 1099511627776 := by omega
  have k2 : l2.length ≤ 1048576 := by have := h2.lenF; omega
  obtain ⟨lr, r, hr⟩ : ∃ lr r, (lr, r) = mrgR l0 l1 l2 := ⟨_, _, rfl⟩
  have hlr : lr.length ≤ 2097152 := by have := mrgR_len hr; omega
  have HR := Lib.hid hr
  clear hr
  have hrr : (r == r) = true := by simp
  go_enter Try.func3, Try.ntmps3
  go_wp2_with fail
  refine (szRecord_ok A0 n0 c0 l0 (1048576) _ m0 (by omega) (((h0.alloc _).alloc _).alloc _) o0 hs0).mono ?_
  rintro e w1 ⟨rfl, b1⟩
  have B1 : Below w.heap.size w w1 := Below.trans (al (al (al (Below.refl _ _)))) (b1.mono (by simp; omega))
  have zs1 : Hid (w.heap.size + 3 ≤ w1.heap.size) := Lib.hid (by have q := b1.size; simp at q; omega)
  have dp0 : w1.cell? ⟨w.heap.size, 0, none⟩ = some (.slice A0 n0 c0) := kcell b1 (by simp [go_sem])
  have dp1 : w1.cell? ⟨w.heap.size + 1, 0, none⟩ = some (.slice A1 n1 c1) := kcell b1 (by simp [go_sem])
  have dp2 : w1.cell? ⟨w.heap.size + 1 + 1, 0, none⟩ = some (.slice A2 n2 c2) := kcell b1 (by simp [go_sem])
  clear b1
  go_wp2_with fail
  refine (szRecord_ok A1 n1 c1 l1 (1048576 - n0 - sumF l0) _ m1 (by omega) (h1.below B1) o1 hs1).mono ?_
  rintro e w2 ⟨rfl, b2⟩
  have B2 : Below w.heap.size w w2 := B1.trans (b2.mono B1.size)
  have zs2 : Hid (w1.heap.size ≤ w2.heap.size) := Lib.hid (b2.size)
  replace dp0 := kcell b2 dp0
  replace dp1 := kcell b2 dp1
  replace dp2 := kcell b2 dp2
  clear b2
  go_wp2_with fail
  refine (szRecord_ok A2 n2 c2 l2 (1048576 - n0 - sumF l0 - n1 - sumF l1) _ m2 (by omega) (h2.below B2) o2 hs2).mono ?_
  rintro e w3 ⟨rfl, b3⟩
  have B3 : Below w.heap.size w w3 := B2.trans (b3.mono B2.size)
  have zs3 : Hid (w2.heap.size ≤ w3.heap.size) := Lib.hid (b3.size)
  replace dp0 := kcell b3 dp0
  replace dp1 := kcell b3 dp1
  replace dp2 := kcell b3 dp2
  clear b3
  go_wp2_with fail
  go_cut [8, 9] (fun x y wx => ∃ (g : Nat) (A : Option Addr) (n c : Nat), x = .pointer (some ⟨g, 0, none⟩) ∧ y = .bool r ∧ wx.ownsRow w3.heap.size 91 2 (.slice A n c) n (fl lr) ∧ wx.cell? ⟨g, 0, none⟩ = some (.slice A n c) ∧ w3.heap.size ≤ g ∧ g < wx.heap.size ∧ Below w3.heap.size w3 wx)
  case first =>
    refine wp_region_held_drew (S := fun W => Below w3.heap.size w3 W ∧ W.cell? ⟨w.heap.size, 0, none⟩ = some (.slice A0 n0 c0) ∧ W.cell? ⟨w.heap.size + 1, 0, none⟩ = some (.slice A1 n1 c1) ∧ W.cell? ⟨w.heap.size + 1 + 1, 0, none⟩ = some (.slice A2 n2 c2)) (by kernel_rfl) ?_ (fun hHeld => ?_)
    · exact ⟨(Below.refl _ _).drew, dp0, dp1, dp2⟩
    refine takeD (i := 0) (d := some 36) (v := ?_) _ rfl rfl (by kernel_rfl) (by kernel_rfl) (by kernel_rfl) (fun _ _ _ h => h) (Or.inl ⟨by rfl, ?_⟩) (by assumption) ?_
    rotate_left
    · (intro W hSw; (try dsimp only at hSw); go_simp; try with_reducible rfl)
    try simp only [Act.put, List.setIfInBounds_toArray, List.set_cons_zero, List.set_cons_succ]
    refine takeD (i := 2) (d := some 38) (v := ?_) _ rfl rfl (by kernel_rfl) (by kernel_rfl) (by kernel_rfl) (fun _ _ _ h => h) (Or.inl ⟨by rfl, ?_⟩) (by assumption) ?_
    rotate_left
    · (intro W hSw; (try dsimp only at hSw); go_simp; try with_reducible rfl)
    try simp only [Act.put, List.setIfInBounds_toArray, List.set_cons_zero, List.set_cons_succ]
    refine takeD (i := 4) (d := some 40) (v := ?_) _ rfl rfl (by kernel_rfl) (by kernel_rfl) (by kernel_rfl) (fun _ _ _ h => h) (Or.inl ⟨by rfl, ?_⟩) (by assumption) ?_
    rotate_left
    · (intro W hSw; (try dsimp only at hSw); go_simp; try with_reducible rfl)
    try simp only [Act.put, List.setIfInBounds_toArray, List.set_cons_zero, List.set_cons_succ]
    refine wpAnyH_ready (rs := [1, 10]) (by kernel_rfl) (by simp) ?_
    refine AllReadyH.cons rfl (fun K hK => ?_) (AllReadyH.cons rfl (fun K hK => ?_) AllReadyH.nil)
    · go_simp
      refine (toRecord_any A0 n0 c0 l0 _ q0 (h0.below (B3.trans (hHeld.1.mono B3.size)))).mono ?_; rintro e U1 ⟨AX0, NX0, CX0, rfl, ox0, hb⟩
      try go_wp2_with fail
      refine hK.out _ _ ?_ (fun hHeld => ?_)
      · try dsimp only
        first | assumption | (refine sz3 ?_ hb rfl; assumption)
      clear hK K
      try simp only [Act.put, List.setIfInBounds_toArray, List.set_cons_zero, List.set_cons_succ]
      refine wpAnyH_ready (rs := [3, 10]) (by kernel_rfl) (by simp) ?_
      refine AllReadyH.cons rfl (fun K hK => ?_) (AllReadyH.cons rfl (fun K hK => ?_) AllReadyH.nil)
      · go_simp
        refine (toRecord_any A1 n1 c1 l1 _ q1 (h1.below (B3.trans (hHeld.1.mono B3.size)))).mono ?_; rintro e U3 ⟨AX1, NX1, CX1, rfl, ox1, hb⟩
        try go_wp2_with fail
        replace ox0 := own_below ox0 hb
        refine hK.out _ _ ?_ (fun hHeld => ?_)
        · try dsimp only
          first | assumption | (refine sz3 ?_ hb rfl; assumption)
        clear hK K
        try simp only [Act.put, List.setIfInBounds_toArray, List.set_cons_zero, List.set_cons_succ]
        refine wpAnyH_ready (rs := [5, 10]) (by kernel_rfl) (by simp) ?_
        refine AllReadyH.cons rfl (fun K hK => ?_) (AllReadyH.cons rfl (fun K hK => ?_) AllReadyH.nil)
        · go_simp
          refine (toRecord_any A2 n2 c2 l2 _ q2 (h2.below (B3.trans (hHeld.1.mono B3.size)))).mono ?_; rintro e U5 ⟨AX2, NX2, CX2, rfl, ox2, hb⟩
          try go_wp2_with fail
          replace ox0 := own_below ox0 hb
          replace ox1 := own_below ox1 hb
          refine hK.out _ _ ?_ (fun hHeld => ?_)
          · try dsimp only
            first | assumption | (refine sz3 ?_ hb rfl; assumption)
          clear hK K
          try simp only [Act.put, List.setIfInBounds_toArray, List.set_cons_zero, List.set_cons_succ]
          refine wpAnyH_ready (rs := [6, 10]) (by kernel_rfl) (by simp) ?_
          refine AllReadyH.cons rfl (fun K hK => ?_) (AllReadyH.cons rfl (fun K hK => ?_) AllReadyH.nil)
          · go_simp
            have hZS := hHeld.1.size
            refine (specMergeRecords_any AX0 AX1 AX2 NX0 NX1 NX2 CX0 CX1 CX2 l0 l1 l2 lr r _ (by have q1 := own_lenF ox0; omega) (by have q1 := own_lenF ox1; omega) (by have q1 := own_lenF ox2; omega) (Rd.of_own ox0) (Rd.of_own ox1) (Rd.of_own ox2) o0 o1 o2 HR.out).mono ?_; rintro e U6 ⟨AS, NS, CS, rfl, os, hb⟩
            try go_wp2_with fail
            have RS := own_rng os
            refine hK.out _ _ ?_ (fun hHeld => ?_)
            · try dsimp only
              first | assumption | (refine sz3 ?_ hb rfl; assumption)
            clear hK K
            try simp only [Act.put, List.setIfInBounds_toArray, List.set_cons_zero, List.set_cons_succ]
            refine takeD (i := 7) (d := some 35) (v := ?_) _ rfl rfl (by kernel_rfl) (by kernel_rfl) (by kernel_rfl) (fun _ _ _ h => h) (Or.inl ⟨by rfl, ?_⟩) (by assumption) ?_
            rotate_left
            · (intro W hSw; (try dsimp only at hSw); go_simp; try with_reducible rfl)
            try simp only [Act.put, List.setIfInBounds_toArray, List.set_cons_zero, List.set_cons_succ]
            refine takeD (i := 8) (d := some 43) (v := ?_) _ rfl rfl (by kernel_rfl) (by kernel_rfl) (by kernel_rfl) (fun _ _ _ h => h) (Or.inl ⟨by rfl, ?_⟩) (by assumption) ?_
            rotate_left
            · (intro W hSw; (try dsimp only at hSw); go_simp; try with_reducible rfl)
            try simp only [Act.put, List.setIfInBounds_toArray, List.set_cons_zero, List.set_cons_succ]
            refine takeD (i := 9) (d := some 44) (v := ?_) _ rfl rfl (by kernel_rfl) (by kernel_rfl) (by kernel_rfl) (fun _ _ _ h => h) (Or.inl ⟨by rfl, ?_⟩) (by assumption) ?_
            rotate_left
            · (intro W hSw; (try dsimp only at hSw); go_simp; try with_reducible rfl)
            try simp only [Act.put, List.setIfInBounds_toArray, List.set_cons_zero, List.set_cons_succ]
            refine wpAnyH_ready (rs := [10]) (by kernel_rfl) (by simp) ?_
            refine AllReadyH.cons rfl (fun K hK => ?_) AllReadyH.nil
            go_simp
            have hb : Below U6.heap.size U6 (U6.alloc (.cells #[.slice none 0 0] 28)) := al (Below.refl _ _)
            have dG : (U6.alloc (.cells #[.slice none 0 0] 28)).cell? ⟨U6.heap.size, 0, none⟩ = some (.slice none 0 0) := by simp
            have fG : (U6.alloc (.cells #[.slice none 0 0] 28)).frozen? ⟨U6.heap.size, 0, none⟩ = false := by simp [go_sem]
            have hG : U6.heap.size < (U6.alloc (.cells #[.slice none 0 0] 28)).heap.size := by simp
            have hG0 : w3.heap.size ≤ U6.heap.size := hHeld.1.size
            refine hK.out _ _ ?_ (fun hHeld => ?_)
            · try dsimp only
              first | assumption | (refine sz3 ?_ hb rfl; assumption)
            clear hK K
            try simp only [Act.put, List.setIfInBounds_toArray, List.set_cons_zero, List.set_cons_succ]
            refine wpAnyH_ready (rs := [11]) (by kernel_rfl) (by simp) ?_
            refine AllReadyH.cons rfl (fun K hK => ?_) AllReadyH.nil
            go_simp
            have hS : Below U6.heap.size U6 (U6.alloc (.cells #[.slice AS NS CS] 28)) := al (Below.refl _ _)
            refine hK.out _ _ ?_ (fun hHeld => ?_)
            · try dsimp only
              first | assumption | (refine sz3 ?_ hS rfl; assumption)
            clear hK K
            try simp only [Act.put, List.setIfInBounds_toArray, List.set_cons_zero, List.set_cons_succ]
            refine takeD (i := 12) (d := some 9) (v := ?_) _ rfl rfl (by kernel_rfl) (by kernel_rfl) (by kernel_rfl) (fun _ _ _ h => h) (Or.inl ⟨by rfl, ?_⟩) (by assumption) ?_
            rotate_left
            · (intro W hSw; (try dsimp only at hSw); go_simp; try with_reducible rfl)
            try simp only [Act.put, List.setIfInBounds_toArray, List.set_cons_zero, List.set_cons_succ]
            refine wpAnyH_done (by kernel_rfl) ?_ _
            go_wp2_with fail
            go_meet
            exact ⟨_, AS, NS, CS, rfl, rfl, own_base (own_below os (al (Below.refl _ _))) hZS, by simp, hG0, by simp, hHeld.1⟩
          · go_simp
            have hb : Below U5.heap.size U5 (U5.alloc (.cells #[.slice none 0 0] 28)) := al (Below.refl _ _)
            replace ox0 := own_below ox0 hb
            replace ox1 := own_below ox1 hb
            replace ox2 := own_below ox2 hb
            have dG : (U5.alloc (.cells #[.slice none 0 0] 28)).cell? ⟨U5.heap.size, 0, none⟩ = some (.slice none 0 0) := by simp
            have fG : (U5.alloc (.cells #[.slice none 0 0] 28)).frozen? ⟨U5.heap.size, 0, none⟩ = false := by simp [go_sem]
            have hG : U5.heap.size < (U5.alloc (.cells #[.slice none 0 0] 28)).heap.size := by simp
            have hG0 : w3.heap.size ≤ U5.heap.size := hHeld.1.size
            refine hK.out _ _ ?_ (fun hHeld => ?_)
            · try dsimp only
              first | assumption | (refine sz3 ?_ hb rfl; assumption)
            clear hK K
            try simp only [Act.put, List.setIfInBounds_toArray, List.set_cons_zero, List.set_cons_succ]
            refine wpAnyH_ready (rs := [6]) (by kernel_rfl) (by simp) ?_
            refine AllReadyH.cons rfl (fun K hK => ?_) AllReadyH.nil
            go_simp
            have hGS := hG
            have hZS := hHeld.1.size
            refine (specMergeRecords_any AX0 AX1 AX2 NX0 NX1 NX2 CX0 CX1 CX2 l0 l1 l2 lr r _ (by have q1 := own_lenF ox0; omega) (by have q1 := own_lenF ox1; omega) (by have q1 := own_lenF ox2; omega) (Rd.of_own ox0) (Rd.of_own ox1) (Rd.of_own ox2) o0 o1 o2 HR.out).mono ?_; rintro e U6 ⟨AS, NS, CS, rfl, os, hb⟩
            try go_wp2_with fail
            replace dG := kcell hb dG
            replace fG := kfro hb hG fG
            replace hG := Nat.lt_of_lt_of_le hG hb.size
            have RS := own_rng os
            refine hK.out _ _ ?_ (fun hHeld => ?_)
            · try dsimp only
              first | assumption | (refine sz3 ?_ hb rfl; assumption)
            clear hK K
            try simp only [Act.put, List.setIfInBounds_toArray, List.set_cons_zero, List.set_cons_succ]
            refine takeD (i := 7) (d := some 35) (v := ?_) _ rfl rfl (by kernel_rfl) (by kernel_rfl) (by kernel_rfl) (fun _ _ _ h => h) (Or.inl ⟨by rfl, ?_⟩) (by assumption) ?_
            rotate_left
            · (intro W hSw; (try dsimp only at hSw); go_simp; try with_reducible rfl)
            try simp only [Act.put, List.setIfInBounds_toArray, List.set_cons_zero, List.set_cons_succ]
            refine takeD (i := 8) (d := some 43) (v := ?_) _ rfl rfl (by kernel_rfl) (by kernel_rfl) (by kernel_rfl) (fun _ _ _ h => h) (Or.inl ⟨by rfl, ?_⟩) (by assumption) ?_
            rotate_left
            · (intro W hSw; (try dsimp only at hSw); go_simp; try with_reducible rfl)
            try simp only [Act.put, List.setIfInBounds_toArray, List.set_cons_zero, List.set_cons_succ]
            refine takeD (i := 9) (d := some 44) (v := ?_) _ rfl rfl (by kernel_rfl) (by kernel_rfl) (by kernel_rfl) (fun _ _ _ h => h) (Or.inl ⟨by rfl, ?_⟩) (by assumption) ?_
            rotate_left
            · (intro W hSw; (try dsimp only at hSw); go_simp; try with_reducible rfl)
            try simp only [Act.put, List.setIfInBounds_toArray, List.set_cons_zero, List.set_cons_succ]
            refine wpAnyH_ready (rs := [11]) (by kernel_rfl) (by simp) ?_
            refine AllReadyH.cons rfl (fun K hK => ?_) AllReadyH.nil
            go_simp
            refine hK.out _ _ ?_ (fun hHeld => ?_)
            · try dsimp only
              exact ⟨hHeld.1.setCell (p := ⟨U5.heap.size, 0, none⟩) hG0 _, (World.cell?_setCell_far _ ⟨U5.heap.size, 0, none⟩ ⟨w.heap.size, 0, none⟩ _ (by show U5.heap.size ≠ w.heap.size; have zc1 := zs1.out; have zc2 := zs2.out; have zc3 := zs3.out; omega)).trans hHeld.2.1, (World.cell?_setCell_far _ ⟨U5.heap.size, 0, none⟩ ⟨w.heap.size + 1, 0, none⟩ _ (by show U5.heap.size ≠ w.heap.size + 1; have zc1 := zs1.out; have zc2 := zs2.out; have zc3 := zs3.out; omega)).trans hHeld.2.2.1, (World.cell?_setCell_far _ ⟨U5.heap.size, 0, none⟩ ⟨w.heap.size + 1 + 1, 0, none⟩ _ (by show U5.heap.size ≠ w.heap.size + 1 + 1; have zc1 := zs1.out; have zc2 := zs2.out; have zc3 := zs3.out; omega)).trans hHeld.2.2.2⟩
            clear hK K
            try simp only [Act.put, List.setIfInBounds_toArray, List.set_cons_zero, List.set_cons_succ]
            refine takeD (i := 12) (d := some 9) (v := ?_) _ rfl rfl (by kernel_rfl) (by kernel_rfl) (by kernel_rfl) (fun _ _ _ h => h) (Or.inl ⟨by rfl, ?_⟩) (by assumption) ?_
            rotate_left
            · (intro W hSw; (try dsimp only at hSw); go_simp; try with_reducible rfl)
            try simp only [Act.put, List.setIfInBounds_toArray, List.set_cons_zero, List.set_cons_succ]
            refine wpAnyH_done (by kernel_rfl) ?_ _
            go_wp2_with fail
            go_meet
            exact ⟨_, AS, NS, CS, rfl, rfl, own_base (ownsRow_setCell_below os (a := ⟨U5.heap.size, 0, none⟩) hGS _) hZS, by simp [go_sem, dG], hG0, by simpa using hG, hHeld.1⟩
        · go_simp
          have hb : Below U3.heap.size U3 (U3.alloc (.cells #[.slice none 0 0] 28)) := al (Below.refl _ _)
          replace ox0 := own_below ox0 hb
          replace ox1 := own_below ox1 hb
          have dG : (U3.alloc (.cells #[.slice none 0 0] 28)).cell? ⟨U3.heap.size, 0, none⟩ = some (.slice none 0 0) := by simp
          have fG : (U3.alloc (.cells #[.slice none 0 0] 28)).frozen? ⟨U3.heap.size, 0, none⟩ = false := by simp [go_sem]
          have hG : U3.heap.size < (U3.alloc (.cells #[.slice none 0 0] 28)).heap.size := by simp
          have hG0 : w3.heap.size ≤ U3.heap.size := hHeld.1.size
          refine hK.out _ _ ?_ (fun hHeld => ?_)
          · try dsimp only
            first | assumption | (refine sz3 ?_ hb rfl; assumption)
          clear hK K
          try simp only [Act.put, List.setIfInBounds_toArray, List.set_cons_zero, List.set_cons_succ]
          refine wpAnyH_ready (rs := [5]) (by kernel_rfl) (by simp) ?_
          refine AllReadyH.cons rfl (fun K hK => ?_) AllReadyH.nil
          go_simp
          refine (toRecord_any A2 n2 c2 l2 _ q2 (h2.below (B3.trans (hHeld.1.mono B3.size)))).mono ?_; rintro e U5 ⟨AX2, NX2, CX2, rfl, ox2, hb⟩
          try go_wp2_with fail
          replace ox0 := own_below ox0 hb
          replace ox1 := own_below ox1 hb
          replace dG := kcell hb dG
          replace fG := kfro hb hG fG
          replace hG := Nat.lt_of_lt_of_le hG hb.size
          refine hK.out _ _ ?_ (fun hHeld => ?_)
          · try dsimp only
            first | assumption | (refine sz3 ?_ hb rfl; assumption)
          clear hK K
          try simp only [Act.put, List.setIfInBounds_toArray, List.set_cons_zero, List.set_cons_succ]
          refine wpAnyH_ready (rs := [6]) (by kernel_rfl) (by simp) ?_
          refine AllReadyH.cons rfl (fun K hK => ?_) AllReadyH.nil
          go_simp
          have hGS := hG
          have hZS := hHeld.1.size
          refine (specMergeRecords_any AX0 AX1 AX2 NX0 NX1 NX2 CX0 CX1 CX2 l0 l1 l2 lr r _ (by have q1 := own_lenF ox0; omega) (by have q1 := own_lenF ox1; omega) (by have q1 := own_lenF ox2; omega) (Rd.of_own ox0) (Rd.of_own ox1) (Rd.of_own ox2) o0 o1 o2 HR.out).mono ?_; rintro e U6 ⟨AS, NS, CS, rfl, os, hb⟩
          try go_wp2_with fail
          replace dG := kcell hb dG
          replace fG := kfro hb hG fG
          replace hG := Nat.lt_of_lt_of_le hG hb.size
          have RS := own_rng os
          refine hK.out _ _ ?_ (fun hHeld => ?_)
          · try dsimp only
            first | assumption | (refine sz3 ?_ hb rfl; assumption)
          clear hK K
          try simp only [Act.put, List.setIfInBounds_toArray, List.set_cons_zero, List.set_cons_succ]
          refine takeD (i := 7) (d := some 35) (v := ?_) _ rfl rfl (by kernel_rfl) (by kernel_rfl) (by kernel_rfl) (fun _ _ _ h => h) (Or.inl ⟨by rfl, ?_⟩) (by assumption) ?_
          rotate_left
          · (intro W hSw; (try dsimp only at hSw); go_simp; try with_reducible rfl)
          try simp only [Act.put, List.setIfInBounds_toArray, List.set_cons_zero, List.set_cons_succ]
          refine takeD (i := 8) (d := some 43) (v := ?_) _ rfl rfl (by kernel_rfl) (by kernel_rfl) (by kernel_rfl) (fun _ _ _ h => h) (Or.inl ⟨by rfl, ?_⟩) (by assumption) ?_
          rotate_left
          · (intro W hSw; (try dsimp only at hSw); go_simp; try with_reducible rfl)
          try simp only [Act.put, List.setIfInBounds_toArray, List.set_cons_zero, List.set_cons_succ]
          refine takeD (i := 9) (d := some 44) (v := ?_) _ rfl rfl (by kernel_rfl) (by kernel_rfl) (by kernel_rfl) (fun _ _ _ h => h) (Or.inl ⟨by rfl, ?_⟩) (by assumption) ?_
          rotate_left
          · (intro W hSw; (try dsimp only at hSw); go_simp; try with_reducible rfl)
          try simp only [Act.put, List.setIfInBounds_toArray, List.set_cons_zero, List.set_cons_succ]
          refine wpAnyH_ready (rs := [11]) (by kernel_rfl) (by simp) ?_
          refine AllReadyH.cons rfl (fun K hK => ?_) AllReadyH.nil
          go_simp
          refine hK.out _ _ ?_ (fun hHeld => ?_)
          · try dsimp only
            exact ⟨hHeld.1.setCell (p := ⟨U3.heap.size, 0, none⟩) hG0 _, (World.cell?_setCell_far _ ⟨U3.heap.size, 0, none⟩ ⟨w.heap.size, 0, none⟩ _ (by show U3.heap.size ≠ w.heap.size; have zc1 := zs1.out; have zc2 := zs2.out; have zc3 := zs3.out; omega)).trans hHeld.2.1, (World.cell?_setCell_far _ ⟨U3.heap.size, 0, none⟩ ⟨w.heap.size + 1, 0, none⟩ _ (by show U3.heap.size ≠ w.heap.size + 1; have zc1 := zs1.out; have zc2 := zs2.out; have zc3 := zs3.out; omega)).trans hHeld.2.2.1, (World.cell?_setCell_far _ ⟨U3.heap.size, 0, none⟩ ⟨w.heap.size + 1 + 1, 0, none⟩ _ (by show U3.heap.size ≠ w.heap.size + 1 + 1; have zc1 := zs1.out; have zc2 := zs2.out; have zc3 := zs3.out; omega)).trans hHeld.2.2.2⟩
          clear hK K
          try simp only [Act.put, List.setIfInBounds_toArray, List.set_cons_zero, List.set_cons_succ]
          refine takeD (i := 12) (d := some 9) (v := ?_) _ rfl rfl (by kernel_rfl) (by kernel_rfl) (by kernel_rfl) (fun _ _ _ h => h) (Or.inl ⟨by rfl, ?_⟩) (by assumption) ?_
          rotate_left
          · (intro W hSw; (try dsimp only at hSw); go_simp; try with_reducible rfl)
          try simp only [Act.put, List.setIfInBounds_toArray, List.set_cons_zero, List.set_cons_succ]
          refine wpAnyH_done (by kernel_rfl) ?_ _
          go_wp2_with fail
          go_meet
          exact ⟨_, AS, NS, CS, rfl, rfl, own_base (ownsRow_setCell_below os (a := ⟨U3.heap.size, 0, none⟩) hGS _) hZS, by simp [go_sem, dG], hG0, by simpa using hG, hHeld.1⟩
      · go_simp
        have hb : Below U1.heap.size U1 (U1.alloc (.cells #[.slice none 0 0] 28)) := al (Below.refl _ _)
        replace ox0 := own_below ox0 hb
        have dG : (U1.alloc (.cells #[.slice none 0 0] 28)).cell? ⟨U1.heap.size, 0, none⟩ = some (.slice none 0 0) := by simp
        have fG : (U1.alloc (.cells #[.slice none 0 0] 28)).frozen? ⟨U1.heap.size, 0, none⟩ = false := by simp [go_sem]
        have hG : U1.heap.size < (U1.alloc (.cells #[.slice none 0 0] 28)).heap.size := by simp
        have hG0 : w3.heap.size ≤ U1.heap.size := hHeld.1.size
        refine hK.out _ _ ?_ (fun hHeld => ?_)
        · try dsimp only
          first | assumption | (refine sz3 ?_ hb rfl; assumption)
        clear hK K
        try simp only [Act.put, List.setIfInBounds_toArray, List.set_cons_zero, List.set_cons_succ]
        refine wpAnyH_ready (rs := [3]) (by kernel_rfl) (by simp) ?_
        refine AllReadyH.cons rfl (fun K hK => ?_) AllReadyH.nil
        go_simp
        refine (toRecord_any A1 n1 c1 l1 _ q1 (h1.below (B3.trans (hHeld.1.mono B3.size)))).mono ?_; rintro e U3 ⟨AX1, NX1, CX1, rfl, ox1, hb⟩
        try go_wp2_with fail
        replace ox0 := own_below ox0 hb
        replace dG := kcell hb dG
        replace fG := kfro hb hG fG
        replace hG := Nat.lt_of_lt_of_le hG hb.size
        refine hK.out _ _ ?_ (fun hHeld => ?_)
        · try dsimp only
          first | assumption | (refine sz3 ?_ hb rfl; assumption)
        clear hK K
        try simp only [Act.put, List.setIfInBounds_toArray, List.set_cons_zero, List.set_cons_succ]
        refine wpAnyH_ready (rs := [5]) (by kernel_rfl) (by simp) ?_
        refine AllReadyH.cons rfl (fun K hK => ?_) AllReadyH.nil
        go_simp
        refine (toRecord_any A2 n2 c2 l2 _ q2 (h2.below (B3.trans (hHeld.1.mono B3.size)))).mono ?_; rintro e U5 ⟨AX2, NX2, CX2, rfl, ox2, hb⟩
        try go_wp2_with fail
        replace ox0 := own_below ox0 hb
        replace ox1 := own_below ox1 hb
        replace dG := kcell hb dG
        replace fG := kfro hb hG fG
        replace hG := Nat.lt_of_lt_of_le hG hb.size
        refine hK.out _ _ ?_ (fun hHeld => ?_)
        · try dsimp only
          first | assumption | (refine sz3 ?_ hb rfl; assumption)
        clear hK K
        try simp only [Act.put, List.setIfInBounds_toArray, List.set_cons_zero, List.set_cons_succ]
        refine wpAnyH_ready (rs := [6]) (by kernel_rfl) (by simp) ?_
        refine AllReadyH.cons rfl (fun K hK => ?_) AllReadyH.nil
        go_simp
        have hGS := hG
        have hZS := hHeld.1.size
        refine (specMergeRecords_any AX0 AX1 AX2 NX0 NX1 NX2 CX0 CX1 CX2 l0 l1 l2 lr r _ (by have q1 := own_lenF ox0; omega) (by have q1 := own_lenF ox1; omega) (by have q1 := own_lenF ox2; omega) (Rd.of_own ox0) (Rd.of_own ox1) (Rd.of_own ox2) o0 o1 o2 HR.out).mono ?_; rintro e U6 ⟨AS, NS, CS, rfl, os, hb⟩
        try go_wp2_with fail
        replace dG := kcell hb dG
        replace fG := kfro hb hG fG
        replace hG := Nat.lt_of_lt_of_le hG hb.size
        have RS := own_rng os
        refine hK.out _ _ ?_ (fun hHeld => ?_)
        · try dsimp only
          first | assumption | (refine sz3 ?_ hb rfl; assumption)
        clear hK K
        try simp only [Act.put, List.setIfInBounds_toArray, List.set_cons_zero, List.set_cons_succ]
        refine takeD (i := 7) (d := some 35) (v := ?_) _ rfl rfl (by kernel_rfl) (by kernel_rfl) (by kernel_rfl) (fun _ _ _ h => h) (Or.inl ⟨by rfl, ?_⟩) (by assumption) ?_
        rotate_left
        · (intro W hSw; (try dsimp only at hSw); go_simp; try with_reducible rfl)
        try simp only [Act.put, List.setIfInBounds_toArray, List.set_cons_zero, List.set_cons_succ]
        refine takeD (i := 8) (d := some 43) (v := ?_) _ rfl rfl (by kernel_rfl) (by kernel_rfl) (by kernel_rfl) (fun _ _ _ h => h) (Or.inl ⟨by rfl, ?_⟩) (by assumption) ?_
        rotate_left
        · (intro W hSw; (try dsimp only at hSw); go_simp; try with_reducible rfl)
        try simp only [Act.put, List.setIfInBounds_toArray, List.set_cons_zero, List.set_cons_succ]
        refine takeD (i := 9) (d := some 44) (v := ?_) _ rfl rfl (by kernel_rfl) (by kernel_rfl) (by kernel_rfl) (fun _ _ _ h => h) (Or.inl ⟨by rfl, ?_⟩) (by assumption) ?_
        rotate_left
        · (intro W hSw; (try dsimp only at hSw); go_simp; try with_reducible rfl)
        try simp only [Act.put, List.setIfInBounds_toArray, List.set_cons_zero, List.set_cons_succ]
        refine wpAnyH_ready (rs := [11]) (by kernel_rfl) (by simp) ?_
        refine AllReadyH.cons rfl (fun K hK => ?_) AllReadyH.nil
        go_simp
        refine hK.out _ _ ?_ (fun hHeld => ?_)
        · try dsimp only
          exact ⟨hHeld.1.setCell (p := ⟨U1.heap.size, 0, none⟩) hG0 _, (World.cell?_setCell_far _ ⟨U1.heap.size, 0, none⟩ ⟨w.heap.size, 0, none⟩ _ (by show U1.heap.size ≠ w.heap.size; have zc1 := zs1.out; have zc2 := zs2.out; have zc3 := zs3.out; omega)).trans hHeld.2.1, (World.cell?_setCell_far _ ⟨U1.heap.size, 0, none⟩ ⟨w.heap.size + 1, 0, none⟩ _ (by show U1.heap.size ≠ w.heap.size + 1; have zc1 := zs1.out; have zc2 := zs2.out; have zc3 := zs3.out; omega)).trans hHeld.2.2.1, (World.cell?_setCell_far _ ⟨U1.heap.size, 0, none⟩ ⟨w.heap.size + 1 + 1, 0, none⟩ _ (by show U1.heap.size ≠ w.heap.size + 1 + 1; have zc1 := zs1.out; have zc2 := zs2.out; have zc3 := zs3.out; omega)).trans hHeld.2.2.2⟩
        clear hK K
        try simp only [Act.put, List.setIfInBounds_toArray, List.set_cons_zero, List.set_cons_succ]
        refine takeD (i := 12) (d := some 9) (v := ?_) _ rfl rfl (by kernel_rfl) (by kernel_rfl) (by kernel_rfl) (fun _ _ _ h => h) (Or.inl ⟨by rfl, ?_⟩) (by assumption) ?_
        rotate_left
        · (intro W hSw; (try dsimp only at hSw); go_simp; try with_reducible rfl)
        try simp only [Act.put, List.setIfInBounds_toArray, List.set_cons_zero, List.set_cons_succ]
        refine wpAnyH_done (by kernel_rfl) ?_ _
        go_wp2_with fail
        go_meet
        exact ⟨_, AS, NS, CS, rfl, rfl, own_base (ownsRow_setCell_below os (a := ⟨U1.heap.size, 0, none⟩) hGS _) hZS, by simp [go_sem, dG], hG0, by simpa using hG, hHeld.1⟩
    · go_simp
      have hb : Below w3.drew.heap.size w3.drew (w3.alloc (.cells #[.slice none 0 0] 28)).drew := al (Below.refl _ _)
      have dG : (w3.alloc (.cells #[.slice none 0 0] 28)).drew.cell? ⟨w3.heap.size, 0, none⟩ = some (.slice none 0 0) := by simp
      have fG : (w3.alloc (.cells #[.slice none 0 0] 28)).drew.frozen? ⟨w3.heap.size, 0, none⟩ = false := by simp [go_sem]
      have hG : w3.heap.size < (w3.alloc (.cells #[.slice none 0 0] 28)).drew.heap.size := by simp
      have hG0 : w3.heap.size ≤ w3.heap.size := hHeld.1.size
      refine hK.out _ _ ?_ (fun hHeld => ?_)
      · try dsimp only
        first | assumption | (refine sz3 ?_ hb rfl; assumption)
      clear hK K
      try simp only [Act.put, List.setIfInBounds_toArray, List.set_cons_zero, List.set_cons_succ]
      refine wpAnyH_ready (rs := [1]) (by kernel_rfl) (by simp) ?_
      refine AllReadyH.cons rfl (fun K hK => ?_) AllReadyH.nil
      go_simp
      refine (toRecord_any A0 n0 c0 l0 _ q0 (h0.below (B3.trans (hHeld.1.mono B3.size)))).mono ?_; rintro e U1 ⟨AX0, NX0, CX0, rfl, ox0, hb⟩
      try go_wp2_with fail
      replace dG := kcell hb dG
      replace fG := kfro hb hG fG
      replace hG := Nat.lt_of_lt_of_le hG hb.size
      refine hK.out _ _ ?_ (fun hHeld => ?_)
      · try dsimp only
        first | assumption | (refine sz3 ?_ hb rfl; assumption)
      clear hK K
      try simp only [Act.put, List.setIfInBounds_toArray, List.set_cons_zero, List.set_cons_succ]
      refine wpAnyH_ready (rs := [3]) (by kernel_rfl) (by simp) ?_
      refine AllReadyH.cons rfl (fun K hK => ?_) AllReadyH.nil
      go_simp
      refine (toRecord_any A1 n1 c1 l1 _ q1 (h1.below (B3.trans (hHeld.1.mono B3.size)))).mono ?_; rintro e U3 ⟨AX1, NX1, CX1, rfl, ox1, hb⟩
      try go_wp2_with fail
      replace ox0 := own_below ox0 hb
      replace dG := kcell hb dG
      replace fG := kfro hb hG fG
      replace hG := Nat.lt_of_lt_of_le hG hb.size
      refine hK.out _ _ ?_ (fun hHeld => ?_)
      · try dsimp only
        first | assumption | (refine sz3 ?_ hb rfl; assumption)
      clear hK K
      try simp only [Act.put, List.setIfInBounds_toArray, List.set_cons_zero, List.set_cons_succ]
      refine wpAnyH_ready (rs := [5]) (by kernel_rfl) (by simp) ?_
      refine AllReadyH.cons rfl (fun K hK => ?_) AllReadyH.nil
      go_simp
      refine (toRecord_any A2 n2 c2 l2 _ q2 (h2.below (B3.trans (hHeld.1.mono B3.size)))).mono ?_; rintro e U5 ⟨AX2, NX2, CX2, rfl, ox2, hb⟩
      try go_wp2_with fail
      replace ox0 := own_below ox0 hb
      replace ox1 := own_below ox1 hb
      replace dG := kcell hb dG
      replace fG := kfro hb hG fG
      replace hG := Nat.lt_of_lt_of_le hG hb.size
      refine hK.out _ _ ?_ (fun hHeld => ?_)
      · try dsimp only
        first | assumption | (refine sz3 ?_ hb rfl; assumption)
      clear hK K
      try simp only [Act.put, List.setIfInBounds_toArray, List.set_cons_zero, List.set_cons_succ]
      refine wpAnyH_ready (rs := [6]) (by kernel_rfl) (by simp) ?_
      refine AllReadyH.cons rfl (fun K hK => ?_) AllReadyH.nil
      go_simp
      have hGS := hG
      have hZS := hHeld.1.size
      refine (specMergeRecords_any AX0 AX1 AX2 NX0 NX1 NX2 CX0 CX1 CX2 l0 l1 l2 lr r _ (by have q1 := own_lenF ox0; omega) (by have q1 := own_lenF ox1; omega) (by have q1 := own_lenF ox2; omega) (Rd.of_own ox0) (Rd.of_own ox1) (Rd.of_own ox2) o0 o1 o2 HR.out).mono ?_; rintro e U6 ⟨AS, NS, CS, rfl, os, hb⟩
      try go_wp2_with fail
      replace dG := kcell hb dG
      replace fG := kfro hb hG fG
      replace hG := Nat.lt_of_lt_of_le hG hb.size
      have RS := own_rng os
      refine hK.out _ _ ?_ (fun hHeld => ?_)
      · try dsimp only
        first | assumption | (refine sz3 ?_ hb rfl; assumption)
      clear hK K
      try simp only [Act.put, List.setIfInBounds_toArray, List.set_cons_zero, List.set_cons_succ]
      refine takeD (i := 7) (d := some 35) (v := ?_) _ rfl rfl (by kernel_rfl) (by kernel_rfl) (by kernel_rfl) (fun _ _ _ h => h) (Or.inl ⟨by rfl, ?_⟩) (by assumption) ?_
      rotate_left
      · (intro W hSw; (try dsimp only at hSw); go_simp; try with_reducible rfl)
      try simp only [Act.put, List.setIfInBounds_toArray, List.set_cons_zero, List.set_cons_succ]
      refine takeD (i := 8) (d := some 43) (v := ?_) _ rfl rfl (by kernel_rfl) (by kernel_rfl) (by kernel_rfl) (fun _ _ _ h => h) (Or.inl ⟨by rfl, ?_⟩) (by assumption) ?_
      rotate_left
      · (intro W hSw; (try dsimp only at hSw); go_simp; try with_reducible rfl)
      try simp only [Act.put, List.setIfInBounds_toArray, List.set_cons_zero, List.set_cons_succ]
      refine takeD (i := 9) (d := some 44) (v := ?_) _ rfl rfl (by kernel_rfl) (by kernel_rfl) (by kernel_rfl) (fun _ _ _ h => h) (Or.inl ⟨by rfl, ?_⟩) (by assumption) ?_
      rotate_left
      · (intro W hSw; (try dsimp only at hSw); go_simp; try with_reducible rfl)
      try simp only [Act.put, List.setIfInBounds_toArray, List.set_cons_zero, List.set_cons_succ]
      refine wpAnyH_ready (rs := [11]) (by kernel_rfl) (by simp) ?_
      refine AllReadyH.cons rfl (fun K hK => ?_) AllReadyH.nil
      go_simp
      refine hK.out _ _ ?_ (fun hHeld => ?_)
      · try dsimp only
        exact ⟨hHeld.1.setCell (p := ⟨w3.heap.size, 0, none⟩) hG0 _, (World.cell?_setCell_far _ ⟨w3.heap.size, 0, none⟩ ⟨w.heap.size, 0, none⟩ _ (by show w3.heap.size ≠ w.heap.size; have zc1 := zs1.out; have zc2 := zs2.out; have zc3 := zs3.out; omega)).trans hHeld.2.1, (World.cell?_setCell_far _ ⟨w3.heap.size, 0, none⟩ ⟨w.heap.size + 1, 0, none⟩ _ (by show w3.heap.size ≠ w.heap.size + 1; have zc1 := zs1.out; have zc2 := zs2.out; have zc3 := zs3.out; omega)).trans hHeld.2.2.1, (World.cell?_setCell_far _ ⟨w3.heap.size, 0, none⟩ ⟨w.heap.size + 1 + 1, 0, none⟩ _ (by show w3.heap.size ≠ w.heap.size + 1 + 1; have zc1 := zs1.out; have zc2 := zs2.out; have zc3 := zs3.out; omega)).trans hHeld.2.2.2⟩
      clear hK K
      try simp only [Act.put, List.setIfInBounds_toArray, List.set_cons_zero, List.set_cons_succ]
      refine takeD (i := 12) (d := some 9) (v := ?_) _ rfl rfl (by kernel_rfl) (by kernel_rfl) (by kernel_rfl) (fun _ _ _ h => h) (Or.inl ⟨by rfl, ?_⟩) (by assumption) ?_
      rotate_left
      · (intro W hSw; (try dsimp only at hSw); go_simp; try with_reducible rfl)
      try simp only [Act.put, List.setIfInBounds_toArray, List.set_cons_zero, List.set_cons_succ]
      refine wpAnyH_done (by kernel_rfl) ?_ _
      go_wp2_with fail
      go_meet
      exact ⟨_, AS, NS, CS, rfl, rfl, own_base (ownsRow_setCell_below os (a := ⟨w3.heap.size, 0, none⟩) hGS _) hZS, by simp [go_sem, dG], hG0, by simpa using hG, hHeld.1⟩
  case rest =>
  obtain ⟨gw0, A4, n4, c4, rfl, rfl, o4, dw0N, hgew0, hltw0, b4⟩ := hcut
  obtain ⟨w4, hw4⟩ : ∃ x, x = wc := ⟨_, rfl⟩
  rw [← hw4] at o4 dw0N hltw0 b4 ⊢
  clear hw4
  have R4 := Lib.hid (own_rng o4)
  have hn4 : n4 ≤ 2097152 := by have q1 := own_lenF o4; omega
  have B4 : Below w.heap.size w w4 := B3.trans (b4.mono B3.size)
  have zs4 : Hid (w3.heap.size ≤ w4.heap.size) := Lib.hid (b4.size)
  replace dp0 := kcell b4 dp0
  replace dp1 := kcell b4 dp1
  replace dp2 := kcell b4 dp2
  clear b4
  have dw0 := dw0N
  clear dw0N
  go_wp2_with fail
  refine (toRecord_any A0 n0 c0 l0 _ q0 (h0.below B4)).mono ?_
  rintro e w5 ⟨A5, n5, c5, rfl, o5, b5⟩
  have R5 := Lib.hid (own_rng o5)
  have hn5 : n5 ≤ 2097152 := by have q1 := own_lenF o5; omega
  have B5 : Below w.heap.size w w5 := B4.trans (b5.mono B4.size)
  have zs5 : Hid (w4.heap.size ≤ w5.heap.size) := Lib.hid (b5.size)
  replace o4 := own_below o4 b5
  replace dp0 := kcell b5 dp0
  replace dp1 := kcell b5 dp1
  replace dp2 := kcell b5 dp2
  replace dw0 := kcell b5 dw0
  clear b5
  replace o4 := own_below o4 (al'' (.cells #[.slice A5 n5 c5] 28))
  replace o5 := own_below o5 (al'' (.cells #[.slice A5 n5 c5] 28))
  replace dp0 := kcell (al'' (.cells #[.slice A5 n5 c5] 28)) dp0
  replace dp1 := kcell (al'' (.cells #[.slice A5 n5 c5] 28)) dp1
  replace dp2 := kcell (al'' (.cells #[.slice A5 n5 c5] 28)) dp2
  replace dw0 := kcell (al'' (.cells #[.slice A5 n5 c5] 28)) dw0
  have dx0 : (w5.alloc (.cells #[.slice A5 n5 c5] 28)).cell? ⟨w5.heap.size, 0, none⟩ = some (.slice A5 n5 c5) := by simp
  have B6 : Below w.heap.size w (w5.alloc (.cells #[.slice A5 n5 c5] 28)) := al B5
  have zs6 : Hid (w5.heap.size < (w5.alloc (.cells #[.slice A5 n5 c5] 28)).heap.size) := Lib.hid (by simp)
  go_wp2_with fail
  refine (toRecord_any A1 n1 c1 l1 _ q1 (h1.below B6)).mono ?_
  rintro e w7 ⟨A7, n7, c7, rfl, o7, b7⟩
  have R7 := Lib.hid (own_rng o7)
  have hn7 : n7 ≤ 2097152 := by have q1 := own_lenF o7; omega
  have B7 : Below w.heap.size w w7 := B6.trans (b7.mono B6.size)
  have zs7 : Hid ((w5.alloc (.cells #[.slice A5 n5 c5] 28)).heap.size ≤ w7.heap.size) := Lib.hid (b7.size)
  replace o4 := own_below o4 b7
  replace o5 := own_below o5 b7
  replace dp0 := kcell b7 dp0
  replace dp1 := kcell b7 dp1
  replace dp2 := kcell b7 dp2
  replace dw0 := kcell b7 dw0
  replace dx0 := kcell b7 dx0
  clear b7
  replace o4 := own_below o4 (al'' (.cells #[.slice A7 n7 c7] 28))
  replace o5 := own_below o5 (al'' (.cells #[.slice A7 n7 c7] 28))
  replace o7 := own_below o7 (al'' (.cells #[.slice A7 n7 c7] 28))
  replace dp0 := kcell (al'' (.cells #[.slice A7 n7 c7] 28)) dp0
  replace dp1 := kcell (al'' (.cells #[.slice A7 n7 c7] 28)) dp1
  replace dp2 := kcell (al'' (.cells #[.slice A7 n7 c7] 28)) dp2
  replace dw0 := kcell (al'' (.cells #[.slice A7 n7 c7] 28)) dw0
  replace dx0 := kcell (al'' (.cells #[.slice A7 n7 c7] 28)) dx0
  have dx1 : (w7.alloc (.cells #[.slice A7 n7 c7] 28)).cell? ⟨w7.heap.size, 0, none⟩ = some (.slice A7 n7 c7) := by simp
  have B8 : Below w.heap.size w (w7.alloc (.cells #[.slice A7 n7 c7] 28)) := al B7
  have zs8 : Hid (w7.heap.size < (w7.alloc (.cells #[.slice A7 n7 c7] 28)).heap.size) := Lib.hid (by simp)
  go_wp2_with fail
  refine (toRecord_any A2 n2 c2 l2 _ q2 (h2.below B8)).mono ?_
  rintro e w9 ⟨A9, n9, c9, rfl, o9, b9⟩
  have R9 := Lib.hid (own_rng o9)
  have hn9 : n9 ≤ 2097152 := by have q1 := own_lenF o9; omega
  have B9 : Below w.heap.size w w9 := B8.trans (b9.mono B8.size)
  have zs9 : Hid ((w7.alloc (.cells #[.slice A7 n7 c7] 28)).heap.size ≤ w9.heap.size) := Lib.hid (b9.size)
  replace o4 := own_below o4 b9
  replace o5 := own_below o5 b9
  replace o7 := own_below o7 b9
  replace dp0 := kcell b9 dp0
  replace dp1 := kcell b9 dp1
  replace dp2 := kcell b9 dp2
  replace dw0 := kcell b9 dw0
  replace dx0 := kcell b9 dx0
  replace dx1 := kcell b9 dx1
  clear b9
  replace o4 := own_below o4 (al'' (.cells #[.slice A9 n9 c9] 28))
  replace o5 := own_below o5 (al'' (.cells #[.slice A9 n9 c9] 28))
  replace o7 := own_below o7 (al'' (.cells #[.slice A9 n9 c9] 28))
  replace o9 := own_below o9 (al'' (.cells #[.slice A9 n9 c9] 28))
  replace dp0 := kcell (al'' (.cells #[.slice A9 n9 c9] 28)) dp0
  replace dp1 := kcell (al'' (.cells #[.slice A9 n9 c9] 28)) dp1
  replace dp2 := kcell (al'' (.cells #[.slice A9 n9 c9] 28)) dp2
  replace dw0 := kcell (al'' (.cells #[.slice A9 n9 c9] 28)) dw0
  replace dx0 := kcell (al'' (.cells #[.slice A9 n9 c9] 28)) dx0
  replace dx1 := kcell (al'' (.cells #[.slice A9 n9 c9] 28)) dx1
  have dx2 : (w9.alloc (.cells #[.slice A9 n9 c9] 28)).cell? ⟨w9.heap.size, 0, none⟩ = some (.slice A9 n9 c9) := by simp
  have B10 : Below w.heap.size w (w9.alloc (.cells #[.slice A9 n9 c9] 28)) := al B9
  have zs10 : Hid (w9.heap.size < (w9.alloc (.cells #[.slice A9 n9 c9] 28)).heap.size) := Lib.hid (by simp)
  go_wp2_with fail
  refine (implMergeRecords_any A5 A7 A9 n5 n7 n9 c5 c7 c9 l0 l1 l2 lr r _ (by have q1 := own_lenF o5; omega) (by have q1 := own_lenF o7; omega) (by have q1 := own_lenF o9; omega) (Rd.of_own o5) (Rd.of_own o7) (Rd.of_own o9) o0 o1 o2 HR.out).mono ?_
  rintro e w11 ⟨A11, n11, c11, rfl, o11, b11⟩
  have R11 := Lib.hid (own_rng o11)
  have hn11 : n11 ≤ 2097152 := by have q1 := own_lenF o11; omega
  have B11 : Below w.heap.size w w11 := B10.trans (b11.mono B10.size)
  have zs11 : Hid ((w9.alloc (.cells #[.slice A9 n9 c9] 28)).heap.size ≤ w11.heap.size) := Lib.hid (b11.size)
  replace o4 := own_below o4 b11
  replace o5 := own_below o5 b11
  replace o7 := own_below o7 b11
  replace o9 := own_below o9 b11
  replace dp0 := kcell b11 dp0
  replace dp1 := kcell b11 dp1
  replace dp2 := kcell b11 dp2
  replace dw0 := kcell b11 dw0
  replace dx0 := kcell b11 dx0
  replace dx1 := kcell b11 dx1
  replace dx2 := kcell b11 dx2
  clear b11
  replace o4 := own_below o4 (al'' (.cells #[.slice A11 n11 c11] 28))
  replace o5 := own_below o5 (al'' (.cells #[.slice A11 n11 c11] 28))
  replace o7 := own_below o7 (al'' (.cells #[.slice A11 n11 c11] 28))
  replace o9 := own_below o9 (al'' (.cells #[.slice A11 n11 c11] 28))
  replace o11 := own_below o11 (al'' (.cells #[.slice A11 n11 c11] 28))
  replace dp0 := kcell (al'' (.cells #[.slice A11 n11 c11] 28)) dp0
  replace dp1 := kcell (al'' (.cells #[.slice A11 n11 c11] 28)) dp1
  replace dp2 := kcell (al'' (.cells #[.slice A11 n11 c11] 28)) dp2
  replace dw0 := kcell (al'' (.cells #[.slice A11 n11 c11] 28)) dw0
  replace dx0 := kcell (al'' (.cells #[.slice A11 n11 c11] 28)) dx0
  replace dx1 := kcell (al'' (.cells #[.slice A11 n11 c11] 28)) dx1
  replace dx2 := kcell (al'' (.cells #[.slice A11 n11 c11] 28)) dx2
  have dg0 : (w11.alloc (.cells #[.slice A11 n11 c11] 28)).cell? ⟨w11.heap.size, 0, none⟩ = some (.slice A11 n11 c11) := by simp
  have B12 : Below w.heap.size w (w11.alloc (.cells #[.slice A11 n11 c11] 28)) := al B11
  have zs12 : Hid (w11.heap.size < (w11.alloc (.cells #[.slice A11 n11 c11] 28)).heap.size) := Lib.hid (by simp)
  go_wp2_with fail
  refine (eqRecord_same A11 A4 n11 n4 c11 c4 lr _ (by unfold maxLen; omega) (Rd.of_own o11) (Rd.of_own o4)).mono ?_
  rintro e w13 ⟨rfl, b13⟩
  have B13 : Below w.heap.size w w13 := B12.trans (b13.mono B12.size)
  have zs13 : Hid ((w11.alloc (.cells #[.slice A11 n11 c11] 28)).heap.size ≤ w13.heap.size) := Lib.hid (b13.size)
  replace o4 := own_below o4 b13
  replace o5 := own_below o5 b13
  replace o7 := own_below o7 b13
  replace o9 := own_below o9 b13
  replace o11 := own_below o11 b13
  replace dp0 := kcell b13 dp0
  replace dp1 := kcell b13 dp1
  replace dp2 := kcell b13 dp2
  replace dw0 := kcell b13 dw0
  replace dx0 := kcell b13 dx0
  replace dx1 := kcell b13 dx1
  replace dx2 := kcell b13 dx2
  replace dg0 := kcell b13 dg0
  clear b13
  go_wp2
  go_region_held3 (fun W => Below w13.heap.size w13 W ∧ W.cell? ⟨w.heap.size, 0, none⟩ = some (.slice A0 n0 c0) ∧ W.cell? ⟨w.heap.size + 1, 0, none⟩ = some (.slice A1 n1 c1) ∧ W.cell? ⟨w.heap.size + 1 + 1, 0, none⟩ = some (.slice A2 n2 c2) ∧ W.cell? ⟨gw0, 0, none⟩ = some (.slice A4 n4 c4) ∧ W.cell? ⟨w5.heap.size, 0, none⟩ = some (.slice A5 n5 c5) ∧ W.cell? ⟨w7.heap.size, 0, none⟩ = some (.slice A7 n7 c7) ∧ W.cell? ⟨w9.heap.size, 0, none⟩ = some (.slice A9 n9 c9) ∧ W.cell? ⟨w11.heap.size, 0, none⟩ = some (.slice A11 n11 c11))
    (first | assumption | (refine sz8 ?_ hb rfl; assumption) | exact ⟨(Below.refl _ _).drew, dp0, dp1, dp2, dw0, dx0, dx1, dx2, dg0⟩)
    (first
      | (go_at_call 21; refine (toRecord_any A0 n0 c0 l0 _ q0 (h0.below (B13.trans ((And.left ‹Below w13.heap.size w13 _ ∧ _›).mono B13.size)))).mono ?_; rintro e W1 ⟨Ae, ne, ce, rfl, oe, hb⟩)
      | (go_at_call 23; refine (eqRecord_same A5 _ n5 _ c5 _ l0 _ (by unfold maxLen; omega) ((Rd.of_own o5).below (And.left ‹Below w13.heap.size w13 _ ∧ _›)) (Rd.of_own ‹_›)).mono ?_; rintro e w14 ⟨rfl, hb⟩))
  obtain ⟨b14, dp0, dp1, dp2, dw0, dx0, dx1, dx2, dg0⟩ := ‹Below w13.heap.size w13 w14 ∧ _›
  have B14 := B13.trans (b14.mono B13.size)
  have zs14 : Hid (w13.heap.size ≤ w14.heap.size) := Lib.hid (b14.size)
  replace o4 := own_below o4 b14
  replace o5 := own_below o5 b14
  replace o7 := own_below o7 b14
  replace o9 := own_below o9 b14
  replace o11 := own_below o11 b14
  clear b14
  go_wp2
  go_region_held3 (fun W => Below w14.heap.size w14 W ∧ W.cell? ⟨w.heap.size, 0, none⟩ = some (.slice A0 n0 c0) ∧ W.cell? ⟨w.heap.size + 1, 0, none⟩ = some (.slice A1 n1 c1) ∧ W.cell? ⟨w.heap.size + 1 + 1, 0, none⟩ = some (.slice A2 n2 c2) ∧ W.cell? ⟨gw0, 0, none⟩ = some (.slice A4 n4 c4) ∧ W.cell? ⟨w5.heap.size, 0, none⟩ = some (.slice A5 n5 c5) ∧ W.cell? ⟨w7.heap.size, 0, none⟩ = some (.slice A7 n7 c7) ∧ W.cell? ⟨w9.heap.size, 0, none⟩ = some (.slice A9 n9 c9) ∧ W.cell? ⟨w11.heap.size, 0, none⟩ = some (.slice A11 n11 c11))
    (first | assumption | (refine sz8 ?_ hb rfl; assumption) | exact ⟨(Below.refl _ _).drew, dp0, dp1, dp2, dw0, dx0, dx1, dx2, dg0⟩)
    (first
      | (go_at_call 21; refine (toRecord_any A1 n1 c1 l1 _ q1 (h1.below (B14.trans ((And.left ‹Below w14.heap.size w14 _ ∧ _›).mono B14.size)))).mono ?_; rintro e W1 ⟨Ae, ne, ce, rfl, oe, hb⟩)
      | (go_at_call 23; refine (eqRecord_same A7 _ n7 _ c7 _ l1 _ (by unfold maxLen; omega) ((Rd.of_own o7).below (And.left ‹Below w14.heap.size w14 _ ∧ _›)) (Rd.of_own ‹_›)).mono ?_; rintro e w15 ⟨rfl, hb⟩))
  obtain ⟨b15, dp0, dp1, dp2, dw0, dx0, dx1, dx2, dg0⟩ := ‹Below w14.heap.size w14 w15 ∧ _›
  have B15 := B14.trans (b15.mono B14.size)
  have zs15 : Hid (w14.heap.size ≤ w15.heap.size) := Lib.hid (b15.size)
  replace o4 := own_below o4 b15
  replace o5 := own_below o5 b15
  replace o7 := own_below o7 b15
  replace o9 := own_below o9 b15
  replace o11 := own_below o11 b15
  clear b15
  go_wp2
  go_region_held3 (fun W => Below w15.heap.size w15 W ∧ W.cell? ⟨w.heap.size, 0, none⟩ = some (.slice A0 n0 c0) ∧ W.cell? ⟨w.heap.size + 1, 0, none⟩ = some (.slice A1 n1 c1) ∧ W.cell? ⟨w.heap.size + 1 + 1, 0, none⟩ = some (.slice A2 n2 c2) ∧ W.cell? ⟨gw0, 0, none⟩ = some (.slice A4 n4 c4) ∧ W.cell? ⟨w5.heap.size, 0, none⟩ = some (.slice A5 n5 c5) ∧ W.cell? ⟨w7.heap.size, 0, none⟩ = some (.slice A7 n7 c7) ∧ W.cell? ⟨w9.heap.size, 0, none⟩ = some (.slice A9 n9 c9) ∧ W.cell? ⟨w11.heap.size, 0, none⟩ = some (.slice A11 n11 c11))
    (first | assumption | (refine sz8 ?_ hb rfl; assumption) | exact ⟨(Below.refl _ _).drew, dp0, dp1, dp2, dw0, dx0, dx1, dx2, dg0⟩)
    (first
      | (go_at_call 21; refine (toRecord_any A2 n2 c2 l2 _ q2 (h2.below (B15.trans ((And.left ‹Below w15.heap.size w15 _ ∧ _›).mono B15.size)))).mono ?_; rintro e W1 ⟨Ae, ne, ce, rfl, oe, hb⟩)
      | (go_at_call 23; refine (eqRecord_same A9 _ n9 _ c9 _ l2 _ (by unfold maxLen; omega) ((Rd.of_own o9).below (And.left ‹Below w15.heap.size w15 _ ∧ _›)) (Rd.of_own ‹_›)).mono ?_; rintro e w16 ⟨rfl, hb⟩))
  obtain ⟨b16, dp0, dp1, dp2, dw0, dx0, dx1, dx2, dg0⟩ := ‹Below w15.heap.size w15 w16 ∧ _›
  have B16 := B15.trans (b16.mono B15.size)
  have zs16 : Hid (w15.heap.size ≤ w16.heap.size) := Lib.hid (b16.size)
  replace o4 := own_below o4 b16
  replace o5 := own_below o5 b16
  replace o7 := own_below o7 b16
  replace o9 := own_below o9 b16
  replace o11 := own_below o11 b16
  clear b16
  obtain ⟨e0, he0⟩ : ∃ q, q = 1 + 2 * n5 := ⟨_, rfl⟩
  have He0 := Lib.hid he0
  have le0 : e0 ≤ 1099511627776 := by omega
  have pe0 : 0 < e0 := by omega
  have ie0 : ¬ ((e0 : Nat) : Int) < 0 := by omega
  clear he0
  go_wp2_with fail
  refine (markRecord_q A5 n5 c5 _ 1 e0 _ _ (by omega) (by have e := He0.out; omega) He0.out o5).mono ?_
  rintro e w17 ⟨rfl, o5m, g17⟩
  have B17 : Below w.heap.size w w17 := B16.trans (grown_below g17 B16.size (fun ad h => by have r := R5.out ad h; have zc1 := zs1.out; have zc2 := zs2.out; have zc3 := zs3.out; have zc4 := zs4.out; omega))
  replace o4 := own_grown o4 g17 (sep_rng R4.out R5.out (.inl (by  omega)))
  replace o7 := own_grown o7 g17 (sep_rng R7.out R5.out (.inr (by have zc6 := zs6.out; omega)))
  replace o9 := own_grown o9 g17 (sep_rng R9.out R5.out (.inr (by have zc6 := zs6.out; have zc7 := zs7.out; have zc8 := zs8.out; omega)))
  replace o11 := own_grown o11 g17 (sep_rng R11.out R5.out (.inr (by have zc6 := zs6.out; have zc7 := zs7.out; have zc8 := zs8.out; have zc9 := zs9.out; have zc10 := zs10.out; omega)))
  replace dp0 := cell_apart g17 dp0 (fun ad h => by have r := R5.out ad h; have zc1 := zs1.out; have zc2 := zs2.out; have zc3 := zs3.out; have zc4 := zs4.out; omega)
  replace dp1 := cell_apart g17 dp1 (fun ad h => by have r := R5.out ad h; have zc1 := zs1.out; have zc2 := zs2.out; have zc3 := zs3.out; have zc4 := zs4.out; omega)
  replace dp2 := cell_apart g17 dp2 (fun ad h => by have r := R5.out ad h; have zc1 := zs1.out; have zc2 := zs2.out; have zc3 := zs3.out; have zc4 := zs4.out; omega)
  replace dw0 := cell_apart g17 dw0 (fun ad h => by have r := R5.out ad h;  omega)
  replace dx0 := cell_apart g17 dx0 (fun ad h => by have r := R5.out ad h;  omega)
  replace dx1 := cell_apart g17 dx1 (fun ad h => by have r := R5.out ad h; have zc6 := zs6.out; have zc7 := zs7.out; omega)
  replace dx2 := cell_apart g17 dx2 (fun ad h => by have r := R5.out ad h; have zc6 := zs6.out; have zc7 := zs7.out; have zc8 := zs8.out; have zc9 := zs9.out; omega)
  replace dg0 := cell_apart g17 dg0 (fun ad h => by have r := R5.out ad h; have zc6 := zs6.out; have zc7 := zs7.out; have zc8 := zs8.out; have zc9 := zs9.out; have zc10 := zs10.out; have zc11 := zs11.out; omega)
  replace o5 := o5m
  clear o5m
  have zs17 : Hid (w16.heap.size ≤ w17.heap.size) := Lib.hid (g17.size)
  clear g17
  obtain ⟨e1, he1⟩ : ∃ q, q = e0 + 2 * n7 := ⟨_, rfl⟩
  have He1 := Lib.hid he1
  have le1 : e1 ≤ 1099511627776 := by have y0 := He0.out; omega
  have pe1 : 0 < e1 := by omega
  have ie1 : ¬ ((e1 : Nat) : Int) < 0 := by omega
  clear he1
  go_wp2_with fail
  refine (markRecord_q A7 n7 c7 _ e0 e1 _ _ (by omega) (by have e := He1.out; omega) He1.out o7).mono ?_
  rintro e w18 ⟨rfl, o7m, g18⟩
  have B18 : Below w.heap.size w w18 := B17.trans (grown_below g18 B17.size (fun ad h => by have r := R7.out ad h; have zc1 := zs1.out; have zc2 := zs2.out; have zc3 := zs3.out; have zc4 := zs4.out; have zc5 := zs5.out; have zc6 := zs6.out; omega))
  replace o4 := own_grown o4 g18 (sep_rng R4.out R7.out (.inl (by have zc5 := zs5.out; have zc6 := zs6.out; omega)))
  replace o5 := own_grown o5 g18 (sep_rng R5.out R7.out (.inl (by have zc6 := zs6.out; omega)))
  replace o9 := own_grown o9 g18 (sep_rng R9.out R7.out (.inr (by have zc8 := zs8.out; omega)))
  replace o11 := own_grown o11 g18 (sep_rng R11.out R7.out (.inr (by have zc8 := zs8.out; have zc9 := zs9.out; have zc10 := zs10.out; omega)))
  replace dp0 := cell_apart g18 dp0 (fun ad h => by have r := R7.out ad h; have zc1 := zs1.out; have zc2 := zs2.out; have zc3 := zs3.out; have zc4 := zs4.out; have zc5 := zs5.out; have zc6 := zs6.out; omega)
  replace dp1 := cell_apart g18 dp1 (fun ad h => by have r := R7.out ad h; have zc1 := zs1.out; have zc2 := zs2.out; have zc3 := zs3.out; have zc4 := zs4.out; have zc5 := zs5.out; have zc6 := zs6.out; omega)
  replace dp2 := cell_apart g18 dp2 (fun ad h => by have r := R7.out ad h; have zc1 := zs1.out; have zc2 := zs2.out; have zc3 := zs3.out; have zc4 := zs4.out; have zc5 := zs5.out; have zc6 := zs6.out; omega)
  replace dw0 := cell_apart g18 dw0 (fun ad h => by have r := R7.out ad h; have zc5 := zs5.out; have zc6 := zs6.out; omega)
  replace dx0 := cell_apart g18 dx0 (fun ad h => by have r := R7.out ad h; have zc6 := zs6.out; omega)
  replace dx1 := cell_apart g18 dx1 (fun ad h => by have r := R7.out ad h;  omega)
  replace dx2 := cell_apart g18 dx2 (fun ad h => by have r := R7.out ad h; have zc8 := zs8.out; have zc9 := zs9.out; omega)
  replace dg0 := cell_apart g18 dg0 (fun ad h => by have r := R7.out ad h; have zc8 := zs8.out; have zc9 := zs9.out; have zc10 := zs10.out; have zc11 := zs11.out; omega)
  replace o7 := o7m
  clear o7m
  have zs18 : Hid (w17.heap.size ≤ w18.heap.size) := Lib.hid (g18.size)
  clear g18
  obtain ⟨e2, he2⟩ : ∃ q, q = e1 + 2 * n9 := ⟨_, rfl⟩
  have He2 := Lib.hid he2
  have le2 : e2 ≤ 1099511627776 := by have y0 := He0.out; have y1 := He1.out; omega
  have pe2 : 0 < e2 := by omega
  have ie2 : ¬ ((e2 : Nat) : Int) < 0 := by omega
  clear he2
  go_wp2_with fail
  refine (markRecord_q A9 n9 c9 _ e1 e2 _ _ (by omega) (by have e := He2.out; omega) He2.out o9).mono ?_
  rintro e w19 ⟨rfl, o9m, g19⟩
  have B19 : Below w.heap.size w w19 := B18.trans (grown_below g19 B18.size (fun ad h => by have r := R9.out ad h; have zc1 := zs1.out; have zc2 := zs2.out; have zc3 := zs3.out; have zc4 := zs4.out; have zc5 := zs5.out; have zc6 := zs6.out; have zc7 := zs7.out; have zc8 := zs8.out; omega))
  replace o4 := own_grown o4 g19 (sep_rng R4.out R9.out (.inl (by have zc5 := zs5.out; have zc6 := zs6.out; have zc7 := zs7.out; have zc8 := zs8.out; omega)))
  replace o5 := own_grown o5 g19 (sep_rng R5.out R9.out (.inl (by have zc6 := zs6.out; have zc7 := zs7.out; have zc8 := zs8.out; omega)))
  replace o7 := own_grown o7 g19 (sep_rng R7.out R9.out (.inl (by have zc8 := zs8.out; omega)))
  replace o11 := own_grown o11 g19 (sep_rng R11.out R9.out (.inr (by have zc10 := zs10.out; omega)))
  replace dp0 := cell_apart g19 dp0 (fun ad h => by have r := R9.out ad h; have zc1 := zs1.out; have zc2 := zs2.out; have zc3 := zs3.out; have zc4 := zs4.out; have zc5 := zs5.out; have zc6 := zs6.out; have zc7 := zs7.out; have zc8 := zs8.out; omega)
  replace dp1 := cell_apart g19 dp1 (fun ad h => by have r := R9.out ad h; have zc1 := zs1.out; have zc2 := zs2.out; have zc3 := zs3.out; have zc4 := zs4.out; have zc5 := zs5.out; have zc6 := zs6.out; have zc7 := zs7.out; have zc8 := zs8.out; omega)
  replace dp2 := cell_apart g19 dp2 (fun ad h => by have r := R9.out ad h; have zc1 := zs1.out; have zc2 := zs2.out; have zc3 := zs3.out; have zc4 := zs4.out; have zc5 := zs5.out; have zc6 := zs6.out; have zc7 := zs7.out; have zc8 := zs8.out; omega)
  replace dw0 := cell_apart g19 dw0 (fun ad h => by have r := R9.out ad h; have zc5 := zs5.out; have zc6 := zs6.out; have zc7 := zs7.out; have zc8 := zs8.out; omega)
  replace dx0 := cell_apart g19 dx0 (fun ad h => by have r := R9.out ad h; have zc6 := zs6.out; have zc7 := zs7.out; have zc8 := zs8.out; omega)
  replace dx1 := cell_apart g19 dx1 (fun ad h => by have r := R9.out ad h; have zc8 := zs8.out; omega)
  replace dx2 := cell_apart g19 dx2 (fun ad h => by have r := R9.out ad h;  omega)
  replace dg0 := cell_apart g19 dg0 (fun ad h => by have r := R9.out ad h; have zc10 := zs10.out; have zc11 := zs11.out; omega)
  replace o9 := o9m
  clear o9m
  have zs19 : Hid (w18.heap.size ≤ w19.heap.size) := Lib.hid (g19.size)
  clear g19
  go_wp2_with fail
  refine (eqRecord_same A11 A4 n11 n4 c11 c4 lr _ (by unfold maxLen; omega) (Rd.of_own o11) (Rd.of_own o4)).mono ?_
  rintro e w20 ⟨rfl, b20⟩
  have B20 : Below w.heap.size w w20 := B19.trans (b20.mono B19.size)
  have zs20 : Hid (w19.heap.size ≤ w20.heap.size) := Lib.hid (b20.size)
  replace o4 := own_below o4 b20
  replace o5 := own_below o5 b20
  replace o7 := own_below o7 b20
  replace o9 := own_below o9 b20
  replace o11 := own_below o11 b20
  replace dp0 := kcell b20 dp0
  replace dp1 := kcell b20 dp1
  replace dp2 := kcell b20 dp2
  replace dw0 := kcell b20 dw0
  replace dx0 := kcell b20 dx0
  replace dx1 := kcell b20 dx1
  replace dx2 := kcell b20 dx2
  replace dg0 := kcell b20 dg0
  clear b20
  obtain ⟨eg, heg⟩ : ∃ q, q = 1 + 2 * n11 := ⟨_, rfl⟩
  have Heg := Lib.hid heg
  have leg : eg ≤ 1099511627776 := by have y0 := He0.out; have y1 := He1.out; have y2 := He2.out; omega
  have peg : 0 < eg := by omega
  have ieg : ¬ ((eg : Nat) : Int) < 0 := by omega
  clear heg
  go_wp2_with fail
  refine (markRecord_q A11 n11 c11 _ 1 eg _ _ (by omega) (by have e := Heg.out; omega) Heg.out o11).mono ?_
  rintro e w21 ⟨rfl, o11m, g21⟩
  have B21 : Below w.heap.size w w21 := B20.trans (grown_below g21 B20.size (fun ad h => by have r := R11.out ad h; have zc1 := zs1.out; have zc2 := zs2.out; have zc3 := zs3.out; have zc4 := zs4.out; have zc5 := zs5.out; have zc6 := zs6.out; have zc7 := zs7.out; have zc8 := zs8.out; have zc9 := zs9.out; have zc10 := zs10.out; omega))
  replace o4 := own_grown o4 g21 (sep_rng R4.out R11.out (.inl (by have zc5 := zs5.out; have zc6 := zs6.out; have zc7 := zs7.out; have zc8 := zs8.out; have zc9 := zs9.out; have zc10 := zs10.out; omega)))
  replace o5 := own_grown o5 g21 (sep_rng R5.out R11.out (.inl (by have zc6 := zs6.out; have zc7 := zs7.out; have zc8 := zs8.out; have zc9 := zs9.out; have zc10 := zs10.out; omega)))
  replace o7 := own_grown o7 g21 (sep_rng R7.out R11.out (.inl (by have zc8 := zs8.out; have zc9 := zs9.out; have zc10 := zs10.out; omega)))
  replace o9 := own_grown o9 g21 (sep_rng R9.out R11.out (.inl (by have zc10 := zs10.out; omega)))
  replace dp0 := cell_apart g21 dp0 (fun ad h => by have r := R11.out ad h; have zc1 := zs1.out; have zc2 := zs2.out; have zc3 := zs3.out; have zc4 := zs4.out; have zc5 := zs5.out; have zc6 := zs6.out; have zc7 := zs7.out; have zc8 := zs8.out; have zc9 := zs9.out; have zc10 := zs10.out; omega)
  replace dp1 := cell_apart g21 dp1 (fun ad h => by have r := R11.out ad h; have zc1 := zs1.out; have zc2 := zs2.out; have zc3 := zs3.out; have zc4 := zs4.out; have zc5 := zs5.out; have zc6 := zs6.out; have zc7 := zs7.out; have zc8 := zs8.out; have zc9 := zs9.out; have zc10 := zs10.out; omega)
  replace dp2 := cell_apart g21 dp2 (fun ad h => by have r := R11.out ad h; have zc1 := zs1.out; have zc2 := zs2.out; have zc3 := zs3.out; have zc4 := zs4.out; have zc5 := zs5.out; have zc6 := zs6.out; have zc7 := zs7.out; have zc8 := zs8.out; have zc9 := zs9.out; have zc10 := zs10.out; omega)
  replace dw0 := cell_apart g21 dw0 (fun ad h => by have r := R11.out ad h; have zc5 := zs5.out; have zc6 := zs6.out; have zc7 := zs7.out; have zc8 := zs8.out; have zc9 := zs9.out; have zc10 := zs10.out; omega)
  replace dx0 := cell_apart g21 dx0 (fun ad h => by have r := R11.out ad h; have zc6 := zs6.out; have zc7 := zs7.out; have zc8 := zs8.out; have zc9 := zs9.out; have zc10 := zs10.out; omega)
  replace dx1 := cell_apart g21 dx1 (fun ad h => by have r := R11.out ad h; have zc8 := zs8.out; have zc9 := zs9.out; have zc10 := zs10.out; omega)
  replace dx2 := cell_apart g21 dx2 (fun ad h => by have r := R11.out ad h; have zc10 := zs10.out; omega)
  replace dg0 := cell_apart g21 dg0 (fun ad h => by have r := R11.out ad h;  omega)
  replace o11 := o11m
  clear o11m
  have zs21 : Hid (w20.heap.size ≤ w21.heap.size) := Lib.hid (g21.size)
  clear g21
  clear o5
  clear o7
  clear o9
  clear dx0
  clear dx1
  clear dx2
  go_wp2_with fail
  refine (heldRecord_q A11 n11 c11 1 eg _ (by omega) (by have e := Heg.out; omega) Heg.out (Rd.of_own o11)).mono ?_
  rintro e w22 ⟨rfl, b22⟩
  have B22 : Below w.heap.size w w22 := B21.trans (b22.mono B21.size)
  have zs22 : Hid (w21.heap.size ≤ w22.heap.size) := Lib.hid (b22.size)
  replace o4 := own_below o4 b22
  replace o11 := own_below o11 b22
  replace dp0 := kcell b22 dp0
  replace dp1 := kcell b22 dp1
  replace dp2 := kcell b22 dp2
  replace dw0 := kcell b22 dw0
  replace dg0 := kcell b22 dg0
  clear b22
  go_wp2_with fail
  go_cut [18, 19] (fun x y wx => ∃ (g : Nat) (A : Option Addr) (n c : Nat), x = .pointer (some ⟨g, 0, none⟩) ∧ y = .bool r ∧ wx.ownsRow w22.heap.size 91 2 (.slice A n c) n (fl lr) ∧ wx.cell? ⟨g, 0, none⟩ = some (.slice A n c) ∧ w22.heap.size ≤ g ∧ g < wx.heap.size ∧ Below w22.heap.size w22 wx)
  case first =>
    refine wp_region_held_drew (S := fun W => Below w22.heap.size w22 W ∧ W.cell? ⟨w.heap.size, 0, none⟩ = some (.slice A0 n0 c0) ∧ W.cell? ⟨w.heap.size + 1, 0, none⟩ = some (.slice A1 n1 c1) ∧ W.cell? ⟨w.heap.size + 1 + 1, 0, none⟩ = some (.slice A2 n2 c2)) (by kernel_rfl) ?_ (fun hHeld => ?_)
    · exact ⟨(Below.refl _ _).drew, dp0, dp1, dp2⟩
    refine takeD (i := 0) (d := some 116) (v := ?_) _ rfl rfl (by kernel_rfl) (by kernel_rfl) (by kernel_rfl) (fun _ _ _ h => h) (Or.inl ⟨by rfl, ?_⟩) (by assumption) ?_
    rotate_left
    · (intro W hSw; (try dsimp only at hSw); go_simp; try with_reducible rfl)
    try simp only [Act.put, List.setIfInBounds_toArray, List.set_cons_zero, List.set_cons_succ]
    refine takeD (i := 2) (d := some 118) (v := ?_) _ rfl rfl (by kernel_rfl) (by kernel_rfl) (by kernel_rfl) (fun _ _ _ h => h) (Or.inl ⟨by rfl, ?_⟩) (by assumption) ?_
    rotate_left
    · (intro W hSw; (try dsimp only at hSw); go_simp; try with_reducible rfl)
    try simp only [Act.put, List.setIfInBounds_toArray, List.set_cons_zero, List.set_cons_succ]
    refine takeD (i := 4) (d := some 120) (v := ?_) _ rfl rfl (by kernel_rfl) (by kernel_rfl) (by kernel_rfl) (fun _ _ _ h => h) (Or.inl ⟨by rfl, ?_⟩) (by assumption) ?_
    rotate_left
    · (intro W hSw; (try dsimp only at hSw); go_simp; try with_reducible rfl)
    try simp only [Act.put, List.setIfInBounds_toArray, List.set_cons_zero, List.set_cons_succ]
    refine wpAnyH_ready (rs := [1, 10]) (by kernel_rfl) (by simp) ?_
    refine AllReadyH.cons rfl (fun K hK => ?_) (AllReadyH.cons rfl (fun K hK => ?_) AllReadyH.nil)
    · go_simp
      refine (toRecord_any A0 n0 c0 l0 _ q0 (h0.below (B22.trans (hHeld.1.mono B22.size)))).mono ?_; rintro e U1 ⟨AX0, NX0, CX0, rfl, ox0, hb⟩
      try go_wp2_with fail
      refine hK.out _ _ ?_ (fun hHeld => ?_)
      · try dsimp only
        first | assumption | (refine sz3 ?_ hb rfl; assumption)
      clear hK K
      try simp only [Act.put, List.setIfInBounds_toArray, List.set_cons_zero, List.set_cons_succ]
      refine wpAnyH_ready (rs := [3, 10]) (by kernel_rfl) (by simp) ?_
      refine AllReadyH.cons rfl (fun K hK => ?_) (AllReadyH.cons rfl (fun K hK => ?_) AllReadyH.nil)
      · go_simp
        refine (toRecord_any A1 n1 c1 l1 _ q1 (h1.below (B22.trans (hHeld.1.mono B22.size)))).mono ?_; rintro e U3 ⟨AX1, NX1, CX1, rfl, ox1, hb⟩
        try go_wp2_with fail
        replace ox0 := own_below ox0 hb
        refine hK.out _ _ ?_ (fun hHeld => ?_)
        · try dsimp only
          first | assumption | (refine sz3 ?_ hb rfl; assumption)
        clear hK K
        try simp only [Act.put, List.setIfInBounds_toArray, List.set_cons_zero, List.set_cons_succ]
        refine wpAnyH_ready (rs := [5, 10]) (by kernel_rfl) (by simp) ?_
        refine AllReadyH.cons rfl (fun K hK => ?_) (AllReadyH.cons rfl (fun K hK => ?_) AllReadyH.nil)
        · go_simp
          refine (toRecord_any A2 n2 c2 l2 _ q2 (h2.below (B22.trans (hHeld.1.mono B22.size)))).mono ?_; rintro e U5 ⟨AX2, NX2, CX2, rfl, ox2, hb⟩
          try go_wp2_with fail
          replace ox0 := own_below ox0 hb
          replace ox1 := own_below ox1 hb
          refine hK.out _ _ ?_ (fun hHeld => ?_)
          · try dsimp only
            first | assumption | (refine sz3 ?_ hb rfl; assumption)
          clear hK K
          try simp only [Act.put, List.setIfInBounds_toArray, List.set_cons_zero, List.set_cons_succ]
          refine wpAnyH_ready (rs := [6, 10]) (by kernel_rfl) (by simp) ?_
          refine AllReadyH.cons rfl (fun K hK => ?_) (AllReadyH.cons rfl (fun K hK => ?_) AllReadyH.nil)
          · go_simp
            have hZS := hHeld.1.size
            refine (implMergeRecords_any AX0 AX1 AX2 NX0 NX1 NX2 CX0 CX1 CX2 l0 l1 l2 lr r _ (by have q1 := own_lenF ox0; omega) (by have q1 := own_lenF ox1; omega) (by have q1 := own_lenF ox2; omega) (Rd.of_own ox0) (Rd.of_own ox1) (Rd.of_own ox2) o0 o1 o2 HR.out).mono ?_; rintro e U6 ⟨AS, NS, CS, rfl, os, hb⟩
            try go_wp2_with fail
            have RS := own_rng os
            refine hK.out _ _ ?_ (fun hHeld => ?_)
            · try dsimp only
              first | assumption | (refine sz3 ?_ hb rfl; assumption)
            clear hK K
            try simp only [Act.put, List.setIfInBounds_toArray, List.set_cons_zero, List.set_cons_succ]
            refine takeD (i := 7) (d := some 115) (v := ?_) _ rfl rfl (by kernel_rfl) (by kernel_rfl) (by kernel_rfl) (fun _ _ _ h => h) (Or.inl ⟨by rfl, ?_⟩) (by assumption) ?_
            rotate_left
            · (intro W hSw; (try dsimp only at hSw); go_simp; try with_reducible rfl)
            try simp only [Act.put, List.setIfInBounds_toArray, List.set_cons_zero, List.set_cons_succ]
            refine takeD (i := 8) (d := some 123) (v := ?_) _ rfl rfl (by kernel_rfl) (by kernel_rfl) (by kernel_rfl) (fun _ _ _ h => h) (Or.inl ⟨by rfl, ?_⟩) (by assumption) ?_
            rotate_left
            · (intro W hSw; (try dsimp only at hSw); go_simp; try with_reducible rfl)
            try simp only [Act.put, List.setIfInBounds_toArray, List.set_cons_zero, List.set_cons_succ]
            refine takeD (i := 9) (d := some 124) (v := ?_) _ rfl rfl (by kernel_rfl) (by kernel_rfl) (by kernel_rfl) (fun _ _ _ h => h) (Or.inl ⟨by rfl, ?_⟩) (by assumption) ?_
            rotate_left
            · (intro W hSw; (try dsimp only at hSw); go_simp; try with_reducible rfl)
            try simp only [Act.put, List.setIfInBounds_toArray, List.set_cons_zero, List.set_cons_succ]
            refine wpAnyH_ready (rs := [10]) (by kernel_rfl) (by simp) ?_
            refine AllReadyH.cons rfl (fun K hK => ?_) AllReadyH.nil
            go_simp
            have hb : Below U6.heap.size U6 (U6.alloc (.cells #[.slice none 0 0] 28)) := al (Below.refl _ _)
            have dG : (U6.alloc (.cells #[.slice none 0 0] 28)).cell? ⟨U6.heap.size, 0, none⟩ = some (.slice none 0 0) := by simp
            have fG : (U6.alloc (.cells #[.slice none 0 0] 28)).frozen? ⟨U6.heap.size, 0, none⟩ = false := by simp [go_sem]
            have hG : U6.heap.size < (U6.alloc (.cells #[.slice none 0 0] 28)).heap.size := by simp
            have hG0 : w22.heap.size ≤ U6.heap.size := hHeld.1.size
            refine hK.out _ _ ?_ (fun hHeld => ?_)
            · try dsimp only
              first | assumption | (refine sz3 ?_ hb rfl; assumption)
            clear hK K
            try simp only [Act.put, List.setIfInBounds_toArray, List.set_cons_zero, List.set_cons_succ]
            refine wpAnyH_ready (rs := [11]) (by kernel_rfl) (by simp) ?_
            refine AllReadyH.cons rfl (fun K hK => ?_) AllReadyH.nil
            go_simp
            have hS : Below U6.heap.size U6 (U6.alloc (.cells #[.slice AS NS CS] 28)) := al (Below.refl _ _)
            refine hK.out _ _ ?_ (fun hHeld => ?_)
            · try dsimp only
              first | assumption | (refine sz3 ?_ hS rfl; assumption)
            clear hK K
            try simp only [Act.put, List.setIfInBounds_toArray, List.set_cons_zero, List.set_cons_succ]
            refine takeD (i := 12) (d := some 19) (v := ?_) _ rfl rfl (by kernel_rfl) (by kernel_rfl) (by kernel_rfl) (fun _ _ _ h => h) (Or.inl ⟨by rfl, ?_⟩) (by assumption) ?_
            rotate_left
            · (intro W hSw; (try dsimp only at hSw); go_simp; try with_reducible rfl)
            try simp only [Act.put, List.setIfInBounds_toArray, List.set_cons_zero, List.set_cons_succ]
            refine wpAnyH_done (by kernel_rfl) ?_ _
            go_wp2_with fail
            go_meet
            exact ⟨_, AS, NS, CS, rfl, rfl, own_base (own_below os (al (Below.refl _ _))) hZS, by simp, hG0, by simp, hHeld.1⟩
          · go_simp
            have hb : Below U5.heap.size U5 (U5.alloc (.cells #[.slice none 0 0] 28)) := al (Below.refl _ _)
            replace ox0 := own_below ox0 hb
            replace ox1 := own_below ox1 hb
            replace ox2 := own_below ox2 hb
            have dG : (U5.alloc (.cells #[.slice none 0 0] 28)).cell? ⟨U5.heap.size, 0, none⟩ = some (.slice none 0 0) := by simp
            have fG : (U5.alloc (.cells #[.slice none 0 0] 28)).frozen? ⟨U5.heap.size, 0, none⟩ = false := by simp [go_sem]
            have hG : U5.heap.size < (U5.alloc (.cells #[.slice none 0 0] 28)).heap.size := by simp
            have hG0 : w22.heap.size ≤ U5.heap.size := hHeld.1.size
            refine hK.out _ _ ?_ (fun hHeld => ?_)
            · try dsimp only
              first | assumption | (refine sz3 ?_ hb rfl; assumption)
            clear hK K
            try simp only [Act.put, List.setIfInBounds_toArray, List.set_cons_zero, List.set_cons_succ]
            refine wpAnyH_ready (rs := [6]) (by kernel_rfl) (by simp) ?_
            refine AllReadyH.cons rfl (fun K hK => ?_) AllReadyH.nil
            go_simp
            have hGS := hG
            have hZS := hHeld.1.size
            refine (implMergeRecords_any AX0 AX1 AX2 NX0 NX1 NX2 CX0 CX1 CX2 l0 l1 l2 lr r _ (by have q1 := own_lenF ox0; omega) (by have q1 := own_lenF ox1; omega) (by have q1 := own_lenF ox2; omega) (Rd.of_own ox0) (Rd.of_own ox1) (Rd.of_own ox2) o0 o1 o2 HR.out).mono ?_; rintro e U6 ⟨AS, NS, CS, rfl, os, hb⟩
            try go_wp2_with fail
            replace dG := kcell hb dG
            replace fG := kfro hb hG fG
            replace hG := Nat.lt_of_lt_of_le hG hb.size
            have RS := own_rng os
            refine hK.out _ _ ?_ (fun hHeld => ?_)
            · try dsimp only
              first | assumption | (refine sz3 ?_ hb rfl; assumption)
            clear hK K
            try simp only [Act.put, List.setIfInBounds_toArray, List.set_cons_zero, List.set_cons_succ]
            refine takeD (i := 7) (d := some 115) (v := ?_) _ rfl rfl (by kernel_rfl) (by kernel_rfl) (by kernel_rfl) (fun _ _ _ h => h) (Or.inl ⟨by rfl, ?_⟩) (by assumption) ?_
            rotate_left
            · (intro W hSw; (try dsimp only at hSw); go_simp; try with_reducible rfl)
            try simp only [Act.put, List.setIfInBounds_toArray, List.set_cons_zero, List.set_cons_succ]
            refine takeD (i := 8) (d := some 123) (v := ?_) _ rfl rfl (by kernel_rfl) (by kernel_rfl) (by kernel_rfl) (fun _ _ _ h => h) (Or.inl ⟨by rfl, ?_⟩) (by assumption) ?_
            rotate_left
            · (intro W hSw; (try dsimp only at hSw); go_simp; try with_reducible rfl)
            try simp only [Act.put, List.setIfInBounds_toArray, List.set_cons_zero, List.set_cons_succ]
            refine takeD (i := 9) (d := some 124) (v := ?_) _ rfl rfl (by kernel_rfl) (by kernel_rfl) (by kernel_rfl) (fun _ _ _ h => h) (Or.inl ⟨by rfl, ?_⟩) (by assumption) ?_
            rotate_left
            · (intro W hSw; (try dsimp only at hSw); go_simp; try with_reducible rfl)
            try simp only [Act.put, List.setIfInBounds_toArray, List.set_cons_zero, List.set_cons_succ]
            refine wpAnyH_ready (rs := [11]) (by kernel_rfl) (by simp) ?_
            refine AllReadyH.cons rfl (fun K hK => ?_) AllReadyH.nil
            go_simp
            refine hK.out _ _ ?_ (fun hHeld => ?_)
            · try dsimp only
              exact ⟨hHeld.1.setCell (p := ⟨U5.heap.size, 0, none⟩) hG0 _, (World.cell?_setCell_far _ ⟨U5.heap.size, 0, none⟩ ⟨w.heap.size, 0, none⟩ _ (by show U5.heap.size ≠ w.heap.size; have zc1 := zs1.out; have zc2 := zs2.out; have zc3 := zs3.out; have zc4 := zs4.out; have zc5 := zs5.out; have zc6 := zs6.out; have zc7 := zs7.out; have zc8 := zs8.out; have zc9 := zs9.out; have zc10 := zs10.out; have zc11 := zs11.out; have zc12 := zs12.out; have zc13 := zs13.out; have zc14 := zs14.out; have zc15 := zs15.out; have zc16 := zs16.out; have zc17 := zs17.out; have zc18 := zs18.out; have zc19 := zs19.out; have zc20 := zs20.out; have zc21 := zs21.out; have zc22 := zs22.out; omega)).trans hHeld.2.1, (World.cell?_setCell_far _ ⟨U5.heap.size, 0, none⟩ ⟨w.heap.size + 1, 0, none⟩ _ (by show U5.heap.size ≠ w.heap.size + 1; have zc1 := zs1.out; have zc2 := zs2.out; have zc3 := zs3.out; have zc4 := zs4.out; have zc5 := zs5.out; have zc6 := zs6.out; have zc7 := zs7.out; have zc8 := zs8.out; have zc9 := zs9.out; have zc10 := zs10.out; have zc11 := zs11.out; have zc12 := zs12.out; have zc13 := zs13.out; have zc14 := zs14.out; have zc15 := zs15.out; have zc16 := zs16.out; have zc17 := zs17.out; have zc18 := zs18.out; have zc19 := zs19.out; have zc20 := zs20.out; have zc21 := zs21.out; have zc22 := zs22.out; omega)).trans hHeld.2.2.1, (World.cell?_setCell_far _ ⟨U5.heap.size, 0, none⟩ ⟨w.heap.size + 1 + 1, 0, none⟩ _ (by show U5.heap.size ≠ w.heap.size + 1 + 1; have zc1 := zs1.out; have zc2 := zs2.out; have zc3 := zs3.out; have zc4 := zs4.out; have zc5 := zs5.out; have zc6 := zs6.out; have zc7 := zs7.out; have zc8 := zs8.out; have zc9 := zs9.out; have zc10 := zs10.out; have zc11 := zs11.out; have zc12 := zs12.out; have zc13 := zs13.out; have zc14 := zs14.out; have zc15 := zs15.out; have zc16 := zs16.out; have zc17 := zs17.out; have zc18 := zs18.out; have zc19 := zs19.out; have zc20 := zs20.out; have zc21 := zs21.out; have zc22 := zs22.out; omega)).trans hHeld.2.2.2⟩
            clear hK K
            try simp only [Act.put, List.setIfInBounds_toArray, List.set_cons_zero, List.set_cons_succ]
            refine takeD (i := 12) (d := some 19) (v := ?_) _ rfl rfl (by kernel_rfl) (by kernel_rfl) (by kernel_rfl) (fun _ _ _ h => h) (Or.inl ⟨by rfl, ?_⟩) (by assumption) ?_
            rotate_left
            · (intro W hSw; (try dsimp only at hSw); go_simp; try with_reducible rfl)
            try simp only [Act.put, List.setIfInBounds_toArray, List.set_cons_zero, List.set_cons_succ]
            refine wpAnyH_done (by kernel_rfl) ?_ _
            go_wp2_with fail
            go_meet
            exact ⟨_, AS, NS, CS, rfl, rfl, own_base (ownsRow_setCell_below os (a := ⟨U5.heap.size, 0, none⟩) hGS _) hZS, by simp [go_sem, dG], hG0, by simpa using hG, hHeld.1⟩
        · go_simp
          have hb : Below U3.heap.size U3 (U3.alloc (.cells #[.slice none 0 0] 28)) := al (Below.refl _ _)
          replace ox0 := own_below ox0 hb
          replace ox1 := own_below ox1 hb
          have dG : (U3.alloc (.cells #[.slice none 0 0] 28)).cell? ⟨U3.heap.size, 0, none⟩ = some (.slice none 0 0) := by simp
          have fG : (U3.alloc (.cells #[.slice none 0 0] 28)).frozen? ⟨U3.heap.size, 0, none⟩ = false := by simp [go_sem]
          have hG : U3.heap.size < (U3.alloc (.cells #[.slice none 0 0] 28)).heap.size := by simp
          have hG0 : w22.heap.size ≤ U3.heap.size := hHeld.1.size
          refine hK.out _ _ ?_ (fun hHeld => ?_)
          · try dsimp only
            first | assumption | (refine sz3 ?_ hb rfl; assumption)
          clear hK K
          try simp only [Act.put, List.setIfInBounds_toArray, List.set_cons_zero, List.set_cons_succ]
          refine wpAnyH_ready (rs := [5]) (by kernel_rfl) (by simp) ?_
          refine AllReadyH.cons rfl (fun K hK => ?_) AllReadyH.nil
          go_simp
          refine (toRecord_any A2 n2 c2 l2 _ q2 (h2.below (B22.trans (hHeld.1.mono B22.size)))).mono ?_; rintro e U5 ⟨AX2, NX2, CX2, rfl, ox2, hb⟩
          try go_wp2_with fail
          replace ox0 := own_below ox0 hb
          replace ox1 := own_below ox1 hb
          replace dG := kcell hb dG
          replace fG := kfro hb hG fG
          replace hG := Nat.lt_of_lt_of_le hG hb.size
          refine hK.out _ _ ?_ (fun hHeld => ?_)
          · try dsimp only
            first | assumption | (refine sz3 ?_ hb rfl; assumption)
          clear hK K
          try simp only [Act.put, List.setIfInBounds_toArray, List.set_cons_zero, List.set_cons_succ]
          refine wpAnyH_ready (rs := [6]) (by kernel_rfl) (by simp) ?_
          refine AllReadyH.cons rfl (fun K hK => ?_) AllReadyH.nil
          go_simp
          have hGS := hG
          have hZS := hHeld.1.size
          refine (implMergeRecords_any AX0 AX1 AX2 NX0 NX1 NX2 CX0 CX1 CX2 l0 l1 l2 lr r _ (by have q1 := own_lenF ox0; omega) (by have q1 := own_lenF ox1; omega) (by have q1 := own_lenF ox2; omega) (Rd.of_own ox0) (Rd.of_own ox1) (Rd.of_own ox2) o0 o1 o2 HR.out).mono ?_; rintro e U6 ⟨AS, NS, CS, rfl, os, hb⟩
          try go_wp2_with fail
          replace dG := kcell hb dG
          replace fG := kfro hb hG fG
          replace hG := Nat.lt_of_lt_of_le hG hb.size
          have RS := own_rng os
          refine hK.out _ _ ?_ (fun hHeld => ?_)
          · try dsimp only
            first | assumption | (refine sz3 ?_ hb rfl; assumption)
          clear hK K
          try simp only [Act.put, List.setIfInBounds_toArray, List.set_cons_zero, List.set_cons_succ]
          refine takeD (i := 7) (d := some 115) (v := ?_) _ rfl rfl (by kernel_rfl) (by kernel_rfl) (by kernel_rfl) (fun _ _ _ h => h) (Or.inl ⟨by rfl, ?_⟩) (by assumption) ?_
          rotate_left
          · (intro W hSw; (try dsimp only at hSw); go_simp; try with_reducible rfl)
          try simp only [Act.put, List.setIfInBounds_toArray, List.set_cons_zero, List.set_cons_succ]
          refine takeD (i := 8) (d := some 123) (v := ?_) _ rfl rfl (by kernel_rfl) (by kernel_rfl) (by kernel_rfl) (fun _ _ _ h => h) (Or.inl ⟨by rfl, ?_⟩) (by assumption) ?_
          rotate_left
          · (intro W hSw; (try dsimp only at hSw); go_simp; try with_reducible rfl)
          try simp only [Act.put, List.setIfInBounds_toArray, List.set_cons_zero, List.set_cons_succ]
          refine takeD (i := 9) (d := some 124) (v := ?_) _ rfl rfl (by kernel_rfl) (by kernel_rfl) (by kernel_rfl) (fun _ _ _ h => h) (Or.inl ⟨by rfl, ?_⟩) (by assumption) ?_
          rotate_left
          · (intro W hSw; (try dsimp only at hSw); go_simp; try with_reducible rfl)
          try simp only [Act.put, List.setIfInBounds_toArray, List.set_cons_zero, List.set_cons_succ]
          refine wpAnyH_ready (rs := [11]) (by kernel_rfl) (by simp) ?_
          refine AllReadyH.cons rfl (fun K hK => ?_) AllReadyH.nil
          go_simp
          refine hK.out _ _ ?_ (fun hHeld => ?_)
          · try dsimp only
            exact ⟨hHeld.1.setCell (p := ⟨U3.heap.size, 0, none⟩) hG0 _, (World.cell?_setCell_far _ ⟨U3.heap.size, 0, none⟩ ⟨w.heap.size, 0, none⟩ _ (by show U3.heap.size ≠ w.heap.size; have zc1 := zs1.out; have zc2 := zs2.out; have zc3 := zs3.out; have zc4 := zs4.out; have zc5 := zs5.out; have zc6 := zs6.out; have zc7 := zs7.out; have zc8 := zs8.out; have zc9 := zs9.out; have zc10 := zs10.out; have zc11 := zs11.out; have zc12 := zs12.out; have zc13 := zs13.out; have zc14 := zs14.out; have zc15 := zs15.out; have zc16 := zs16.out; have zc17 := zs17.out; have zc18 := zs18.out; have zc19 := zs19.out; have zc20 := zs20.out; have zc21 := zs21.out; have zc22 := zs22.out; omega)).trans hHeld.2.1, (World.cell?_setCell_far _ ⟨U3.heap.size, 0, none⟩ ⟨w.heap.size + 1, 0, none⟩ _ (by show U3.heap.size ≠ w.heap.size + 1; have zc1 := zs1.out; have zc2 := zs2.out; have zc3 := zs3.out; have zc4 := zs4.out; have zc5 := zs5.out; have zc6 := zs6.out; have zc7 := zs7.out; have zc8 := zs8.out; have zc9 := zs9.out; have zc10 := zs10.out; have zc11 := zs11.out; have zc12 := zs12.out; have zc13 := zs13.out; have zc14 := zs14.out; have zc15 := zs15.out; have zc16 := zs16.out; have zc17 := zs17.out; have zc18 := zs18.out; have zc19 := zs19.out; have zc20 := zs20.out; have zc21 := zs21.out; have zc22 := zs22.out; omega)).trans hHeld.2.2.1, (World.cell?_setCell_far _ ⟨U3.heap.size, 0, none⟩ ⟨w.heap.size + 1 + 1, 0, none⟩ _ (by show U3.heap.size ≠ w.heap.size + 1 + 1; have zc1 := zs1.out; have zc2 := zs2.out; have zc3 := zs3.out; have zc4 := zs4.out; have zc5 := zs5.out; have zc6 := zs6.out; have zc7 := zs7.out; have zc8 := zs8.out; have zc9 := zs9.out; have zc10 := zs10.out; have zc11 := zs11.out; have zc12 := zs12.out; have zc13 := zs13.out; have zc14 := zs14.out; have zc15 := zs15.out; have zc16 := zs16.out; have zc17 := zs17.out; have zc18 := zs18.out; have zc19 := zs19.out; have zc20 := zs20.out; have zc21 := zs21.out; have zc22 := zs22.out; omega)).trans hHeld.2.2.2⟩
          clear hK K
          try simp only [Act.put, List.setIfInBounds_toArray, List.set_cons_zero, List.set_cons_succ]
          refine takeD (i := 12) (d := some 19) (v := ?_) _ rfl rfl (by kernel_rfl) (by kernel_rfl) (by kernel_rfl) (fun _ _ _ h => h) (Or.inl ⟨by rfl, ?_⟩) (by assumption) ?_
          rotate_left
          · (intro W hSw; (try dsimp only at hSw); go_simp; try with_reducible rfl)
          try simp only [Act.put, List.setIfInBounds_toArray, List.set_cons_zero, List.set_cons_succ]
          refine wpAnyH_done (by kernel_rfl) ?_ _
          go_wp2_with fail
          go_meet
          exact ⟨_, AS, NS, CS, rfl, rfl, own_base (ownsRow_setCell_below os (a := ⟨U3.heap.size, 0, none⟩) hGS _) hZS, by simp [go_sem, dG], hG0, by simpa using hG, hHeld.1⟩
      · go_simp
        have hb : Below U1.heap.size U1 (U1.alloc (.cells #[.slice none 0 0] 28)) := al (Below.refl _ _)
        replace ox0 := own_below ox0 hb
        have dG : (U1.alloc (.cells #[.slice none 0 0] 28)).cell? ⟨U1.heap.size, 0, none⟩ = some (.slice none 0 0) := by simp
        have fG : (U1.alloc (.cells #[.slice none 0 0] 28)).frozen? ⟨U1.heap.size, 0, none⟩ = false := by simp [go_sem]
        have hG : U1.heap.size < (U1.alloc (.cells #[.slice none 0 0] 28)).heap.size := by simp
        have hG0 : w22.heap.size ≤ U1.heap.size := hHeld.1.size
        refine hK.out _ _ ?_ (fun hHeld => ?_)
        · try dsimp only
          first | assumption | (refine sz3 ?_ hb rfl; assumption)
        clear hK K
        try simp only [Act.put, List.setIfInBounds_toArray, List.set_cons_zero, List.set_cons_succ]
        refine wpAnyH_ready (rs := [3]) (by kernel_rfl) (by simp) ?_
        refine AllReadyH.cons rfl (fun K hK => ?_) AllReadyH.nil
        go_simp
        refine (toRecord_any A1 n1 c1 l1 _ q1 (h1.below (B22.trans (hHeld.1.mono B22.size)))).mono ?_; rintro e U3 ⟨AX1, NX1, CX1, rfl, ox1, hb⟩
        try go_wp2_with fail
        replace ox0 := own_below ox0 hb
        replace dG := kcell hb dG
        replace fG := kfro hb hG fG
        replace hG := Nat.lt_of_lt_of_le hG hb.size
        refine hK.out _ _ ?_ (fun hHeld => ?_)
        · try dsimp only
          first | assumption | (refine sz3 ?_ hb rfl; assumption)
        clear hK K
        try simp only [Act.put, List.setIfInBounds_toArray, List.set_cons_zero, List.set_cons_succ]
        refine wpAnyH_ready (rs := [5]) (by kernel_rfl) (by simp) ?_
        refine AllReadyH.cons rfl (fun K hK => ?_) AllReadyH.nil
        go_simp
        refine (toRecord_any A2 n2 c2 l2 _ q2 (h2.below (B22.trans (hHeld.1.mono B22.size)))).mono ?_; rintro e U5 ⟨AX2, NX2, CX2, rfl, ox2, hb⟩
        try go_wp2_with fail
        replace ox0 := own_below ox0 hb
        replace ox1 := own_below ox1 hb
        replace dG := kcell hb dG
        replace fG := kfro hb hG fG
        replace hG := Nat.lt_of_lt_of_le hG hb.size
        refine hK.out _ _ ?_ (fun hHeld => ?_)
        · try dsimp only
          first | assumption | (refine sz3 ?_ hb rfl; assumption)
        clear hK K
        try simp only [Act.put, List.setIfInBounds_toArray, List.set_cons_zero, List.set_cons_succ]
        refine wpAnyH_ready (rs := [6]) (by kernel_rfl) (by simp) ?_
        refine AllReadyH.cons rfl (fun K hK => ?_) AllReadyH.nil
        go_simp
        have hGS := hG
        have hZS := hHeld.1.size
        refine (implMergeRecords_any AX0 AX1 AX2 NX0 NX1 NX2 CX0 CX1 CX2 l0 l1 l2 lr r _ (by have q1 := own_lenF ox0; omega) (by have q1 := own_lenF ox1; omega) (by have q1 := own_lenF ox2; omega) (Rd.of_own ox0) (Rd.of_own ox1) (Rd.of_own ox2) o0 o1 o2 HR.out).mono ?_; rintro e U6 ⟨AS, NS, CS, rfl, os, hb⟩
        try go_wp2_with fail
        replace dG := kcell hb dG
        replace fG := kfro hb hG fG
        replace hG := Nat.lt_of_lt_of_le hG hb.size
        have RS := own_rng os
        refine hK.out _ _ ?_ (fun hHeld => ?_)
        · try dsimp only
          first | assumption | (refine sz3 ?_ hb rfl; assumption)
        clear hK K
        try simp only [Act.put, List.setIfInBounds_toArray, List.set_cons_zero, List.set_cons_succ]
        refine takeD (i := 7) (d := some 115) (v := ?_) _ rfl rfl (by kernel_rfl) (by kernel_rfl) (by kernel_rfl) (fun _ _ _ h => h) (Or.inl ⟨by rfl, ?_⟩) (by assumption) ?_
        rotate_left
        · (intro W hSw; (try dsimp only at hSw); go_simp; try with_reducible rfl)
        try simp only [Act.put, List.setIfInBounds_toArray, List.set_cons_zero, List.set_cons_succ]
        refine takeD (i := 8) (d := some 123) (v := ?_) _ rfl rfl (by kernel_rfl) (by kernel_rfl) (by kernel_rfl) (fun _ _ _ h => h) (Or.inl ⟨by rfl, ?_⟩) (by assumption) ?_
        rotate_left
        · (intro W hSw; (try dsimp only at hSw); go_simp; try with_reducible rfl)
        try simp only [Act.put, List.setIfInBounds_toArray, List.set_cons_zero, List.set_cons_succ]
        refine takeD (i := 9) (d := some 124) (v := ?_) _ rfl rfl (by kernel_rfl) (by kernel_rfl) (by kernel_rfl) (fun _ _ _ h => h) (Or.inl ⟨by rfl, ?_⟩) (by assumption) ?_
        rotate_left
        · (intro W hSw; (try dsimp only at hSw); go_simp; try with_reducible rfl)
        try simp only [Act.put, List.setIfInBounds_toArray, List.set_cons_zero, List.set_cons_succ]
        refine wpAnyH_ready (rs := [11]) (by kernel_rfl) (by simp) ?_
        refine AllReadyH.cons rfl (fun K hK => ?_) AllReadyH.nil
        go_simp
        refine hK.out _ _ ?_ (fun hHeld => ?_)
        · try dsimp only
          exact ⟨hHeld.1.setCell (p := ⟨U1.heap.size, 0, none⟩) hG0 _, (World.cell?_setCell_far _ ⟨U1.heap.size, 0, none⟩ ⟨w.heap.size, 0, none⟩ _ (by show U1.heap.size ≠ w.heap.size; have zc1 := zs1.out; have zc2 := zs2.out; have zc3 := zs3.out; have zc4 := zs4.out; have zc5 := zs5.out; have zc6 := zs6.out; have zc7 := zs7.out; have zc8 := zs8.out; have zc9 := zs9.out; have zc10 := zs10.out; have zc11 := zs11.out; have zc12 := zs12.out; have zc13 := zs13.out; have zc14 := zs14.out; have zc15 := zs15.out; have zc16 := zs16.out; have zc17 := zs17.out; have zc18 := zs18.out; have zc19 := zs19.out; have zc20 := zs20.out; have zc21 := zs21.out; have zc22 := zs22.out; omega)).trans hHeld.2.1, (World.cell?_setCell_far _ ⟨U1.heap.size, 0, none⟩ ⟨w.heap.size + 1, 0, none⟩ _ (by show U1.heap.size ≠ w.heap.size + 1; have zc1 := zs1.out; have zc2 := zs2.out; have zc3 := zs3.out; have zc4 := zs4.out; have zc5 := zs5.out; have zc6 := zs6.out; have zc7 := zs7.out; have zc8 := zs8.out; have zc9 := zs9.out; have zc10 := zs10.out; have zc11 := zs11.out; have zc12 := zs12.out; have zc13 := zs13.out; have zc14 := zs14.out; have zc15 := zs15.out; have zc16 := zs16.out; have zc17 := zs17.out; have zc18 := zs18.out; have zc19 := zs19.out; have zc20 := zs20.out; have zc21 := zs21.out; have zc22 := zs22.out; omega)).trans hHeld.2.2.1, (World.cell?_setCell_far _ ⟨U1.heap.size, 0, none⟩ ⟨w.heap.size + 1 + 1, 0, none⟩ _ (by show U1.heap.size ≠ w.heap.size + 1 + 1; have zc1 := zs1.out; have zc2 := zs2.out; have zc3 := zs3.out; have zc4 := zs4.out; have zc5 := zs5.out; have zc6 := zs6.out; have zc7 := zs7.out; have zc8 := zs8.out; have zc9 := zs9.out; have zc10 := zs10.out; have zc11 := zs11.out; have zc12 := zs12.out; have zc13 := zs13.out; have zc14 := zs14.out; have zc15 := zs15.out; have zc16 := zs16.out; have zc17 := zs17.out; have zc18 := zs18.out; have zc19 := zs19.out; have zc20 := zs20.out; have zc21 := zs21.out; have zc22 := zs22.out; omega)).trans hHeld.2.2.2⟩
        clear hK K
        try simp only [Act.put, List.setIfInBounds_toArray, List.set_cons_zero, List.set_cons_succ]
        refine takeD (i := 12) (d := some 19) (v := ?_) _ rfl rfl (by kernel_rfl) (by kernel_rfl) (by kernel_rfl) (fun _ _ _ h => h) (Or.inl ⟨by rfl, ?_⟩) (by assumption) ?_
        rotate_left
        · (intro W hSw; (try dsimp only at hSw); go_simp; try with_reducible rfl)
        try simp only [Act.put, List.setIfInBounds_toArray, List.set_cons_zero, List.set_cons_succ]
        refine wpAnyH_done (by kernel_rfl) ?_ _
        go_wp2_with fail
        go_meet
        exact ⟨_, AS, NS, CS, rfl, rfl, own_base (ownsRow_setCell_below os (a := ⟨U1.heap.size, 0, none⟩) hGS _) hZS, by simp [go_sem, dG], hG0, by simpa using hG, hHeld.1⟩
    · go_simp
      have hb : Below w22.drew.heap.size w22.drew (w22.alloc (.cells #[.slice none 0 0] 28)).drew := al (Below.refl _ _)
      have dG : (w22.alloc (.cells #[.slice none 0 0] 28)).drew.cell? ⟨w22.heap.size, 0, none⟩ = some (.slice none 0 0) := by simp
      have fG : (w22.alloc (.cells #[.slice none 0 0] 28)).drew.frozen? ⟨w22.heap.size, 0, none⟩ = false := by simp [go_sem]
      have hG : w22.heap.size < (w22.alloc (.cells #[.slice none 0 0] 28)).drew.heap.size := by simp
      have hG0 : w22.heap.size ≤ w22.heap.size := hHeld.1.size
      refine hK.out _ _ ?_ (fun hHeld => ?_)
      · try dsimp only
        first | assumption | (refine sz3 ?_ hb rfl; assumption)
      clear hK K
      try simp only [Act.put, List.setIfInBounds_toArray, List.set_cons_zero, List.set_cons_succ]
      refine wpAnyH_ready (rs := [1]) (by kernel_rfl) (by simp) ?_
      refine AllReadyH.cons rfl (fun K hK => ?_) AllReadyH.nil
      go_simp
      refine (toRecord_any A0 n0 c0 l0 _ q0 (h0.below (B22.trans (hHeld.1.mono B22.size)))).mono ?_; rintro e U1 ⟨AX0, NX0, CX0, rfl, ox0, hb⟩
      try go_wp2_with fail
      replace dG := kcell hb dG
      replace fG := kfro hb hG fG
      replace hG := Nat.lt_of_lt_of_le hG hb.size
      refine hK.out _ _ ?_ (fun hHeld => ?_)
      · try dsimp only
        first | assumption | (refine sz3 ?_ hb rfl; assumption)
      clear hK K
      try simp only [Act.put, List.setIfInBounds_toArray, List.set_cons_zero, List.set_cons_succ]
      refine wpAnyH_ready (rs := [3]) (by kernel_rfl) (by simp) ?_
      refine AllReadyH.cons rfl (fun K hK => ?_) AllReadyH.nil
      go_simp
      refine (toRecord_any A1 n1 c1 l1 _ q1 (h1.below (B22.trans (hHeld.1.mono B22.size)))).mono ?_; rintro e U3 ⟨AX1, NX1, CX1, rfl, ox1, hb⟩
      try go_wp2_with fail
      replace ox0 := own_below ox0 hb
      replace dG := kcell hb dG
      replace fG := kfro hb hG fG
      replace hG := Nat.lt_of_lt_of_le hG hb.size
      refine hK.out _ _ ?_ (fun hHeld => ?_)
      · try dsimp only
        first | assumption | (refine sz3 ?_ hb rfl; assumption)
      clear hK K
      try simp only [Act.put, List.setIfInBounds_toArray, List.set_cons_zero, List.set_cons_succ]
      refine wpAnyH_ready (rs := [5]) (by kernel_rfl) (by simp) ?_
      refine AllReadyH.cons rfl (fun K hK => ?_) AllReadyH.nil
      go_simp
      refine (toRecord_any A2 n2 c2 l2 _ q2 (h2.below (B22.trans (hHeld.1.mono B22.size)))).mono ?_; rintro e U5 ⟨AX2, NX2, CX2, rfl, ox2, hb⟩
      try go_wp2_with fail
      replace ox0 := own_below ox0 hb
      replace ox1 := own_below ox1 hb
      replace dG := kcell hb dG
      replace fG := kfro hb hG fG
      replace hG := Nat.lt_of_lt_of_le hG hb.size
      refine hK.out _ _ ?_ (fun hHeld => ?_)
      · try dsimp only
        first | assumption | (refine sz3 ?_ hb rfl; assumption)
      clear hK K
      try simp only [Act.put, List.setIfInBounds_toArray, List.set_cons_zero, List.set_cons_succ]
      refine wpAnyH_ready (rs := [6]) (by kernel_rfl) (by simp) ?_
      refine AllReadyH.cons rfl (fun K hK => ?_) AllReadyH.nil
      go_simp
      have hGS := hG
      have hZS := hHeld.1.size
      refine (implMergeRecords_any AX0 AX1 AX2 NX0 NX1 NX2 CX0 CX1 CX2 l0 l1 l2 lr r _ (by have q1 := own_lenF ox0; omega) (by have q1 := own_lenF ox1; omega) (by have q1 := own_lenF ox2; omega) (Rd.of_own ox0) (Rd.of_own ox1) (Rd.of_own ox2) o0 o1 o2 HR.out).mono ?_; rintro e U6 ⟨AS, NS, CS, rfl, os, hb⟩
      try go_wp2_with fail
      replace dG := kcell hb dG
      replace fG := kfro hb hG fG
      replace hG := Nat.lt_of_lt_of_le hG hb.size
      have RS := own_rng os
      refine hK.out _ _ ?_ (fun hHeld => ?_)
      · try dsimp only
        first | assumption | (refine sz3 ?_ hb rfl; assumption)
      clear hK K
      try simp only [Act.put, List.setIfInBounds_toArray, List.set_cons_zero, List.set_cons_succ]
      refine takeD (i := 7) (d := some 115) (v := ?_) _ rfl rfl (by kernel_rfl) (by kernel_rfl) (by kernel_rfl) (fun _ _ _ h => h) (Or.inl ⟨by rfl, ?_⟩) (by assumption) ?_
      rotate_left
      · (intro W hSw; (try dsimp only at hSw); go_simp; try with_reducible rfl)
      try simp only [Act.put, List.setIfInBounds_toArray, List.set_cons_zero, List.set_cons_succ]
      refine takeD (i := 8) (d := some 123) (v := ?_) _ rfl rfl (by kernel_rfl) (by kernel_rfl) (by kernel_rfl) (fun _ _ _ h => h) (Or.inl ⟨by rfl, ?_⟩) (by assumption) ?_
      rotate_left
      · (intro W hSw; (try dsimp only at hSw); go_simp; try with_reducible rfl)
      try simp only [Act.put, List.setIfInBounds_toArray, List.set_cons_zero, List.set_cons_succ]
      refine takeD (i := 9) (d := some 124) (v := ?_) _ rfl rfl (by kernel_rfl) (by kernel_rfl) (by kernel_rfl) (fun _ _ _ h => h) (Or.inl ⟨by rfl, ?_⟩) (by assumption) ?_
      rotate_left
      · (intro W hSw; (try dsimp only at hSw); go_simp; try with_reducible rfl)
      try simp only [Act.put, List.setIfInBounds_toArray, List.set_cons_zero, List.set_cons_succ]
      refine wpAnyH_ready (rs := [11]) (by kernel_rfl) (by simp) ?_
      refine AllReadyH.cons rfl (fun K hK => ?_) AllReadyH.nil
      go_simp
      refine hK.out _ _ ?_ (fun hHeld => ?_)
      · try dsimp only
        exact ⟨hHeld.1.setCell (p := ⟨w22.heap.size, 0, none⟩) hG0 _, (World.cell?_setCell_far _ ⟨w22.heap.size, 0, none⟩ ⟨w.heap.size, 0, none⟩ _ (by show w22.heap.size ≠ w.heap.size; have zc1 := zs1.out; have zc2 := zs2.out; have zc3 := zs3.out; have zc4 := zs4.out; have zc5 := zs5.out; have zc6 := zs6.out; have zc7 := zs7.out; have zc8 := zs8.out; have zc9 := zs9.out; have zc10 := zs10.out; have zc11 := zs11.out; have zc12 := zs12.out; have zc13 := zs13.out; have zc14 := zs14.out; have zc15 := zs15.out; have zc16 := zs16.out; have zc17 := zs17.out; have zc18 := zs18.out; have zc19 := zs19.out; have zc20 := zs20.out; have zc21 := zs21.out; have zc22 := zs22.out; omega)).trans hHeld.2.1, (World.cell?_setCell_far _ ⟨w22.heap.size, 0, none⟩ ⟨w.heap.size + 1, 0, none⟩ _ (by show w22.heap.size ≠ w.heap.size + 1; have zc1 := zs1.out; have zc2 := zs2.out; have zc3 := zs3.out; have zc4 := zs4.out; have zc5 := zs5.out; have zc6 := zs6.out; have zc7 := zs7.out; have zc8 := zs8.out; have zc9 := zs9.out; have zc10 := zs10.out; have zc11 := zs11.out; have zc12 := zs12.out; have zc13 := zs13.out; have zc14 := zs14.out; have zc15 := zs15.out; have zc16 := zs16.out; have zc17 := zs17.out; have zc18 := zs18.out; have zc19 := zs19.out; have zc20 := zs20.out; have zc21 := zs21.out; have zc22 := zs22.out; omega)).trans hHeld.2.2.1, (World.cell?_setCell_far _ ⟨w22.heap.size, 0, none⟩ ⟨w.heap.size + 1 + 1, 0, none⟩ _ (by show w22.heap.size ≠ w.heap.size + 1 + 1; have zc1 := zs1.out; have zc2 := zs2.out; have zc3 := zs3.out; have zc4 := zs4.out; have zc5 := zs5.out; have zc6 := zs6.out; have zc7 := zs7.out; have zc8 := zs8.out; have zc9 := zs9.out; have zc10 := zs10.out; have zc11 := zs11.out; have zc12 := zs12.out; have zc13 := zs13.out; have zc14 := zs14.out; have zc15 := zs15.out; have zc16 := zs16.out; have zc17 := zs17.out; have zc18 := zs18.out; have zc19 := zs19.out; have zc20 := zs20.out; have zc21 := zs21.out; have zc22 := zs22.out; omega)).trans hHeld.2.2.2⟩
      clear hK K
      try simp only [Act.put, List.setIfInBounds_toArray, List.set_cons_zero, List.set_cons_succ]
      refine takeD (i := 12) (d := some 19) (v := ?_) _ rfl rfl (by kernel_rfl) (by kernel_rfl) (by kernel_rfl) (fun _ _ _ h => h) (Or.inl ⟨by rfl, ?_⟩) (by assumption) ?_
      rotate_left
      · (intro W hSw; (try dsimp only at hSw); go_simp; try with_reducible rfl)
      try simp only [Act.put, List.setIfInBounds_toArray, List.set_cons_zero, List.set_cons_succ]
      refine wpAnyH_done (by kernel_rfl) ?_ _
      go_wp2_with fail
      go_meet
      exact ⟨_, AS, NS, CS, rfl, rfl, own_base (ownsRow_setCell_below os (a := ⟨w22.heap.size, 0, none⟩) hGS _) hZS, by simp [go_sem, dG], hG0, by simpa using hG, hHeld.1⟩
  case rest =>
  obtain ⟨gh0, A23, n23, c23, rfl, rfl, o23, dh0N, hgeh0, hlth0, b23⟩ := hcut
  obtain ⟨w23, hw23⟩ : ∃ x, x = wc := ⟨_, rfl⟩
  rw [← hw23] at o23 dh0N hlth0 b23 ⊢
  clear hw23
  have R23 := Lib.hid (own_rng o23)
  have hn23 : n23 ≤ 2097152 := by have q1 := own_lenF o23; omega
  have B23 : Below w.heap.size w w23 := B22.trans (b23.mono B22.size)
  have zs23 : Hid (w22.heap.size ≤ w23.heap.size) := Lib.hid (b23.size)
  replace o4 := own_below o4 b23
  replace o11 := own_below o11 b23
  replace dp0 := kcell b23 dp0
  replace dp1 := kcell b23 dp1
  replace dp2 := kcell b23 dp2
  replace dw0 := kcell b23 dw0
  replace dg0 := kcell b23 dg0
  clear b23
  have dh0 := dh0N
  clear dh0N
  go_wp2_with fail
  refine (eqRecord_same A23 A4 n23 n4 c23 c4 lr _ (by unfold maxLen; omega) (Rd.of_own o23) (Rd.of_own o4)).mono ?_
  rintro e w24 ⟨rfl, b24⟩
  have B24 : Below w.heap.size w w24 := B23.trans (b24.mono B23.size)
  have zs24 : Hid (w23.heap.size ≤ w24.heap.size) := Lib.hid (b24.size)
  replace o4 := own_below o4 b24
  replace o11 := own_below o11 b24
  replace o23 := own_below o23 b24
  replace dp0 := kcell b24 dp0
  replace dp1 := kcell b24 dp1
  replace dp2 := kcell b24 dp2
  replace dw0 := kcell b24 dw0
  replace dg0 := kcell b24 dg0
  replace dh0 := kcell b24 dh0
  clear b24
  go_wp2_with fail
  refine (heldRecord_q A11 n11 c11 1 eg _ (by omega) (by have e := Heg.out; omega) Heg.out (Rd.of_own o11)).mono ?_
  rintro e w25 ⟨rfl, b25⟩
  have B25 : Below w.heap.size w w25 := B24.trans (b25.mono B24.size)
  have zs25 : Hid (w24.heap.size ≤ w25.heap.size) := Lib.hid (b25.size)
  replace o4 := own_below o4 b25
  replace o11 := own_below o11 b25
  replace o23 := own_below o23 b25
  replace dp0 := kcell b25 dp0
  replace dp1 := kcell b25 dp1
  replace dp2 := kcell b25 dp2
  replace dw0 := kcell b25 dw0
  replace dg0 := kcell b25 dg0
  replace dh0 := kcell b25 dh0
  clear b25
  go_wp2
  go_ret
  exact ⟨rfl, B25⟩

set_option maxRecDepth 100000 in
theorem lifted (os : Os) (started : os.Started) (H : Type) (enc : TypeId × Value → H) :
    ReturnsInHanded {} Try.checked os 3 .any (Rows.fnExactMergeRecordsSpec.pre6 enc Try.prog Try.f3 Rows.fnExactMergeRecordsRow.domain false) (Rows.fnExactMergeRecordsSpec.post enc Try.prog Try.f3 false true false false) := by
  refine returnsInHanded_of_change (C := Try.checked) own started (by kernel_rfl) Try.func3
    (ChangeSpec.witness6 (enc := enc) (C := Try.checked) false ⟨#[], #[.agg #[.slice none 0 0], .agg #[.slice none 0 0], .agg #[.slice none 0 0]], []⟩ 8 (by kernel_rfl) (by kernel_rfl) (by kernel_rfl) (by kernel_rfl)) ?_
  intro W base args ds gs before hval0 hW hcnd _
  have hval : ∀ (j : Nat) t v, Try.f3.params[j]? = some t → args[j]? = some v → Value.okWide Try.prog W .any base t v := hval0
  have hW' := hW
  obtain ⟨p, q, hA0, hV, rfl, hfz, hnd⟩ := hW
  have hA : DataW.TrodAll enc Try.prog W 0 (fun _ => true) true Try.f3.params.toList args.toList ds p := hA0
  rw [Try.params3] at hA hval
  obtain ⟨v0, vs0, d0, ds0, p0, q0, hargs, rfl, rfl, h0, z0⟩ := trodAll_cons hA
  obtain ⟨v1, vs1, d1, ds1, p1, q1, rfl, rfl, rfl, h1, z1⟩ := trodAll_cons z0
  obtain ⟨v2, vs2, d2, ds2, p2, q2, rfl, rfl, rfl, h2, z2⟩ := trodAll_cons z1
  obtain ⟨rfl, rfl, rfl⟩ := trodAll_nil z2
  obtain rfl : args = #[v0, v1, v2] := by cases args; simp_all
  obtain ⟨rfl, rfl⟩ := trodVars_none hV
  obtain ⟨A0, n0, c0, l0, rfl, k0, m0, o0⟩ := open_record (hval 0 24 v0 rfl rfl) h0
  obtain ⟨A1, n1, c1, l1, rfl, k1, m1, o1⟩ := open_record (hval 1 24 v1 rfl rfl) h1
  obtain ⟨A2, n2, c2, l2, rfl, k2, m2, o2⟩ := open_record (hval 2 24 v2 rfl rfl) h2
  clear hA0 hval0
  exact (walk W A0 n0 c0 l0 k0 m0 o0 A1 n1 c1 l1 k1 m1 o1 A2 n2 c2 l2 k2 m2 o2).mono fun e W' ⟨he, hb⟩ => ⟨_, he, law_post laidOut (by kernel_rfl) (tb := 4) rfl Try.underlying4 rfl hW' rfl hb⟩

theorem proved : Rows.FnExactMergeRecordsSaid :=
  OpenClaim.holds_of_wide 3 Try.f3 rfl rfl rfl rfl rfl rfl rfl ⟨rfl, rfl, rfl, rfl, rfl⟩ rfl rfl rfl rfl rfl (by kernel_rfl) Try.func3 (joined_of (by kernel_rfl))
    (of_decide_eq_true (by kernel_rfl)) (by unfold Func.isWrapper; first | (rw [if_pos (by decide +kernel)]; kernel_rfl) | (rw [if_neg (by decide +kernel)]; exact ⟨rfl, rfl⟩))
    (fun os started H enc _ => lifted os started H enc)
#print axioms proved
end Go.Proofs.Ytbbngihmjdndoaa.fnExactMergeRecords
