/-
  Proved: the contracts of the reference's draws of records. Only what is needed of what is drawn is said. Conditions: the code reads as a list of at most 2^40 bytes.
  By an AI agent; no person has read it.
-/
import Derived.Test.YtbbngihmjdndoaaDrawR
import Derived.Test.YtbbngihmjdndoaaFldSs
namespace Go.Proofs.Ytbbngihmjdndoaa
open Go.RowKit
set_option linter.unusedSimpArgs false
set_option linter.unusedVariables false

theorem setS_len (l : List Fld) (nm : ByteArray) (x : Int) : (setS l nm x).length ≤ l.length + 1 := by
  have hi : (insF l nm x).length ≤ l.length + 1 := by
    unfold insF
    rw [List.length_append, List.length_cons, List.length_take, List.length_drop]
    omega
  unfold setS
  split
  · split
    · simp
    · exact hi
  · exact hi
theorem setR_len2 {l : List Fld} {nm : ByteArray} {x : Int} {lr : List Fld} {r : Bool} (h : (lr, r) = setR l nm x) : lr.length ≤ l.length + 1 := by
  have := setS_len l nm x
  unfold setR at h
  split at h
  · obtain rfl : lr = setS l nm x := (Prod.mk.inj h).1
    exact this
  · obtain rfl : lr = l := (Prod.mk.inj h).1
    omega
theorem setR_ok {l : List Fld} {nm : ByteArray} {x : Int} {lr : List Fld} {r : Bool} (h : (lr, r) = setR l nm x) (ho : okF l) (h1 : nm.size ≤ maxLen) (h2 : -9223372036854775808 ≤ x ∧ x ≤ 9223372036854775807) : okF lr := by
  have hs : okF (setS l nm x) := by
    unfold setS
    split
    · split
      · exact okF_set ho h1 h2
      · exact okF_ins ho h1 h2
    · exact okF_ins ho h1 h2
  unfold setR at h
  split at h
  · obtain rfl : lr = setS l nm x := (Prod.mk.inj h).1
    exact hs
  · obtain rfl : lr = l := (Prod.mk.inj h).1
    exact ho
/-- A draw of a record of at most N fields. -/
def DRc (w : World) (p N : Nat) (e : Ending) (w' : World) : Prop :=
  ∃ (A : Option Addr) (n c : Nat) (l : List Fld), e = .returned (.agg #[.slice A n c]) ∧ w'.ownsRow w.heap.size 91 2 (.slice A n c) n (fl l) ∧ (okF l ∧ n ≤ N) ∧ Cur w' p ∧ w.grownBy w' (some p)

def nmTexts : List ByteArray := [⟨#[97]⟩, ⟨#[98]⟩, ⟨#[99]⟩, ⟨#[100, 111, 110, 101]⟩, ⟨#[116, 105, 116, 108, 101]⟩]
theorem nmTexts_ok : ∀ s ∈ nmTexts, s.size ≤ 12 := by decide
theorem l5Name_any (p : Nat) (w : World) (hc : Cur w p) : Calls Try.prog 129 #[.pointer (some ⟨p, 0, none⟩)] w (DS w p fun s => s.size ≤ 12) := by
  have hp := hc.lt
  go_enter Try.func129, Try.ntmps129
  go_wp2_with fail
  refine (l1Str_any p _ 5 5 nmTexts _ (by decide) (by decide) (rd_lit w _ _) (lit_ne hp) (hc.below (al' _))).mono ?_
  rintro e w1 ⟨s, rfl, hs, c1, g1⟩
  go_wp2
  go_ret
  exact ⟨s, rfl, nmTexts_ok s hs, c1, only_trans (only_alloc (World.grownBy.refl _ _) _) g1⟩

set_option maxRecDepth 100000 in
set_option maxHeartbeats 2000000 in
theorem l5Record_any (p : Nat) (w : World) (hc : Cur w p) : Calls Try.prog 121 #[.pointer (some ⟨p, 0, none⟩)] w (DRc w p 3) := by
  have hp := hc.lt
  go_enter Try.func121, Try.ntmps121
  go_wp2_with fail
  refine (l1Below_any p 4 _ (by omega) (by omega) (hc.below (al (al' _)))).mono ?_
  rintro e w1 ⟨q0, rfl, hq0, c1, g1⟩
  have hg1 : w.grownBy w1 (some p) := only_trans (only_alloc (only_alloc (World.grownBy.refl w (some p)) _) _) g1
  have dR : w1.cell? ⟨w.heap.size, 0, none⟩ = some (.slice none 0 0) := gcell g1 (by simp [go_sem]) (by omega)
  have fR : w1.frozen? ⟨w.heap.size, 0, none⟩ = false := gfroz g1 (by simp; try omega) (by simp [go_sem]) (by omega)
  have dG : w1.cell? ⟨w.heap.size + 1, 0, none⟩ = some (.slice none 0 0) := gcell g1 (by simp [go_sem]) (by omega)
  have fG : w1.frozen? ⟨w.heap.size + 1, 0, none⟩ = false := gfroz g1 (by simp) (by simp [go_sem]) (by omega)
  have hs1 : w.heap.size + 2 ≤ w1.heap.size := by have := g1.size; simp at this; omega
  clear g1
  go_wp2
  go_loopw [4] (fun v wr => ∃ (q : Int) (B : Option Addr) (m d : Nat) (l : List Fld), (0 ≤ q ∧ (m : Int) + q ≤ 3) ∧ v = .int .i64 q ∧ wr.ownsRow (w.heap.size + 2) 91 2 (.slice B m d) m (fl l) ∧ okF l ∧ Cur wr p ∧ w.grownBy wr (some p) ∧ wr.cell? ⟨w.heap.size, 0, none⟩ = some (.slice none 0 0) ∧ wr.frozen? ⟨w.heap.size, 0, none⟩ = false ∧ wr.cell? ⟨w.heap.size + 1, 0, none⟩ = some (.slice B m d) ∧ wr.frozen? ⟨w.heap.size + 1, 0, none⟩ = false ∧ w.heap.size + 2 ≤ wr.heap.size) (fun v _ => (intOf v).toNat)
  case atStart => exact ⟨q0, none, 0, 0, [], by omega, rfl, own_nilF, fun f hf => (by cases hf), c1, hg1, dR, fR, dG, fG, hs1⟩
  case round =>
    clear c1 hg1 dR fR dG fG hs1
    obtain ⟨q, B, m, d, l, hq, rfl, ho, okl, hcr, hg, dR, fR, dG, fG, hsz⟩ := hrel
    by_cases hq1 : 0 < q
    · go_wp2
      refine wp_region_held_drew (S := fun _ => True) (by kernel_rfl) trivial (fun hHeld => ?_)
      clear hHeld
      replace ho := (show World.ownsRow wr.drew _ _ _ _ _ _ from ho)
      replace hcr := (show Cur wr.drew p from hcr)
      replace hg := only_drew hg
      replace hsz := (show w.heap.size + 2 ≤ wr.drew.heap.size from hsz)
      replace dR := (show wr.drew.cell? ⟨w.heap.size, 0, none⟩ = _ from dR)
      replace fR := (show wr.drew.frozen? ⟨w.heap.size, 0, none⟩ = _ from fR)
      replace dG := (show wr.drew.cell? ⟨w.heap.size + 1, 0, none⟩ = _ from dG)
      replace fG := (show wr.drew.frozen? ⟨w.heap.size + 1, 0, none⟩ = _ from fG)
      generalize wr.drew = wd at ho hcr hg hsz dR fR dG fG ⊢
      refine takeD (i := 1) (d := some 14) (v := ?_) _ rfl rfl (by kernel_rfl) (by kernel_rfl) (by kernel_rfl) (fun _ _ _ h => h) (Or.inl ⟨by rfl, ?_⟩) trivial ?_
      rotate_left
      · (intro W hSw; clear hSw; go_simp; try with_reducible rfl)
      try simp only [Act.put, List.setIfInBounds_toArray, List.set_cons_zero, List.set_cons_succ]
      refine takeD (i := 3) (d := some 16) (v := ?_) _ rfl rfl (by kernel_rfl) (by kernel_rfl) (by kernel_rfl) (fun _ _ _ h => h) (Or.inl ⟨by rfl, ?_⟩) trivial ?_
      rotate_left
      · (intro W hSw; clear hSw; go_simp; try with_reducible rfl)
      try simp only [Act.put, List.setIfInBounds_toArray, List.set_cons_zero, List.set_cons_succ]
      refine wpAnyH_ready (rs := [0, 2]) (by kernel_rfl) (by simp) ?_
      refine AllReadyH.cons rfl (fun K hK => ?_) (AllReadyH.cons rfl (fun K hK => ?_) AllReadyH.nil)
      · go_simp
        refine hK.out _ _ trivial (fun hHeld => ?_)
        clear hHeld hK K
        try simp only [Act.put, List.setIfInBounds_toArray, List.set_cons_zero, List.set_cons_succ]
        refine wpAnyH_ready (rs := [2]) (by kernel_rfl) (by simp) ?_
        refine AllReadyH.cons rfl (fun K hK => ?_) AllReadyH.nil
        go_simp
        refine (l5Name_any p _ hcr).mono ?_; rintro e W2 ⟨s, rfl, hs, cq, gq⟩
        try go_wp2_with fail
        have hg2 := only_trans hg gq
        replace ho := own_only ho gq (by omega)
        clear hg hcr
        have hg := hg2
        have hcr := cq
        clear hg2 cq
        replace dR := gcell gq dR (by omega)
        replace fR := gfroz gq (by have := hg.size; omega) fR (by omega)
        replace dG := gcell gq dG (by omega)
        replace fG := gfroz gq (by have := hg.size; omega) fG (by omega)
        have hs0 := gq.size
        replace hsz := Nat.le_trans hsz hs0
        clear hs0 gq
        refine hK.out _ _ trivial (fun hHeld => ?_)
        clear hHeld hK K
        try simp only [Act.put, List.setIfInBounds_toArray, List.set_cons_zero, List.set_cons_succ]
        refine wpAnyH_ready (rs := [4]) (by kernel_rfl) (by simp) ?_
        refine AllReadyH.cons rfl (fun K hK => ?_) AllReadyH.nil
        go_simp
        refine (l1Below_any p 5 _ (by omega) (by omega) hcr).mono ?_; rintro e W4 ⟨x, rfl, hx, cq, gq⟩
        try go_wp2_with fail
        have hg2 := only_trans hg gq
        replace ho := own_only ho gq (by omega)
        clear hg hcr
        have hg := hg2
        have hcr := cq
        clear hg2 cq
        replace dR := gcell gq dR (by omega)
        replace fR := gfroz gq (by have := hg.size; omega) fR (by omega)
        replace dG := gcell gq dG (by omega)
        replace fG := gfroz gq (by have := hg.size; omega) fG (by omega)
        have hs0 := gq.size
        replace hsz := Nat.le_trans hsz hs0
        clear hs0 gq
        refine hK.out _ _ trivial (fun hHeld => ?_)
        clear hHeld hK K
        try simp only [Act.put, List.setIfInBounds_toArray, List.set_cons_zero, List.set_cons_succ]
        refine wpAnyH_ready (rs := [5]) (by kernel_rfl) (by simp) ?_
        refine AllReadyH.cons rfl (fun K hK => ?_) AllReadyH.nil
        go_simp
        have hzc := hsz
        obtain ⟨lr, rr, hlr⟩ : ∃ lr rr, (lr, rr) = setR l s x := ⟨_, _, rfl⟩
        refine (specSetField_any B m d _ l s x lr rr _ (by omega) ho okl (by unfold maxLen; omega) (by omega) hlr).mono ?_; rintro e W5 ⟨A3, n3, c3, rfl, o3, b3⟩
        try go_wp2_with fail
        have hok3 := setR_ok hlr okl (by unfold maxLen; omega) (by omega)
        have hn3 := own_lenF o3
        have hm3 := own_lenF ho
        have hl3 := setR_len2 hlr
        have cq := hcr.below b3
        have gq := only_of_below b3 (some p)
        have hg2 := only_trans hg gq
        have hz3 := b3.size
        clear hlr
        clear hg hcr
        have hg := hg2
        have hcr := cq
        clear hg2 cq
        replace dR := gcell gq dR (by omega)
        replace fR := gfroz gq (by have := hg.size; omega) fR (by omega)
        replace dG := gcell gq dG (by omega)
        replace fG := gfroz gq (by have := hg.size; omega) fG (by omega)
        have hs0 := gq.size
        replace hsz := Nat.le_trans hsz hs0
        clear hs0 gq
        refine hK.out _ _ trivial (fun hHeld => ?_)
        clear hHeld hK K
        try simp only [Act.put, List.setIfInBounds_toArray, List.set_cons_zero, List.set_cons_succ]
        refine takeD (i := 6) (d := some 12) (v := ?_) _ rfl rfl (by kernel_rfl) (by kernel_rfl) (by kernel_rfl) (fun _ _ _ h => h) (Or.inl ⟨by rfl, ?_⟩) trivial ?_
        rotate_left
        · (intro W hSw; clear hSw; go_simp; try with_reducible rfl)
        try simp only [Act.put, List.setIfInBounds_toArray, List.set_cons_zero, List.set_cons_succ]
        refine takeD (i := 7) (d := some 19) (v := ?_) _ rfl rfl (by kernel_rfl) (by kernel_rfl) (by kernel_rfl) (fun _ _ _ h => h) (Or.inl ⟨by rfl, ?_⟩) trivial ?_
        rotate_left
        · (intro W hSw; clear hSw; go_simp; try with_reducible rfl)
        try simp only [Act.put, List.setIfInBounds_toArray, List.set_cons_zero, List.set_cons_succ]
        refine takeD (i := 8) (d := some 20) (v := ?_) _ rfl rfl (by kernel_rfl) (by kernel_rfl) (by kernel_rfl) (fun _ _ _ h => h) (Or.inl ⟨by rfl, ?_⟩) trivial ?_
        rotate_left
        · (intro W hSw; clear hSw; go_simp; try with_reducible rfl)
        try simp only [Act.put, List.setIfInBounds_toArray, List.set_cons_zero, List.set_cons_succ]
        refine wpAnyH_ready (rs := [9]) (by kernel_rfl) (by simp) ?_
        refine AllReadyH.cons rfl (fun K hK => ?_) AllReadyH.nil
        go_simp
        refine hK.out _ _ trivial (fun hHeld => ?_)
        clear hHeld hK K
        try simp only [Act.put, List.setIfInBounds_toArray, List.set_cons_zero, List.set_cons_succ]
        refine wpAnyH_done (by kernel_rfl) ?_ _
        have O8 := Lib.hid (own_base (base' := w.heap.size + 2) (ownsRow_setCell_below o3 (a := ⟨w.heap.size + 1, 0, none⟩) (by show w.heap.size + 1 < _; omega) (.slice A3 n3 c3)) (by omega))
        have C8 := Lib.hid (cur_set (v := .slice A3 n3 c3) (b := w.heap.size + 1) (o := 0) hcr (by omega))
        have G8 := Lib.hid (gro_set (v := .slice A3 n3 c3) (b := w.heap.size + 1) (o := 0) hg (by omega))
        have dR8 : Hid ((W5.setCell ⟨w.heap.size + 1, 0, none⟩ (.slice A3 n3 c3)).cell? ⟨w.heap.size, 0, none⟩ = some (.slice none 0 0)) := by
          show _ = _
          rw [World.cell?_setCell_far _ ⟨w.heap.size + 1, 0, none⟩ ⟨w.heap.size, 0, none⟩ _ (by show w.heap.size + 1 ≠ w.heap.size; omega)]
          exact dR
        have fR8 : Hid ((W5.setCell ⟨w.heap.size + 1, 0, none⟩ (.slice A3 n3 c3)).frozen? ⟨w.heap.size, 0, none⟩ = false) := Lib.hid (by simp [fR])
        have dG8 : Hid ((W5.setCell ⟨w.heap.size + 1, 0, none⟩ (.slice A3 n3 c3)).cell? ⟨w.heap.size + 1, 0, none⟩ = some (.slice A3 n3 c3)) := Lib.hid (by simp [go_sem, dG])
        have fG8 : Hid ((W5.setCell ⟨w.heap.size + 1, 0, none⟩ (.slice A3 n3 c3)).frozen? ⟨w.heap.size + 1, 0, none⟩ = false) := Lib.hid (by simp [fG])
        have hs8 : Hid (w.heap.size + 2 ≤ (W5.setCell ⟨w.heap.size + 1, 0, none⟩ (.slice A3 n3 c3)).heap.size) := Lib.hid (by simpa using hsz)
        have HQ : Hid (0 ≤ q - 1 ∧ (n3 : Int) + (q - 1) ≤ 3) := Lib.hid (by omega)
        clear o3 b3 hcr hg
        go_wp2
        go_roundw
        case rel => exact ⟨q - 1, A3, n3, c3, lr, HQ.out, by go_num, O8.out, hok3, C8.out, G8.out, dR8.out, fR8.out, dG8.out, fG8.out, hs8.out⟩
        case measure => simp [intOf]; omega
      · go_simp
        refine (l5Name_any p _ hcr).mono ?_; rintro e W2 ⟨s, rfl, hs, cq, gq⟩
        try go_wp2_with fail
        have hg2 := only_trans hg gq
        replace ho := own_only ho gq (by omega)
        clear hg hcr
        have hg := hg2
        have hcr := cq
        clear hg2 cq
        replace dR := gcell gq dR (by omega)
        replace fR := gfroz gq (by have := hg.size; omega) fR (by omega)
        replace dG := gcell gq dG (by omega)
        replace fG := gfroz gq (by have := hg.size; omega) fG (by omega)
        have hs0 := gq.size
        replace hsz := Nat.le_trans hsz hs0
        clear hs0 gq
        refine hK.out _ _ trivial (fun hHeld => ?_)
        clear hHeld hK K
        try simp only [Act.put, List.setIfInBounds_toArray, List.set_cons_zero, List.set_cons_succ]
        refine wpAnyH_ready (rs := [0, 4]) (by kernel_rfl) (by simp) ?_
        refine AllReadyH.cons rfl (fun K hK => ?_) (AllReadyH.cons rfl (fun K hK => ?_) AllReadyH.nil)
        · go_simp
          refine hK.out _ _ trivial (fun hHeld => ?_)
          clear hHeld hK K
          try simp only [Act.put, List.setIfInBounds_toArray, List.set_cons_zero, List.set_cons_succ]
          refine wpAnyH_ready (rs := [4]) (by kernel_rfl) (by simp) ?_
          refine AllReadyH.cons rfl (fun K hK => ?_) AllReadyH.nil
          go_simp
          refine (l1Below_any p 5 _ (by omega) (by omega) hcr).mono ?_; rintro e W4 ⟨x, rfl, hx, cq, gq⟩
          try go_wp2_with fail
          have hg2 := only_trans hg gq
          replace ho := own_only ho gq (by omega)
          clear hg hcr
          have hg := hg2
          have hcr := cq
          clear hg2 cq
          replace dR := gcell gq dR (by omega)
          replace fR := gfroz gq (by have := hg.size; omega) fR (by omega)
          replace dG := gcell gq dG (by omega)
          replace fG := gfroz gq (by have := hg.size; omega) fG (by omega)
          have hs0 := gq.size
          replace hsz := Nat.le_trans hsz hs0
          clear hs0 gq
          refine hK.out _ _ trivial (fun hHeld => ?_)
          clear hHeld hK K
          try simp only [Act.put, List.setIfInBounds_toArray, List.set_cons_zero, List.set_cons_succ]
          refine wpAnyH_ready (rs := [5]) (by kernel_rfl) (by simp) ?_
          refine AllReadyH.cons rfl (fun K hK => ?_) AllReadyH.nil
          go_simp
          have hzc := hsz
          obtain ⟨lr, rr, hlr⟩ : ∃ lr rr, (lr, rr) = setR l s x := ⟨_, _, rfl⟩
          refine (specSetField_any B m d _ l s x lr rr _ (by omega) ho okl (by unfold maxLen; omega) (by omega) hlr).mono ?_; rintro e W5 ⟨A3, n3, c3, rfl, o3, b3⟩
          try go_wp2_with fail
          have hok3 := setR_ok hlr okl (by unfold maxLen; omega) (by omega)
          have hn3 := own_lenF o3
          have hm3 := own_lenF ho
          have hl3 := setR_len2 hlr
          have cq := hcr.below b3
          have gq := only_of_below b3 (some p)
          have hg2 := only_trans hg gq
          have hz3 := b3.size
          clear hlr
          clear hg hcr
          have hg := hg2
          have hcr := cq
          clear hg2 cq
          replace dR := gcell gq dR (by omega)
          replace fR := gfroz gq (by have := hg.size; omega) fR (by omega)
          replace dG := gcell gq dG (by omega)
          replace fG := gfroz gq (by have := hg.size; omega) fG (by omega)
          have hs0 := gq.size
          replace hsz := Nat.le_trans hsz hs0
          clear hs0 gq
          refine hK.out _ _ trivial (fun hHeld => ?_)
          clear hHeld hK K
          try simp only [Act.put, List.setIfInBounds_toArray, List.set_cons_zero, List.set_cons_succ]
          refine takeD (i := 6) (d := some 12) (v := ?_) _ rfl rfl (by kernel_rfl) (by kernel_rfl) (by kernel_rfl) (fun _ _ _ h => h) (Or.inl ⟨by rfl, ?_⟩) trivial ?_
          rotate_left
          · (intro W hSw; clear hSw; go_simp; try with_reducible rfl)
          try simp only [Act.put, List.setIfInBounds_toArray, List.set_cons_zero, List.set_cons_succ]
          refine takeD (i := 7) (d := some 19) (v := ?_) _ rfl rfl (by kernel_rfl) (by kernel_rfl) (by kernel_rfl) (fun _ _ _ h => h) (Or.inl ⟨by rfl, ?_⟩) trivial ?_
          rotate_left
          · (intro W hSw; clear hSw; go_simp; try with_reducible rfl)
          try simp only [Act.put, List.setIfInBounds_toArray, List.set_cons_zero, List.set_cons_succ]
          refine takeD (i := 8) (d := some 20) (v := ?_) _ rfl rfl (by kernel_rfl) (by kernel_rfl) (by kernel_rfl) (fun _ _ _ h => h) (Or.inl ⟨by rfl, ?_⟩) trivial ?_
          rotate_left
          · (intro W hSw; clear hSw; go_simp; try with_reducible rfl)
          try simp only [Act.put, List.setIfInBounds_toArray, List.set_cons_zero, List.set_cons_succ]
          refine wpAnyH_ready (rs := [9]) (by kernel_rfl) (by simp) ?_
          refine AllReadyH.cons rfl (fun K hK => ?_) AllReadyH.nil
          go_simp
          refine hK.out _ _ trivial (fun hHeld => ?_)
          clear hHeld hK K
          try simp only [Act.put, List.setIfInBounds_toArray, List.set_cons_zero, List.set_cons_succ]
          refine wpAnyH_done (by kernel_rfl) ?_ _
          have O8 := Lib.hid (own_base (base' := w.heap.size + 2) (ownsRow_setCell_below o3 (a := ⟨w.heap.size + 1, 0, none⟩) (by show w.heap.size + 1 < _; omega) (.slice A3 n3 c3)) (by omega))
          have C8 := Lib.hid (cur_set (v := .slice A3 n3 c3) (b := w.heap.size + 1) (o := 0) hcr (by omega))
          have G8 := Lib.hid (gro_set (v := .slice A3 n3 c3) (b := w.heap.size + 1) (o := 0) hg (by omega))
          have dR8 : Hid ((W5.setCell ⟨w.heap.size + 1, 0, none⟩ (.slice A3 n3 c3)).cell? ⟨w.heap.size, 0, none⟩ = some (.slice none 0 0)) := by
            show _ = _
            rw [World.cell?_setCell_far _ ⟨w.heap.size + 1, 0, none⟩ ⟨w.heap.size, 0, none⟩ _ (by show w.heap.size + 1 ≠ w.heap.size; omega)]
            exact dR
          have fR8 : Hid ((W5.setCell ⟨w.heap.size + 1, 0, none⟩ (.slice A3 n3 c3)).frozen? ⟨w.heap.size, 0, none⟩ = false) := Lib.hid (by simp [fR])
          have dG8 : Hid ((W5.setCell ⟨w.heap.size + 1, 0, none⟩ (.slice A3 n3 c3)).cell? ⟨w.heap.size + 1, 0, none⟩ = some (.slice A3 n3 c3)) := Lib.hid (by simp [go_sem, dG])
          have fG8 : Hid ((W5.setCell ⟨w.heap.size + 1, 0, none⟩ (.slice A3 n3 c3)).frozen? ⟨w.heap.size + 1, 0, none⟩ = false) := Lib.hid (by simp [fG])
          have hs8 : Hid (w.heap.size + 2 ≤ (W5.setCell ⟨w.heap.size + 1, 0, none⟩ (.slice A3 n3 c3)).heap.size) := Lib.hid (by simpa using hsz)
          have HQ : Hid (0 ≤ q - 1 ∧ (n3 : Int) + (q - 1) ≤ 3) := Lib.hid (by omega)
          clear o3 b3 hcr hg
          go_wp2
          go_roundw
          case rel => exact ⟨q - 1, A3, n3, c3, lr, HQ.out, by go_num, O8.out, hok3, C8.out, G8.out, dR8.out, fR8.out, dG8.out, fG8.out, hs8.out⟩
          case measure => simp [intOf]; omega
        · go_simp
          refine (l1Below_any p 5 _ (by omega) (by omega) hcr).mono ?_; rintro e W4 ⟨x, rfl, hx, cq, gq⟩
          try go_wp2_with fail
          have hg2 := only_trans hg gq
          replace ho := own_only ho gq (by omega)
          clear hg hcr
          have hg := hg2
          have hcr := cq
          clear hg2 cq
          replace dR := gcell gq dR (by omega)
          replace fR := gfroz gq (by have := hg.size; omega) fR (by omega)
          replace dG := gcell gq dG (by omega)
          replace fG := gfroz gq (by have := hg.size; omega) fG (by omega)
          have hs0 := gq.size
          replace hsz := Nat.le_trans hsz hs0
          clear hs0 gq
          refine hK.out _ _ trivial (fun hHeld => ?_)
          clear hHeld hK K
          try simp only [Act.put, List.setIfInBounds_toArray, List.set_cons_zero, List.set_cons_succ]
          refine wpAnyH_ready (rs := [0]) (by kernel_rfl) (by simp) ?_
          refine AllReadyH.cons rfl (fun K hK => ?_) AllReadyH.nil
          go_simp
          refine hK.out _ _ trivial (fun hHeld => ?_)
          clear hHeld hK K
          try simp only [Act.put, List.setIfInBounds_toArray, List.set_cons_zero, List.set_cons_succ]
          refine wpAnyH_ready (rs := [5]) (by kernel_rfl) (by simp) ?_
          refine AllReadyH.cons rfl (fun K hK => ?_) AllReadyH.nil
          go_simp
          have hzc := hsz
          obtain ⟨lr, rr, hlr⟩ : ∃ lr rr, (lr, rr) = setR l s x := ⟨_, _, rfl⟩
          refine (specSetField_any B m d _ l s x lr rr _ (by omega) ho okl (by unfold maxLen; omega) (by omega) hlr).mono ?_; rintro e W5 ⟨A3, n3, c3, rfl, o3, b3⟩
          try go_wp2_with fail
          have hok3 := setR_ok hlr okl (by unfold maxLen; omega) (by omega)
          have hn3 := own_lenF o3
          have hm3 := own_lenF ho
          have hl3 := setR_len2 hlr
          have cq := hcr.below b3
          have gq := only_of_below b3 (some p)
          have hg2 := only_trans hg gq
          have hz3 := b3.size
          clear hlr
          clear hg hcr
          have hg := hg2
          have hcr := cq
          clear hg2 cq
          replace dR := gcell gq dR (by omega)
          replace fR := gfroz gq (by have := hg.size; omega) fR (by omega)
          replace dG := gcell gq dG (by omega)
          replace fG := gfroz gq (by have := hg.size; omega) fG (by omega)
          have hs0 := gq.size
          replace hsz := Nat.le_trans hsz hs0
          clear hs0 gq
          refine hK.out _ _ trivial (fun hHeld => ?_)
          clear hHeld hK K
          try simp only [Act.put, List.setIfInBounds_toArray, List.set_cons_zero, List.set_cons_succ]
          refine takeD (i := 6) (d := some 12) (v := ?_) _ rfl rfl (by kernel_rfl) (by kernel_rfl) (by kernel_rfl) (fun _ _ _ h => h) (Or.inl ⟨by rfl, ?_⟩) trivial ?_
          rotate_left
          · (intro W hSw; clear hSw; go_simp; try with_reducible rfl)
          try simp only [Act.put, List.setIfInBounds_toArray, List.set_cons_zero, List.set_cons_succ]
          refine takeD (i := 7) (d := some 19) (v := ?_) _ rfl rfl (by kernel_rfl) (by kernel_rfl) (by kernel_rfl) (fun _ _ _ h => h) (Or.inl ⟨by rfl, ?_⟩) trivial ?_
          rotate_left
          · (intro W hSw; clear hSw; go_simp; try with_reducible rfl)
          try simp only [Act.put, List.setIfInBounds_toArray, List.set_cons_zero, List.set_cons_succ]
          refine takeD (i := 8) (d := some 20) (v := ?_) _ rfl rfl (by kernel_rfl) (by kernel_rfl) (by kernel_rfl) (fun _ _ _ h => h) (Or.inl ⟨by rfl, ?_⟩) trivial ?_
          rotate_left
          · (intro W hSw; clear hSw; go_simp; try with_reducible rfl)
          try simp only [Act.put, List.setIfInBounds_toArray, List.set_cons_zero, List.set_cons_succ]
          refine wpAnyH_ready (rs := [9]) (by kernel_rfl) (by simp) ?_
          refine AllReadyH.cons rfl (fun K hK => ?_) AllReadyH.nil
          go_simp
          refine hK.out _ _ trivial (fun hHeld => ?_)
          clear hHeld hK K
          try simp only [Act.put, List.setIfInBounds_toArray, List.set_cons_zero, List.set_cons_succ]
          refine wpAnyH_done (by kernel_rfl) ?_ _
          have O8 := Lib.hid (own_base (base' := w.heap.size + 2) (ownsRow_setCell_below o3 (a := ⟨w.heap.size + 1, 0, none⟩) (by show w.heap.size + 1 < _; omega) (.slice A3 n3 c3)) (by omega))
          have C8 := Lib.hid (cur_set (v := .slice A3 n3 c3) (b := w.heap.size + 1) (o := 0) hcr (by omega))
          have G8 := Lib.hid (gro_set (v := .slice A3 n3 c3) (b := w.heap.size + 1) (o := 0) hg (by omega))
          have dR8 : Hid ((W5.setCell ⟨w.heap.size + 1, 0, none⟩ (.slice A3 n3 c3)).cell? ⟨w.heap.size, 0, none⟩ = some (.slice none 0 0)) := by
            show _ = _
            rw [World.cell?_setCell_far _ ⟨w.heap.size + 1, 0, none⟩ ⟨w.heap.size, 0, none⟩ _ (by show w.heap.size + 1 ≠ w.heap.size; omega)]
            exact dR
          have fR8 : Hid ((W5.setCell ⟨w.heap.size + 1, 0, none⟩ (.slice A3 n3 c3)).frozen? ⟨w.heap.size, 0, none⟩ = false) := Lib.hid (by simp [fR])
          have dG8 : Hid ((W5.setCell ⟨w.heap.size + 1, 0, none⟩ (.slice A3 n3 c3)).cell? ⟨w.heap.size + 1, 0, none⟩ = some (.slice A3 n3 c3)) := Lib.hid (by simp [go_sem, dG])
          have fG8 : Hid ((W5.setCell ⟨w.heap.size + 1, 0, none⟩ (.slice A3 n3 c3)).frozen? ⟨w.heap.size + 1, 0, none⟩ = false) := Lib.hid (by simp [fG])
          have hs8 : Hid (w.heap.size + 2 ≤ (W5.setCell ⟨w.heap.size + 1, 0, none⟩ (.slice A3 n3 c3)).heap.size) := Lib.hid (by simpa using hsz)
          have HQ : Hid (0 ≤ q - 1 ∧ (n3 : Int) + (q - 1) ≤ 3) := Lib.hid (by omega)
          clear o3 b3 hcr hg
          go_wp2
          go_roundw
          case rel => exact ⟨q - 1, A3, n3, c3, lr, HQ.out, by go_num, O8.out, hok3, C8.out, G8.out, dR8.out, fR8.out, dG8.out, fG8.out, hs8.out⟩
          case measure => simp [intOf]; omega
    · have hq2 : q = 0 := by omega
      subst hq2
      have O8 := Lib.hid (own_base (base' := w.heap.size) (ownsRow_setCell_below ho (a := ⟨w.heap.size, 0, none⟩) (by show w.heap.size < w.heap.size + 2; omega) (.slice B m d)) (by omega))
      have C8 := Lib.hid (cur_set (v := .slice B m d) (b := w.heap.size) (o := 0) hcr (by omega))
      have G8 := Lib.hid (gro_set (v := .slice B m d) (b := w.heap.size) (o := 0) hg (Nat.le_refl _))
      go_wp2
      exact bodyPost_ret (v := .agg #[.slice B m d]) (by simp [results, Try.results121, go_sem, dR]) rfl ⟨B, m, d, l, rfl, O8.out, ⟨okl, by omega⟩, C8.out, G8.out⟩
end Go.Proofs.Ytbbngihmjdndoaa
