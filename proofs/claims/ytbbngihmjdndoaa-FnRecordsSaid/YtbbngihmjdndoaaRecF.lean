/-
  Proved: the contracts of the draws of DecodeRecord's and SetField's arguments. Only what is needed of what is drawn is said. Conditions: the code reads as a list of at most 2^40 bytes.
  By an AI agent; no person has read it.
-/
import Derived.Test.YtbbngihmjdndoaaRecE
import Derived.Test.YtbbngihmjdndoaaFldE
namespace Go.Proofs.Ytbbngihmjdndoaa
open Go.RowKit
set_option linter.unusedSimpArgs false
set_option linter.unusedVariables false

theorem encR_small (l : List Fld) : (encR l).length ≤ 200 := by
  unfold encR
  cases hr : recB l
  · simp
  · have h6 := recB_len hr
    have := encFK_len (l := l) (fun f hf => by have := nameB_len ((recB_iff.1 hr).2.1 f hf).1; rw [str_len'] at this; omega) l.length
    rw [encFK_all] at this
    simp only [if_true]
    omega
theorem drawDecodeRecord_any (A : Option Addr) (n c : Nat) (l : List UInt8) (w : World) (hn : n ≤ 1099511627776) (hr : Rd w 1 A n (l.map bv)) :
    Calls Try.prog 67 #[.slice A n c] w (DrB w fun m => m.length ≤ 201) := by
  go_enter Try.func67, Try.ntmps67
  go_wp2_with fail
  refine (l1New_any A n c l _ hn hr).mono ?_
  rintro e w1 ⟨p, rfl, c1, b1, hp⟩
  go_wp2_with fail
  refine (l5Record_any p _ c1).mono ?_
  rintro e w2 ⟨B, m, d, lf, rfl, o2, ⟨okl, hm⟩, c2, g2⟩
  have B2 := below_only b1 g2 b1.size hp
  go_wp2_with fail
  refine (specEncodeRecord_any B m d lf _ (by omega) (Rd.of_own o2) okl).mono ?_
  rintro e w3 ⟨A3, n3, c3, rfl, o3, b3⟩
  have B3 := B2.trans (b3.mono B2.size)
  have cc3 := c2.below b3
  have hp3 := c2.lt
  have hl3 := encR_small lf
  have q3 := own_lenB o3
  go_wp2_with fail
  refine (l1Once_any p 3 _ (by omega) (by omega) cc3).mono ?_
  rintro e w4 ⟨x, rfl, c4, g4⟩
  have B4 := below_only B3 g4 B3.size hp
  have o4 := own_only o3 g4 hp3
  clear o3 g4 b3 cc3 o2
  cases x
  · have HO := Lib.hid (own_base o4 B2.size)
    clear o4
    go_wp2
    go_ret
    exact ⟨_, _, _, _, rfl, HO.out, by omega, B4⟩
  · go_wp2_with fail
    refine (l1Bent_any p A3 n3 c3 _ _ (by omega) (Rd.of_own o4) c4).mono ?_
    rintro e w5 ⟨A5, n5, c5, l5, rfl, o5, hl5, c5', g5⟩
    have B5 := below_only B4 g5 B4.size hp
    have HO := Lib.hid (own_base o5 B4.size)
    have hl6 : l5.length ≤ 201 := by omega
    clear o5 hl5
    go_wp2
    go_ret
    exact ⟨_, _, _, l5, rfl, HO.out, hl6, B5⟩

def fldTexts : List ByteArray := [⟨#[97]⟩, ⟨#[98]⟩, ⟨#[99]⟩, ⟨#[]⟩, ⟨#[122, 122]⟩, ⟨#[81]⟩]
theorem fldTexts_ok : ∀ s ∈ fldTexts, s.size ≤ 12 := by decide
def sfInts : List Int := [0, 7, -1, 1000000000, 1000000001]
theorem sfInts_ok : ∀ x ∈ sfInts, -9223372036854775808 ≤ x ∧ x ≤ 9223372036854775807 := by decide
/-- A draw of SetField's arguments. -/
def DSF (w : World) (e : Ending) (w' : World) : Prop :=
  ∃ (A : Option Addr) (n c : Nat) (l : List Fld) (s : ByteArray) (x : Int), e = .returned (.tuple #[.agg #[.slice A n c], .string s, .int .i64 x]) ∧ w'.ownsRow w.heap.size 91 2 (.slice A n c) n (fl l) ∧ (okF l ∧ n ≤ 9 ∧ s.size ≤ 12 ∧ -9223372036854775808 ≤ x ∧ x ≤ 9223372036854775807) ∧ Below w.heap.size w w'

set_option maxRecDepth 100000 in
set_option maxHeartbeats 2000000 in
theorem drawSetField_any (A : Option Addr) (n c : Nat) (lc : List UInt8) (w : World) (hn : n ≤ 1099511627776) (hr : Rd w 1 A n (lc.map bv)) :
    Calls Try.prog 66 #[.slice A n c] w (DSF w) := by
  go_enter Try.func66, Try.ntmps66
  go_wp2_with fail
  refine (l1New_any A n c lc _ hn (hr.alloc _)).mono ?_
  rintro e w1 ⟨p, rfl, c1, b1, hp⟩
  have hpw : w.heap.size ≤ p := by simp at hp; omega
  have hpw1 : w.heap.size + 1 ≤ p := by simpa using hp
  have hp1 := c1.lt
  have b01 : Below w.heap.size w w1 := Below.trans (al (Below.refl _ _)) (b1.mono (by simp))
  have dR : w1.cell? ⟨w.heap.size, 0, none⟩ = some (.slice none 0 0) := kcell b1 (by simp [go_sem])
  have fR : w1.frozen? ⟨w.heap.size, 0, none⟩ = false := (b1.frozen (p := ⟨w.heap.size, 0, none⟩) (by simp)).trans (by simp [go_sem])
  clear b1 hp
  go_wp2_with fail
  refine (l5Any_any p _ c1).mono ?_
  rintro e w2 ⟨B, m, d, l, rfl, ho, ⟨okl, hm⟩, c2, g2⟩
  have hs2 : w1.heap.size ≤ w2.heap.size := g2.size
  obtain ⟨G0, hG0⟩ : ∃ g, g = w2.heap.size := ⟨_, rfl⟩
  obtain ⟨V, hV⟩ : ∃ V, V = w2.alloc (.cells #[.slice B m d] 28) := ⟨_, rfl⟩
  have bV : Below w2.heap.size w2 V := by rw [hV]; exact al (Below.refl _ _)
  have gV : w2.grownBy V (some p) := only_of_below bV _
  have hg : Below w.heap.size w V := below_only (below_only b01 g2 b01.size hpw) gV (Nat.le_trans b01.size hs2) hpw
  have hcr := c2.below bV
  replace dR := gcell gV (gcell g2 dR (by omega)) (by omega)
  replace fR := gfroz gV (by omega) (gfroz g2 (by omega) fR (by omega)) (by omega)
  have dG : V.cell? ⟨G0, 0, none⟩ = some (.slice B m d) := by rw [hV, hG0]; simp
  have hsz : G0 + 1 ≤ V.heap.size := by rw [hV, hG0]; simp
  have hpB : ∀ ad, B = some ad → ad.block ≠ p := fun ad h => by have := (own_rng ho ad h).1; omega
  replace ho := own_below (own_base ho (base' := w.heap.size + 1) (by omega)) bV
  have hGp : p < G0 := by omega
  go_wp2_with fail
  rw [← hV]
  obtain ⟨V3, hV3⟩ : ∃ V3, V3 = V.alloc (.cells #[.string ⟨#[97]⟩, .string ⟨#[98]⟩, .string ⟨#[99]⟩, .string ⟨#[]⟩, .string ⟨#[122, 122]⟩, .string ⟨#[81]⟩] 9) := ⟨_, rfl⟩
  have b3 : Below V.heap.size V V3 := by rw [hV3]; exact al (Below.refl _ _)
  have gq : V.grownBy V3 (some p) := only_of_below b3 _
  have r3 : Rd V3 1 (some ⟨w2.heap.size + 1, 0, none⟩) 6 (fldTexts.map Value.string) := by rw [hV3]; exact rd_lit2 V _ _ _ (by rw [hV]; simp)
  have n3 : w2.heap.size + 1 ≠ p := by omega
  rw [← hV3]
  refine (l1Str_any p _ 6 6 fldTexts _ (by decide) (by decide) r3 (fun ad h => by injection h with h; subst h; exact n3) (hcr.below b3)).mono ?_
  rintro e w4 ⟨s, rfl, hs, cq, gq4⟩
  have hss := fldTexts_ok s hs
  have g4 := only_trans gq gq4
  replace ho := own_onlyB ho g4 hpB
  replace hcr := cq
  replace dR := gcell g4 dR (by omega)
  replace fR := gfroz g4 (by omega) fR (by omega)
  replace dG := gcell g4 dG (by omega)
  replace hg := below_only hg g4 hg.size hpw
  replace hsz := Nat.le_trans hsz g4.size
  rw [← hG0]
  clear hV3 b3 gq r3 n3 gq4 g4 hV bV gV g2 c1 c2 hs2 b01 cq hG0
  go_wp2
  refine wp_region_held_drew (S := fun _ => True) (by kernel_rfl) trivial (fun hHeld => ?_)
  clear hHeld
  replace ho := (show World.ownsRow w4.drew _ _ _ _ _ _ from ho)
  replace hcr := (show Cur w4.drew p from hcr)
  replace hg := (show Below w.heap.size w w4.drew from hg.drew)
  replace hsz := (show G0 + 1 ≤ w4.drew.heap.size from hsz)
  replace dR := (show w4.drew.cell? ⟨w.heap.size, 0, none⟩ = _ from dR)
  replace fR := (show w4.drew.frozen? ⟨w.heap.size, 0, none⟩ = _ from fR)
  replace dG := (show w4.drew.cell? ⟨G0, 0, none⟩ = _ from dG)
  generalize w4.drew = wd at ho hcr hg hsz dR fR dG ⊢
  refine takeD (i := 1) (d := some 16) (v := ?_) _ rfl rfl (by kernel_rfl) (by kernel_rfl) (by kernel_rfl) (fun _ _ _ h => h) (Or.inl ⟨by rfl, ?_⟩) trivial ?_
  rotate_left
  · (intro W hSw; clear hSw; go_simp; try with_reducible rfl)
  try simp only [Act.put, List.setIfInBounds_toArray, List.set_cons_zero, List.set_cons_succ]
  refine takeD (i := 2) (d := some 17) (v := ?_) _ rfl rfl (by kernel_rfl) (by kernel_rfl) (by kernel_rfl) (fun _ _ _ h => h) (Or.inl ⟨by rfl, ?_⟩) trivial ?_
  rotate_left
  · (intro W hSw; clear hSw; go_simp; try with_reducible rfl)
  try simp only [Act.put, List.setIfInBounds_toArray, List.set_cons_zero, List.set_cons_succ]
  refine wpAnyH_ready (rs := [0, 3]) (by kernel_rfl) (by simp) ?_
  refine AllReadyH.cons rfl (fun K hK => ?_) (AllReadyH.cons rfl (fun K hK => ?_) AllReadyH.nil)
  · go_simp
    refine hK.out _ _ trivial (fun hHeld => ?_)
    clear hHeld hK K
    try simp only [Act.put, List.setIfInBounds_toArray, List.set_cons_zero, List.set_cons_succ]
    refine wpAnyH_ready (rs := [3]) (by kernel_rfl) (by simp) ?_
    refine AllReadyH.cons rfl (fun K hK => ?_) AllReadyH.nil
    go_simp
    obtain ⟨U3, hU⟩ : ∃ U, U = wd.alloc (.cells #[.int .i64 0, .int .i64 7, .int .i64 (-1), .int .i64 1000000000, .int .i64 1000000001] 3) := ⟨_, rfl⟩
    have b : Below wd.heap.size wd U3 := by rw [hU]; exact al (Below.refl _ _)
    have gq : wd.grownBy U3 (some p) := only_of_below b _
    have n3 : wd.heap.size ≠ p := by have := hcr.lt; omega
    replace ho := own_onlyB ho gq hpB
    replace hcr := hcr.below b
    replace dR := gcell gq dR (by omega)
    replace fR := gfroz gq (by omega) fR (by omega)
    replace dG := gcell gq dG (by omega)
    replace hg := below_only hg gq hg.size hpw
    have hs0 := gq.size
    replace hsz := Nat.le_trans hsz hs0
    clear hs0 gq b
    have r3 : Rd U3 1 (some ⟨wd.heap.size, 0, none⟩) 5 (sfInts.map iv) := by rw [hU]; exact rd_lit2 wd _ _ _ rfl
    rw [← hU]
    clear hU
    refine hK.out _ _ trivial (fun hHeld => ?_)
    clear hHeld hK K
    try simp only [Act.put, List.setIfInBounds_toArray, List.set_cons_zero, List.set_cons_succ]
    refine wpAnyH_ready (rs := [4]) (by kernel_rfl) (by simp) ?_
    refine AllReadyH.cons rfl (fun K hK => ?_) AllReadyH.nil
    go_simp
    refine (l1Int_any p _ 5 5 sfInts _ (by decide) (by decide) r3 (fun ad h => by injection h with h; subst h; exact n3) hcr).mono ?_; rintro e W4 ⟨x, rfl, hx, cq, gq⟩
    try go_wp2_with fail
    replace ho := own_onlyB ho gq hpB
    replace hcr := cq
    replace dR := gcell gq dR (by omega)
    replace fR := gfroz gq (by omega) fR (by omega)
    replace dG := gcell gq dG (by omega)
    replace hg := below_only hg gq hg.size hpw
    have hs0 := gq.size
    replace hsz := Nat.le_trans hsz hs0
    clear hs0 gq cq
    refine hK.out _ _ trivial (fun hHeld => ?_)
    clear hHeld hK K
    try simp only [Act.put, List.setIfInBounds_toArray, List.set_cons_zero, List.set_cons_succ]
    refine wpAnyH_ready (rs := [5]) (by kernel_rfl) (by simp) ?_
    refine AllReadyH.cons rfl (fun K hK => ?_) AllReadyH.nil
    go_simp
    refine hK.out _ _ trivial (fun hHeld => ?_)
    clear hHeld hK K
    try simp only [Act.put, List.setIfInBounds_toArray, List.set_cons_zero, List.set_cons_succ]
    refine takeD (i := 6) (d := some 3) (v := ?_) _ rfl rfl (by kernel_rfl) (by kernel_rfl) (by kernel_rfl) (fun _ _ _ h => h) (Or.inl ⟨by rfl, ?_⟩) trivial ?_
    rotate_left
    · (intro W hSw; clear hSw; go_simp; try with_reducible rfl)
    try simp only [Act.put, List.setIfInBounds_toArray, List.set_cons_zero, List.set_cons_succ]
    refine takeD (i := 7) (d := some 4) (v := ?_) _ rfl rfl (by kernel_rfl) (by kernel_rfl) (by kernel_rfl) (fun _ _ _ h => h) (Or.inl ⟨by rfl, ?_⟩) trivial ?_
    rotate_left
    · (intro W hSw; clear hSw; go_simp; try with_reducible rfl)
    try simp only [Act.put, List.setIfInBounds_toArray, List.set_cons_zero, List.set_cons_succ]
    refine wpAnyH_done (by kernel_rfl) ?_ _
    have O8 := Lib.hid (own_base (base' := w.heap.size) (ownsRow_setCell_below ho (a := ⟨w.heap.size, 0, none⟩) (by show w.heap.size < w.heap.size + 1; omega) (.slice B m d)) (by omega))
    have B8 := Lib.hid (hg.setCell (p := ⟨w.heap.size, 0, none⟩) (Nat.le_refl _) (.slice B m d))
    have hx8 := sfInts_ok x hx
    clear ho hcr hg
    go_wp2
    exact bodyPost_ret (v := .tuple #[.agg #[.slice B m d], .string s, .int .i64 x]) (by simp [results, Try.results66, go_sem, dR]) rfl ⟨B, m, d, l, s, x, rfl, O8.out, ⟨okl, hm, hss, hx8⟩, B8.out⟩
  · go_simp
    obtain ⟨U3, hU⟩ : ∃ U, U = wd.alloc (.cells #[.int .i64 0, .int .i64 7, .int .i64 (-1), .int .i64 1000000000, .int .i64 1000000001] 3) := ⟨_, rfl⟩
    have b : Below wd.heap.size wd U3 := by rw [hU]; exact al (Below.refl _ _)
    have gq : wd.grownBy U3 (some p) := only_of_below b _
    have n3 : wd.heap.size ≠ p := by have := hcr.lt; omega
    replace ho := own_onlyB ho gq hpB
    replace hcr := hcr.below b
    replace dR := gcell gq dR (by omega)
    replace fR := gfroz gq (by omega) fR (by omega)
    replace dG := gcell gq dG (by omega)
    replace hg := below_only hg gq hg.size hpw
    have hs0 := gq.size
    replace hsz := Nat.le_trans hsz hs0
    clear hs0 gq b
    have r3 : Rd U3 1 (some ⟨wd.heap.size, 0, none⟩) 5 (sfInts.map iv) := by rw [hU]; exact rd_lit2 wd _ _ _ rfl
    rw [← hU]
    clear hU
    refine hK.out _ _ trivial (fun hHeld => ?_)
    clear hHeld hK K
    try simp only [Act.put, List.setIfInBounds_toArray, List.set_cons_zero, List.set_cons_succ]
    refine wpAnyH_ready (rs := [0, 4]) (by kernel_rfl) (by simp) ?_
    refine AllReadyH.cons rfl (fun K hK => ?_) (AllReadyH.cons rfl (fun K hK => ?_) AllReadyH.nil)
    · go_simp
      refine hK.out _ _ trivial (fun hHeld => ?_)
      clear hHeld hK K
      try simp only [Act.put, List.setIfInBounds_toArray, List.set_cons_zero, List.set_cons_succ]
      refine wpAnyH_ready (rs := [4]) (by kernel_rfl) (by simp) ?_
      refine AllReadyH.cons rfl (fun K hK => ?_) AllReadyH.nil
      go_simp
      refine (l1Int_any p _ 5 5 sfInts _ (by decide) (by decide) r3 (fun ad h => by injection h with h; subst h; exact n3) hcr).mono ?_; rintro e W4 ⟨x, rfl, hx, cq, gq⟩
      try go_wp2_with fail
      replace ho := own_onlyB ho gq hpB
      replace hcr := cq
      replace dR := gcell gq dR (by omega)
      replace fR := gfroz gq (by omega) fR (by omega)
      replace dG := gcell gq dG (by omega)
      replace hg := below_only hg gq hg.size hpw
      have hs0 := gq.size
      replace hsz := Nat.le_trans hsz hs0
      clear hs0 gq cq
      refine hK.out _ _ trivial (fun hHeld => ?_)
      clear hHeld hK K
      try simp only [Act.put, List.setIfInBounds_toArray, List.set_cons_zero, List.set_cons_succ]
      refine wpAnyH_ready (rs := [5]) (by kernel_rfl) (by simp) ?_
      refine AllReadyH.cons rfl (fun K hK => ?_) AllReadyH.nil
      go_simp
      refine hK.out _ _ trivial (fun hHeld => ?_)
      clear hHeld hK K
      try simp only [Act.put, List.setIfInBounds_toArray, List.set_cons_zero, List.set_cons_succ]
      refine takeD (i := 6) (d := some 3) (v := ?_) _ rfl rfl (by kernel_rfl) (by kernel_rfl) (by kernel_rfl) (fun _ _ _ h => h) (Or.inl ⟨by rfl, ?_⟩) trivial ?_
      rotate_left
      · (intro W hSw; clear hSw; go_simp; try with_reducible rfl)
      try simp only [Act.put, List.setIfInBounds_toArray, List.set_cons_zero, List.set_cons_succ]
      refine takeD (i := 7) (d := some 4) (v := ?_) _ rfl rfl (by kernel_rfl) (by kernel_rfl) (by kernel_rfl) (fun _ _ _ h => h) (Or.inl ⟨by rfl, ?_⟩) trivial ?_
      rotate_left
      · (intro W hSw; clear hSw; go_simp; try with_reducible rfl)
      try simp only [Act.put, List.setIfInBounds_toArray, List.set_cons_zero, List.set_cons_succ]
      refine wpAnyH_done (by kernel_rfl) ?_ _
      have O8 := Lib.hid (own_base (base' := w.heap.size) (ownsRow_setCell_below ho (a := ⟨w.heap.size, 0, none⟩) (by show w.heap.size < w.heap.size + 1; omega) (.slice B m d)) (by omega))
      have B8 := Lib.hid (hg.setCell (p := ⟨w.heap.size, 0, none⟩) (Nat.le_refl _) (.slice B m d))
      have hx8 := sfInts_ok x hx
      clear ho hcr hg
      go_wp2
      exact bodyPost_ret (v := .tuple #[.agg #[.slice B m d], .string s, .int .i64 x]) (by simp [results, Try.results66, go_sem, dR]) rfl ⟨B, m, d, l, s, x, rfl, O8.out, ⟨okl, hm, hss, hx8⟩, B8.out⟩
    · go_simp
      refine (l1Int_any p _ 5 5 sfInts _ (by decide) (by decide) r3 (fun ad h => by injection h with h; subst h; exact n3) hcr).mono ?_; rintro e W4 ⟨x, rfl, hx, cq, gq⟩
      try go_wp2_with fail
      replace ho := own_onlyB ho gq hpB
      replace hcr := cq
      replace dR := gcell gq dR (by omega)
      replace fR := gfroz gq (by omega) fR (by omega)
      replace dG := gcell gq dG (by omega)
      replace hg := below_only hg gq hg.size hpw
      have hs0 := gq.size
      replace hsz := Nat.le_trans hsz hs0
      clear hs0 gq cq
      refine hK.out _ _ trivial (fun hHeld => ?_)
      clear hHeld hK K
      try simp only [Act.put, List.setIfInBounds_toArray, List.set_cons_zero, List.set_cons_succ]
      refine wpAnyH_ready (rs := [0]) (by kernel_rfl) (by simp) ?_
      refine AllReadyH.cons rfl (fun K hK => ?_) AllReadyH.nil
      go_simp
      refine hK.out _ _ trivial (fun hHeld => ?_)
      clear hHeld hK K
      try simp only [Act.put, List.setIfInBounds_toArray, List.set_cons_zero, List.set_cons_succ]
      refine wpAnyH_ready (rs := [5]) (by kernel_rfl) (by simp) ?_
      refine AllReadyH.cons rfl (fun K hK => ?_) AllReadyH.nil
      go_simp
      refine hK.out _ _ trivial (fun hHeld => ?_)
      clear hHeld hK K
      try simp only [Act.put, List.setIfInBounds_toArray, List.set_cons_zero, List.set_cons_succ]
      refine takeD (i := 6) (d := some 3) (v := ?_) _ rfl rfl (by kernel_rfl) (by kernel_rfl) (by kernel_rfl) (fun _ _ _ h => h) (Or.inl ⟨by rfl, ?_⟩) trivial ?_
      rotate_left
      · (intro W hSw; clear hSw; go_simp; try with_reducible rfl)
      try simp only [Act.put, List.setIfInBounds_toArray, List.set_cons_zero, List.set_cons_succ]
      refine takeD (i := 7) (d := some 4) (v := ?_) _ rfl rfl (by kernel_rfl) (by kernel_rfl) (by kernel_rfl) (fun _ _ _ h => h) (Or.inl ⟨by rfl, ?_⟩) trivial ?_
      rotate_left
      · (intro W hSw; clear hSw; go_simp; try with_reducible rfl)
      try simp only [Act.put, List.setIfInBounds_toArray, List.set_cons_zero, List.set_cons_succ]
      refine wpAnyH_done (by kernel_rfl) ?_ _
      have O8 := Lib.hid (own_base (base' := w.heap.size) (ownsRow_setCell_below ho (a := ⟨w.heap.size, 0, none⟩) (by show w.heap.size < w.heap.size + 1; omega) (.slice B m d)) (by omega))
      have B8 := Lib.hid (hg.setCell (p := ⟨w.heap.size, 0, none⟩) (Nat.le_refl _) (.slice B m d))
      have hx8 := sfInts_ok x hx
      clear ho hcr hg
      go_wp2
      exact bodyPost_ret (v := .tuple #[.agg #[.slice B m d], .string s, .int .i64 x]) (by simp [results, Try.results66, go_sem, dR]) rfl ⟨B, m, d, l, s, x, rfl, O8.out, ⟨okl, hm, hss, hx8⟩, B8.out⟩
end Go.Proofs.Ytbbngihmjdndoaa
