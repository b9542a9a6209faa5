/-
  Proved: the contract of the reference's draw of any record. Only what is needed of what is drawn is said. Conditions: the pointer's block is a cursor.
  By an AI agent; no person has read it.
-/
import Derived.Test.YtbbngihmjdndoaaRecD
import Derived.Test.YtbbngihmjdndoaaCatR
namespace Go.Proofs.Ytbbngihmjdndoaa
open Go.RowKit
set_option linter.unusedSimpArgs false
set_option linter.unusedVariables false
theorem cell_apartE {w w' : World} {A : Option Addr} {b o : Nat} {v : Value} (hg : w.grownBy w' (A.map (·.block))) (h : w.cell? ⟨b, o, none⟩ = some v) (hA : ∀ ad, A = some ad → ad.block ≠ b) : w'.cell? ⟨b, o, none⟩ = some v :=
  (World.cell?_of_block (a := ⟨b, o, none⟩) (grown_blk hg (World.block_lt_of_cell? w _ h) hA)).trans h
theorem heap_atE {w : World} {o : Obj} {g : Nat} (h : g = w.heap.size) : (w.alloc o).heap[g]? = some o := by
  subst h
  exact heap_alloc_new w o

def anyTexts : List ByteArray := [⟨#[]⟩, ⟨#[65]⟩, ⟨#[122, 122, 122, 122, 122, 122, 122, 122, 122]⟩, ⟨#[122]⟩, ⟨#[97]⟩]
theorem anyTexts_ok' : ∀ s ∈ anyTexts, s.size ≤ 12 := by decide
theorem anyTexts_ok : ∀ s ∈ anyTexts, s.size ≤ maxLen := fun s h => Nat.le_trans (anyTexts_ok' s h) (by unfold maxLen; omega)
def setTexts : List ByteArray := [⟨#[100]⟩, ⟨#[101]⟩, ⟨#[102]⟩, ⟨#[103]⟩, ⟨#[104]⟩, ⟨#[105]⟩]
theorem setTexts_ok : ∀ s ∈ setTexts, s.size ≤ 12 := by decide
theorem okF_snoc {l : List Fld} {s : ByteArray} {x : Int} (h : okF l) (h1 : s.size ≤ maxLen) (h2 : -9223372036854775808 ≤ x ∧ x ≤ 9223372036854775807) : okF (l ++ [(s, x)]) := by
  intro f hf
  rcases List.mem_append.1 hf with hf | hf
  · exact h f hf
  · rw [List.mem_singleton] at hf
    subst hf
    exact ⟨h1, h2⟩
theorem own_setNe {w : World} {base : Nat} {e : TypeId} {size : Nat} {A : Option Addr} {n c : Nat} {xs : List Value} (h : w.ownsRow base e size (.slice A n c) n xs) {a : Addr} (v : Value) (hne : ∀ ad, A = some ad → ad.block ≠ a.block) : (w.setCell a v).ownsRow base e size (.slice A n c) n xs :=
  own_grown h (only_setCell (World.grownBy.refl w (some a.block)) (.inl rfl) v) (fun ad ha e2 => by injection e2 with e2; exact hne ad ha e2.symm)

set_option maxRecDepth 100000 in
set_option maxHeartbeats 8000000 in
theorem l5Any_any (p : Nat) (w : World) (hc : Cur w p) : Calls Try.prog 118 #[.pointer (some ⟨p, 0, none⟩)] w (DRc w p 9) := by
  obtain ⟨i0, hi, hz0, hz1, hz2⟩ := info_parts infoF
  have hp := hc.lt
  go_enter Try.func118, Try.ntmps118
  go_wp2_with fail
  refine (l5Record_any p _ (hc.below (al' _))).mono ?_
  rintro e w1 ⟨B, m, d, l, rfl, ho, ⟨okl, hm⟩, c1, g1⟩
  have hs1 : w.heap.size + 1 ≤ w1.heap.size := by have := g1.size; simp at this; omega
  obtain ⟨G0, hG0⟩ : ∃ g, g = w1.heap.size := ⟨_, rfl⟩
  obtain ⟨V, hV⟩ : ∃ V, V = w1.alloc (.cells #[.slice B m d] 28) := ⟨_, rfl⟩
  have bV : Below w1.heap.size w1 V := by rw [hV]; exact al (Below.refl _ _)
  have gV : w1.grownBy V (some p) := only_of_below bV _
  have hg : w.grownBy V (some p) := only_trans (only_trans (only_alloc (World.grownBy.refl w (some p)) _) g1) gV
  replace ho := own_below (own_base ho (base' := w.heap.size + 1) (by simp)) bV
  have hcr := c1.below bV
  have dR : V.cell? ⟨w.heap.size, 0, none⟩ = some (.slice none 0 0) := gcell gV (gcell g1 (by simp [go_sem]) (by omega)) (by omega)
  have fR : V.frozen? ⟨w.heap.size, 0, none⟩ = false := gfroz gV (by omega) (gfroz g1 (by simp) (by simp [go_sem]) (by omega)) (by omega)
  have dG : V.cell? ⟨G0, 0, none⟩ = some (.slice B m d) := by rw [hV, hG0]; simp
  have fG : V.frozen? ⟨G0, 0, none⟩ = false := by rw [hV, hG0]; simp [go_sem]
  have hH : V.heap[G0]? = some (.cells #[.slice B m d] 28 (0, 0)) := by rw [hV]; exact heap_atE hG0
  have hsz : G0 + 1 ≤ V.heap.size := by rw [hV, hG0]; simp
  have hGl : w.heap.size + 1 ≤ G0 := by omega
  go_wp2_with fail
  rw [← hV]
  refine (l1Below_any p 12 _ (by omega) (by omega) hcr).mono ?_
  rintro e w2 ⟨q, rfl, hq, cq, gq⟩
  rw [← hG0]
  replace ho := own_only ho gq (by omega)
  replace hH := (gq.block G0 (by omega) (fun e => by injection e with e; omega)).trans hH
  replace dR := gcell gq dR (by omega)
  replace fR := gfroz gq (by omega) fR (by omega)
  replace dG := gcell gq dG (by omega)
  replace fG := gfroz gq (by omega) fG (by omega)
  replace hg := only_trans hg gq
  replace hsz := Nat.le_trans hsz gq.size
  clear hcr hV bV gV g1 c1 hG0 hs1 gq
  have hcr := cq
  clear cq
  rcases (by omega : q = 0 ∨ q = 1 ∨ 1 < q) with rfl | rfl | hq2
  · go_wp2
    refine wp_region_held_drew (S := fun _ => True) (by kernel_rfl) trivial (fun hHeld => ?_)
    clear hHeld
    replace ho := (show World.ownsRow w2.drew _ _ _ _ _ _ from ho)
    replace hcr := (show Cur w2.drew p from hcr)
    replace hg := only_drew hg
    replace hsz := (show G0 + 1 ≤ w2.drew.heap.size from hsz)
    replace dR := (show w2.drew.cell? ⟨w.heap.size, 0, none⟩ = _ from dR)
    replace fR := (show w2.drew.frozen? ⟨w.heap.size, 0, none⟩ = _ from fR)
    replace dG := (show w2.drew.cell? ⟨G0, 0, none⟩ = _ from dG)
    replace fG := (show w2.drew.frozen? ⟨G0, 0, none⟩ = _ from fG)
    replace hH := (show w2.drew.heap[G0]? = _ from hH)
    generalize w2.drew = wd at ho hcr hg hsz dR fR dG fG hH ⊢
    refine takeD (i := 0) (d := some 12) (v := ?_) _ rfl rfl (by kernel_rfl) (by kernel_rfl) (by kernel_rfl) (fun _ _ _ h => h) (Or.inl ⟨by rfl, ?_⟩) trivial ?_
    rotate_left
    · (intro W hSw; clear hSw; go_simp; try with_reducible rfl)
    try simp only [Act.put, List.setIfInBounds_toArray, List.set_cons_zero, List.set_cons_succ]
    refine takeD (i := 2) (d := some 14) (v := ?_) _ rfl rfl (by kernel_rfl) (by kernel_rfl) (by kernel_rfl) (fun _ _ _ h => h) (Or.inl ⟨by rfl, ?_⟩) trivial ?_
    rotate_left
    · (intro W hSw; clear hSw; go_simp; try with_reducible rfl)
    try simp only [Act.put, List.setIfInBounds_toArray, List.set_cons_zero, List.set_cons_succ]
    refine takeD (i := 5) (d := some 17) (v := ?_) _ rfl rfl (by kernel_rfl) (by kernel_rfl) (by kernel_rfl) (fun _ _ _ h => h) (Or.inl ⟨by rfl, ?_⟩) trivial ?_
    rotate_left
    · (intro W hSw; clear hSw; go_simp; try with_reducible rfl)
    try simp only [Act.put, List.setIfInBounds_toArray, List.set_cons_zero, List.set_cons_succ]
    refine wpAnyH_ready (rs := [1, 3, 6]) (by kernel_rfl) (by simp) ?_
    refine AllReadyH.cons rfl (fun K hK => ?_) (AllReadyH.cons rfl (fun K hK => ?_) (AllReadyH.cons rfl (fun K hK => ?_) AllReadyH.nil))
    · go_simp
      refine hK.out _ _ trivial (fun hHeld => ?_)
      clear hHeld hK K
      try simp only [Act.put, List.setIfInBounds_toArray, List.set_cons_zero, List.set_cons_succ]
      refine wpAnyH_ready (rs := [3, 6]) (by kernel_rfl) (by simp) ?_
      refine AllReadyH.cons rfl (fun K hK => ?_) (AllReadyH.cons rfl (fun K hK => ?_) AllReadyH.nil)
      · go_simp
        obtain ⟨U3, hU⟩ : ∃ U, U = wd.alloc (.cells #[.string ⟨#[]⟩, .string ⟨#[65]⟩, .string ⟨#[122, 122, 122, 122, 122, 122, 122, 122, 122]⟩, .string ⟨#[122]⟩, .string ⟨#[97]⟩] 9) := ⟨_, rfl⟩
        have b : Below wd.heap.size wd U3 := by rw [hU]; exact al (Below.refl _ _)
        have gq : wd.grownBy U3 (some p) := only_of_below b _
        have n3 : wd.heap.size ≠ p := by have := hcr.lt; omega
        replace ho := own_only ho gq (by omega)
        replace hcr := hcr.below b
        replace hH := (gq.block G0 (by omega) (fun e => by injection e with e; omega)).trans hH
        replace dR := gcell gq dR (by omega)
        replace fR := gfroz gq (by omega) fR (by omega)
        replace dG := gcell gq dG (by omega)
        replace fG := gfroz gq (by omega) fG (by omega)
        replace hg := only_trans hg gq
        have hs0 := gq.size
        replace hsz := Nat.le_trans hsz hs0
        clear hs0 gq b
        have r3 : Rd U3 1 (some ⟨wd.heap.size, 0, none⟩) 5 (anyTexts.map Value.string) := by rw [hU]; exact rd_lit2 wd _ _ _ rfl
        rw [← hU]
        clear hU
        refine hK.out _ _ trivial (fun hHeld => ?_)
        clear hHeld hK K
        try simp only [Act.put, List.setIfInBounds_toArray, List.set_cons_zero, List.set_cons_succ]
        refine wpAnyH_ready (rs := [4, 6]) (by kernel_rfl) (by simp) ?_
        refine AllReadyH.cons rfl (fun K hK => ?_) (AllReadyH.cons rfl (fun K hK => ?_) AllReadyH.nil)
        · go_simp
          refine (l1Str_any p _ 5 5 anyTexts _ (by decide) (by decide) r3 (fun ad h => by injection h with h; subst h; exact n3) hcr).mono ?_; rintro e W4 ⟨s, rfl, hs, cq, gq⟩
          try go_wp2_with fail
          replace ho := own_only ho gq (by omega)
          replace hcr := cq
          replace hH := (gq.block G0 (by omega) (fun e => by injection e with e; omega)).trans hH
          replace dR := gcell gq dR (by omega)
          replace fR := gfroz gq (by omega) fR (by omega)
          replace dG := gcell gq dG (by omega)
          replace fG := gfroz gq (by omega) fG (by omega)
          replace r3 := r3.grown gq (fun ad h e => by injection h with h; subst h; injection e with e; exact n3 e.symm)
          replace hg := only_trans hg gq
          have hs0 := gq.size
          replace hsz := Nat.le_trans hsz hs0
          clear hs0 gq cq
          refine hK.out _ _ trivial (fun hHeld => ?_)
          clear hHeld hK K
          try simp only [Act.put, List.setIfInBounds_toArray, List.set_cons_zero, List.set_cons_succ]
          refine wpAnyH_ready (rs := [6]) (by kernel_rfl) (by simp) ?_
          refine AllReadyH.cons rfl (fun K hK => ?_) AllReadyH.nil
          go_simp
          obtain ⟨U6, hU⟩ : ∃ U, U = W4.alloc (.cells #[.int .i64 0, .int .i64 (-1), .int .i64 1000000000, .int .i64 1000000001] 3) := ⟨_, rfl⟩
          have b : Below W4.heap.size W4 U6 := by rw [hU]; exact al (Below.refl _ _)
          have gq : W4.grownBy U6 (some p) := only_of_below b _
          have n6 : W4.heap.size ≠ p := by have := hcr.lt; omega
          replace ho := own_only ho gq (by omega)
          replace hcr := hcr.below b
          replace hH := (gq.block G0 (by omega) (fun e => by injection e with e; omega)).trans hH
          replace dR := gcell gq dR (by omega)
          replace fR := gfroz gq (by omega) fR (by omega)
          replace dG := gcell gq dG (by omega)
          replace fG := gfroz gq (by omega) fG (by omega)
          replace r3 := r3.grown gq (fun ad h e => by injection h with h; subst h; injection e with e; exact n3 e.symm)
          replace hg := only_trans hg gq
          have hs0 := gq.size
          replace hsz := Nat.le_trans hsz hs0
          clear hs0 gq b
          have r6 : Rd U6 1 (some ⟨W4.heap.size, 0, none⟩) 4 ([0, -1, 1000000000, (1000000001 : Int)].map iv) := by rw [hU]; exact rd_lit2 W4 _ _ _ rfl
          rw [← hU]
          clear hU
          refine hK.out _ _ trivial (fun hHeld => ?_)
          clear hHeld hK K
          try simp only [Act.put, List.setIfInBounds_toArray, List.set_cons_zero, List.set_cons_succ]
          refine wpAnyH_ready (rs := [7]) (by kernel_rfl) (by simp) ?_
          refine AllReadyH.cons rfl (fun K hK => ?_) AllReadyH.nil
          go_simp
          refine (l1Int_any p _ 4 4 [0, -1, 1000000000, 1000000001] _ (by decide) (by decide) r6 (fun ad h => by injection h with h; subst h; exact n6) hcr).mono ?_; rintro e W7 ⟨x, rfl, hx, cq, gq⟩
          try go_wp2_with fail
          replace ho := own_only ho gq (by omega)
          replace hcr := cq
          replace hH := (gq.block G0 (by omega) (fun e => by injection e with e; omega)).trans hH
          replace dR := gcell gq dR (by omega)
          replace fR := gfroz gq (by omega) fR (by omega)
          replace dG := gcell gq dG (by omega)
          replace fG := gfroz gq (by omega) fG (by omega)
          replace r3 := r3.grown gq (fun ad h e => by injection h with h; subst h; injection e with e; exact n3 e.symm)
          replace r6 := r6.grown gq (fun ad h e => by injection h with h; subst h; injection e with e; exact n6 e.symm)
          replace hg := only_trans hg gq
          have hs0 := gq.size
          replace hsz := Nat.le_trans hsz hs0
          clear hs0 gq cq
          refine hK.out _ _ trivial (fun hHeld => ?_)
          clear hHeld hK K
          try simp only [Act.put, List.setIfInBounds_toArray, List.set_cons_zero, List.set_cons_succ]
          refine takeD (i := 8) (d := some 20) (v := ?_) _ rfl rfl (by kernel_rfl) (by kernel_rfl) (by kernel_rfl) (fun _ _ _ h => h) (Or.inl ⟨by rfl, ?_⟩) trivial ?_
          rotate_left
          · (intro W hSw; clear hSw; go_simp; try with_reducible rfl)
          try simp only [Act.put, List.setIfInBounds_toArray, List.set_cons_zero, List.set_cons_succ]
          refine wpAnyH_ready (rs := [9]) (by kernel_rfl) (by simp) ?_
          refine AllReadyH.cons rfl (fun K hK => ?_) AllReadyH.nil
          go_simp
          obtain ⟨U9, hU⟩ : ∃ U, U = W7.alloc (.cells #[.string s, .int .i64 x] 91) := ⟨_, rfl⟩
          have b : Below W7.heap.size W7 U9 := by rw [hU]; exact al (Below.refl _ _)
          have gq : W7.grownBy U9 (some p) := only_of_below b _
          have n9 : W7.heap.size ≠ p := by have := hcr.lt; omega
          replace ho := own_only ho gq (by omega)
          replace hcr := hcr.below b
          replace hH := (gq.block G0 (by omega) (fun e => by injection e with e; omega)).trans hH
          replace dR := gcell gq dR (by omega)
          replace fR := gfroz gq (by omega) fR (by omega)
          replace dG := gcell gq dG (by omega)
          replace fG := gfroz gq (by omega) fG (by omega)
          replace r3 := r3.grown gq (fun ad h e => by injection h with h; subst h; injection e with e; exact n3 e.symm)
          replace r6 := r6.grown gq (fun ad h e => by injection h with h; subst h; injection e with e; exact n6 e.symm)
          replace hg := only_trans hg gq
          have hs0 := gq.size
          replace hsz := Nat.le_trans hsz hs0
          clear hs0 gq b
          have r9 : Rd U9 2 (some ⟨W7.heap.size, 0, none⟩) 1 (fl [(s, x)]) := by rw [hU]; exact rd_new2 rfl
          rw [← hU]
          clear hU
          refine hK.out _ _ trivial (fun hHeld => ?_)
          clear hHeld hK K
          try simp only [Act.put, List.setIfInBounds_toArray, List.set_cons_zero, List.set_cons_succ]
          refine wpAnyH_ready (rs := [10]) (by kernel_rfl) (by simp) ?_
          refine AllReadyH.cons rfl (fun K hK => ?_) AllReadyH.nil
          refine step_catD (by rfl) (some 22) (by rfl) (.tmp 13) (.tmp 21) 26 (by rfl) (w.heap.size + 1) 91 i0 (.agg #[.string ⟨#[]⟩, .int .i64 0]) 2 24 Try.underlying26 hi hz0 hz1 hz2 rfl (by decide) B m d _ (by rfl) (by exact ho) _ 1 _ (fl [(s, x)]) (by rfl) (by exact r9) (ones_fl _) (by unfold maxLen; omega) (by omega) (by omega) ?_
          intro A1 n1 c1 w5 hn1 o5 b5 g5
          have hn9 : n1 ≤ 9 := by omega
          clear hn1
          have hne := own_ne_type ho hH (by decide)
          replace hH := (grown_blk g5 (by omega) hne).trans hH
          replace dG := cell_apartE g5 dG hne
          replace fG := (World.frozen?_of_block (a := ⟨G0, 0, none⟩) (grown_blk g5 (by show G0 < _; omega) hne)).trans fG
          replace dR := (b5.cell (p := ⟨w.heap.size, 0, none⟩) (by show w.heap.size < w.heap.size + 1; omega)).trans dR
          replace fR := (b5.frozen (p := ⟨w.heap.size, 0, none⟩) (by show w.heap.size < w.heap.size + 1; omega)).trans fR
          replace hcr := hcr.belowB b5 (by omega)
          replace hg := only_below hg (b5.mono (by omega))
          replace hsz := Nat.le_trans hsz b5.size
          have hne5 := own_ne_type o5 hH (by decide)
          clear b5 g5
          refine hK.out _ _ trivial (fun hHeld => ?_)
          clear hHeld hK K
          try simp only [Act.put, List.setIfInBounds_toArray, List.set_cons_zero, List.set_cons_succ]
          refine takeD (i := 11) (d := some 23) (v := ?_) _ rfl rfl (by kernel_rfl) (by kernel_rfl) (by kernel_rfl) (fun _ _ _ h => h) (Or.inl ⟨by rfl, ?_⟩) trivial ?_
          rotate_left
          · (intro W hSw; clear hSw; go_simp; try with_reducible rfl)
          try simp only [Act.put, List.setIfInBounds_toArray, List.set_cons_zero, List.set_cons_succ]
          refine wpAnyH_ready (rs := [12]) (by kernel_rfl) (by simp) ?_
          refine AllReadyH.cons rfl (fun K hK => ?_) AllReadyH.nil
          go_simp
          refine hK.out _ _ trivial (fun hHeld => ?_)
          clear hHeld hK K
          try simp only [Act.put, List.setIfInBounds_toArray, List.set_cons_zero, List.set_cons_succ]
          refine wpAnyH_done (by kernel_rfl) ?_ _
          have o6 : w5.ownsRow (w.heap.size + 1) 91 2 (.slice A1 n1 c1) n1 (fl (l ++ [(s, x)])) := by rw [fl_append]; exact o5
          have O8 := Lib.hid (own_base (base' := w.heap.size) (ownsRow_setCell_below (own_base (own_setNe o6 (a := ⟨G0, 0, none⟩) (.slice A1 n1 c1) hne5) (Nat.le_refl _)) (a := ⟨w.heap.size, 0, none⟩) (by show w.heap.size < w.heap.size + 1; omega) (.slice A1 n1 c1)) (by omega))
          have C8 := Lib.hid (cur_set (v := .slice A1 n1 c1) (b := w.heap.size) (o := 0) (cur_set (v := .slice A1 n1 c1) (b := G0) (o := 0) hcr (by omega)) (by omega))
          have G8 := Lib.hid (gro_set (v := .slice A1 n1 c1) (b := w.heap.size) (o := 0) (gro_set (v := .slice A1 n1 c1) (b := G0) (o := 0) hg (by omega)) (Nat.le_refl _))
          have hok8 : Hid (okF (l ++ [(s, x)])) := Lib.hid (okF_snoc okl (anyTexts_ok s hs) ((by decide : ∀ y ∈ [0, -1, 1000000000, (1000000001 : Int)], -9223372036854775808 ≤ y ∧ y ≤ 9223372036854775807) x hx))
          have dR8 : (w5.setCell ⟨G0, 0, none⟩ (.slice A1 n1 c1)).cell? ⟨w.heap.size, 0, none⟩ = some (.slice none 0 0) := by
            rw [World.cell?_setCell_far _ ⟨G0, 0, none⟩ ⟨w.heap.size, 0, none⟩ _ (by show G0 ≠ w.heap.size; omega)]
            exact dR
          have fR8 : (w5.setCell ⟨G0, 0, none⟩ (.slice A1 n1 c1)).frozen? ⟨w.heap.size, 0, none⟩ = false := by simp [fR]
          have dG8 : (w5.setCell ⟨G0, 0, none⟩ (.slice A1 n1 c1)).cell? ⟨G0, 0, none⟩ = some (.slice A1 n1 c1) := by simp [go_sem, dG]
          clear ho o5 o6 hcr hg
          go_wp2
          exact bodyPost_ret (v := .agg #[.slice A1 n1 c1]) (by simp [results, Try.results118, go_sem, dR8]) rfl ⟨A1, n1, c1, _, rfl, O8.out, ⟨hok8.out, by omega⟩, C8.out, G8.out⟩
        · go_simp
          obtain ⟨U6, hU⟩ : ∃ U, U = U3.alloc (.cells #[.int .i64 0, .int .i64 (-1), .int .i64 1000000000, .int .i64 1000000001] 3) := ⟨_, rfl⟩
          have b : Below U3.heap.size U3 U6 := by rw [hU]; exact al (Below.refl _ _)
          have gq : U3.grownBy U6 (some p) := only_of_below b _
          have n6 : U3.heap.size ≠ p := by have := hcr.lt; omega
          replace ho := own_only ho gq (by omega)
          replace hcr := hcr.below b
          replace hH := (gq.block G0 (by omega) (fun e => by injection e with e; omega)).trans hH
          replace dR := gcell gq dR (by omega)
          replace fR := gfroz gq (by omega) fR (by omega)
          replace dG := gcell gq dG (by omega)
          replace fG := gfroz gq (by omega) fG (by omega)
          replace r3 := r3.grown gq (fun ad h e => by injection h with h; subst h; injection e with e; exact n3 e.symm)
          replace hg := only_trans hg gq
          have hs0 := gq.size
          replace hsz := Nat.le_trans hsz hs0
          clear hs0 gq b
          have r6 : Rd U6 1 (some ⟨U3.heap.size, 0, none⟩) 4 ([0, -1, 1000000000, (1000000001 : Int)].map iv) := by rw [hU]; exact rd_lit2 U3 _ _ _ rfl
          rw [← hU]
          clear hU
          refine hK.out _ _ trivial (fun hHeld => ?_)
          clear hHeld hK K
          try simp only [Act.put, List.setIfInBounds_toArray, List.set_cons_zero, List.set_cons_succ]
          refine wpAnyH_ready (rs := [4]) (by kernel_rfl) (by simp) ?_
          refine AllReadyH.cons rfl (fun K hK => ?_) AllReadyH.nil
          go_simp
          refine (l1Str_any p _ 5 5 anyTexts _ (by decide) (by decide) r3 (fun ad h => by injection h with h; subst h; exact n3) hcr).mono ?_; rintro e W4 ⟨s, rfl, hs, cq, gq⟩
          try go_wp2_with fail
          replace ho := own_only ho gq (by omega)
          replace hcr := cq
          replace hH := (gq.block G0 (by omega) (fun e => by injection e with e; omega)).trans hH
          replace dR := gcell gq dR (by omega)
          replace fR := gfroz gq (by omega) fR (by omega)
          replace dG := gcell gq dG (by omega)
          replace fG := gfroz gq (by omega) fG (by omega)
          replace r3 := r3.grown gq (fun ad h e => by injection h with h; subst h; injection e with e; exact n3 e.symm)
          replace r6 := r6.grown gq (fun ad h e => by injection h with h; subst h; injection e with e; exact n6 e.symm)
          replace hg := only_trans hg gq
          have hs0 := gq.size
          replace hsz := Nat.le_trans hsz hs0
          clear hs0 gq cq
          refine hK.out _ _ trivial (fun hHeld => ?_)
          clear hHeld hK K
          try simp only [Act.put, List.setIfInBounds_toArray, List.set_cons_zero, List.set_cons_succ]
          refine wpAnyH_ready (rs := [7]) (by kernel_rfl) (by simp) ?_
          refine AllReadyH.cons rfl (fun K hK => ?_) AllReadyH.nil
          go_simp
          refine (l1Int_any p _ 4 4 [0, -1, 1000000000, 1000000001] _ (by decide) (by decide) r6 (fun ad h => by injection h with h; subst h; exact n6) hcr).mono ?_; rintro e W7 ⟨x, rfl, hx, cq, gq⟩
          try go_wp2_with fail
          replace ho := own_only ho gq (by omega)
          replace hcr := cq
          replace hH := (gq.block G0 (by omega) (fun e => by injection e with e; omega)).trans hH
          replace dR := gcell gq dR (by omega)
          replace fR := gfroz gq (by omega) fR (by omega)
          replace dG := gcell gq dG (by omega)
          replace fG := gfroz gq (by omega) fG (by omega)
          replace r3 := r3.grown gq (fun ad h e => by injection h with h; subst h; injection e with e; exact n3 e.symm)
          replace r6 := r6.grown gq (fun ad h e => by injection h with h; subst h; injection e with e; exact n6 e.symm)
          replace hg := only_trans hg gq
          have hs0 := gq.size
          replace hsz := Nat.le_trans hsz hs0
          clear hs0 gq cq
          refine hK.out _ _ trivial (fun hHeld => ?_)
          clear hHeld hK K
          try simp only [Act.put, List.setIfInBounds_toArray, List.set_cons_zero, List.set_cons_succ]
          refine takeD (i := 8) (d := some 20) (v := ?_) _ rfl rfl (by kernel_rfl) (by kernel_rfl) (by kernel_rfl) (fun _ _ _ h => h) (Or.inl ⟨by rfl, ?_⟩) trivial ?_
          rotate_left
          · (intro W hSw; clear hSw; go_simp; try with_reducible rfl)
          try simp only [Act.put, List.setIfInBounds_toArray, List.set_cons_zero, List.set_cons_succ]
          refine wpAnyH_ready (rs := [9]) (by kernel_rfl) (by simp) ?_
          refine AllReadyH.cons rfl (fun K hK => ?_) AllReadyH.nil
          go_simp
          obtain ⟨U9, hU⟩ : ∃ U, U = W7.alloc (.cells #[.string s, .int .i64 x] 91) := ⟨_, rfl⟩
          have b : Below W7.heap.size W7 U9 := by rw [hU]; exact al (Below.refl _ _)
          have gq : W7.grownBy U9 (some p) := only_of_below b _
          have n9 : W7.heap.size ≠ p := by have := hcr.lt; omega
          replace ho := own_only ho gq (by omega)
          replace hcr := hcr.below b
          replace hH := (gq.block G0 (by omega) (fun e => by injection e with e; omega)).trans hH
          replace dR := gcell gq dR (by omega)
          replace fR := gfroz gq (by omega) fR (by omega)
          replace dG := gcell gq dG (by omega)
          replace fG := gfroz gq (by omega) fG (by omega)
          replace r3 := r3.grown gq (fun ad h e => by injection h with h; subst h; injection e with e; exact n3 e.symm)
          replace r6 := r6.grown gq (fun ad h e => by injection h with h; subst h; injection e with e; exact n6 e.symm)
          replace hg := only_trans hg gq
          have hs0 := gq.size
          replace hsz := Nat.le_trans hsz hs0
          clear hs0 gq b
          have r9 : Rd U9 2 (some ⟨W7.heap.size, 0, none⟩) 1 (fl [(s, x)]) := by rw [hU]; exact rd_new2 rfl
          rw [← hU]
          clear hU
          refine hK.out _ _ trivial (fun hHeld => ?_)
          clear hHeld hK K
          try simp only [Act.put, List.setIfInBounds_toArray, List.set_cons_zero, List.set_cons_succ]
          refine wpAnyH_ready (rs := [10]) (by kernel_rfl) (by simp) ?_
          refine AllReadyH.cons rfl (fun K hK => ?_) AllReadyH.nil
          refine step_catD (by rfl) (some 22) (by rfl) (.tmp 13) (.tmp 21) 26 (by rfl) (w.heap.size + 1) 91 i0 (.agg #[.string ⟨#[]⟩, .int .i64 0]) 2 24 Try.underlying26 hi hz0 hz1 hz2 rfl (by decide) B m d _ (by rfl) (by exact ho) _ 1 _ (fl [(s, x)]) (by rfl) (by exact r9) (ones_fl _) (by unfold maxLen; omega) (by omega) (by omega) ?_
          intro A1 n1 c1 w5 hn1 o5 b5 g5
          have hn9 : n1 ≤ 9 := by omega
          clear hn1
          have hne := own_ne_type ho hH (by decide)
          replace hH := (grown_blk g5 (by omega) hne).trans hH
          replace dG := cell_apartE g5 dG hne
          replace fG := (World.frozen?_of_block (a := ⟨G0, 0, none⟩) (grown_blk g5 (by show G0 < _; omega) hne)).trans fG
          replace dR := (b5.cell (p := ⟨w.heap.size, 0, none⟩) (by show w.heap.size < w.heap.size + 1; omega)).trans dR
          replace fR := (b5.frozen (p := ⟨w.heap.size, 0, none⟩) (by show w.heap.size < w.heap.size + 1; omega)).trans fR
          replace hcr := hcr.belowB b5 (by omega)
          replace hg := only_below hg (b5.mono (by omega))
          replace hsz := Nat.le_trans hsz b5.size
          have hne5 := own_ne_type o5 hH (by decide)
          clear b5 g5
          refine hK.out _ _ trivial (fun hHeld => ?_)
          clear hHeld hK K
          try simp only [Act.put, List.setIfInBounds_toArray, List.set_cons_zero, List.set_cons_succ]
          refine takeD (i := 11) (d := some 23) (v := ?_) _ rfl rfl (by kernel_rfl) (by kernel_rfl) (by kernel_rfl) (fun _ _ _ h => h) (Or.inl ⟨by rfl, ?_⟩) trivial ?_
          rotate_left
          · (intro W hSw; clear hSw; go_simp; try with_reducible rfl)
          try simp only [Act.put, List.setIfInBounds_toArray, List.set_cons_zero, List.set_cons_succ]
          refine wpAnyH_ready (rs := [12]) (by kernel_rfl) (by simp) ?_
          refine AllReadyH.cons rfl (fun K hK => ?_) AllReadyH.nil
          go_simp
          refine hK.out _ _ trivial (fun hHeld => ?_)
          clear hHeld hK K
          try simp only [Act.put, List.setIfInBounds_toArray, List.set_cons_zero, List.set_cons_succ]
          refine wpAnyH_done (by kernel_rfl) ?_ _
          have o6 : w5.ownsRow (w.heap.size + 1) 91 2 (.slice A1 n1 c1) n1 (fl (l ++ [(s, x)])) := by rw [fl_append]; exact o5
          have O8 := Lib.hid (own_base (base' := w.heap.size) (ownsRow_setCell_below (own_base (own_setNe o6 (a := ⟨G0, 0, none⟩) (.slice A1 n1 c1) hne5) (Nat.le_refl _)) (a := ⟨w.heap.size, 0, none⟩) (by show w.heap.size < w.heap.size + 1; omega) (.slice A1 n1 c1)) (by omega))
          have C8 := Lib.hid (cur_set (v := .slice A1 n1 c1) (b := w.heap.size) (o := 0) (cur_set (v := .slice A1 n1 c1) (b := G0) (o := 0) hcr (by omega)) (by omega))
          have G8 := Lib.hid (gro_set (v := .slice A1 n1 c1) (b := w.heap.size) (o := 0) (gro_set (v := .slice A1 n1 c1) (b := G0) (o := 0) hg (by omega)) (Nat.le_refl _))
          have hok8 : Hid (okF (l ++ [(s, x)])) := Lib.hid (okF_snoc okl (anyTexts_ok s hs) ((by decide : ∀ y ∈ [0, -1, 1000000000, (1000000001 : Int)], -9223372036854775808 ≤ y ∧ y ≤ 9223372036854775807) x hx))
          have dR8 : (w5.setCell ⟨G0, 0, none⟩ (.slice A1 n1 c1)).cell? ⟨w.heap.size, 0, none⟩ = some (.slice none 0 0) := by
            rw [World.cell?_setCell_far _ ⟨G0, 0, none⟩ ⟨w.heap.size, 0, none⟩ _ (by show G0 ≠ w.heap.size; omega)]
            exact dR
          have fR8 : (w5.setCell ⟨G0, 0, none⟩ (.slice A1 n1 c1)).frozen? ⟨w.heap.size, 0, none⟩ = false := by simp [fR]
          have dG8 : (w5.setCell ⟨G0, 0, none⟩ (.slice A1 n1 c1)).cell? ⟨G0, 0, none⟩ = some (.slice A1 n1 c1) := by simp [go_sem, dG]
          clear ho o5 o6 hcr hg
          go_wp2
          exact bodyPost_ret (v := .agg #[.slice A1 n1 c1]) (by simp [results, Try.results118, go_sem, dR8]) rfl ⟨A1, n1, c1, _, rfl, O8.out, ⟨hok8.out, by omega⟩, C8.out, G8.out⟩
      · go_simp
        obtain ⟨U6, hU⟩ : ∃ U, U = wd.alloc (.cells #[.int .i64 0, .int .i64 (-1), .int .i64 1000000000, .int .i64 1000000001] 3) := ⟨_, rfl⟩
        have b : Below wd.heap.size wd U6 := by rw [hU]; exact al (Below.refl _ _)
        have gq : wd.grownBy U6 (some p) := only_of_below b _
        have n6 : wd.heap.size ≠ p := by have := hcr.lt; omega
        replace ho := own_only ho gq (by omega)
        replace hcr := hcr.below b
        replace hH := (gq.block G0 (by omega) (fun e => by injection e with e; omega)).trans hH
        replace dR := gcell gq dR (by omega)
        replace fR := gfroz gq (by omega) fR (by omega)
        replace dG := gcell gq dG (by omega)
        replace fG := gfroz gq (by omega) fG (by omega)
        replace hg := only_trans hg gq
        have hs0 := gq.size
        replace hsz := Nat.le_trans hsz hs0
        clear hs0 gq b
        have r6 : Rd U6 1 (some ⟨wd.heap.size, 0, none⟩) 4 ([0, -1, 1000000000, (1000000001 : Int)].map iv) := by rw [hU]; exact rd_lit2 wd _ _ _ rfl
        rw [← hU]
        clear hU
        refine hK.out _ _ trivial (fun hHeld => ?_)
        clear hHeld hK K
        try simp only [Act.put, List.setIfInBounds_toArray, List.set_cons_zero, List.set_cons_succ]
        refine wpAnyH_ready (rs := [3]) (by kernel_rfl) (by simp) ?_
        refine AllReadyH.cons rfl (fun K hK => ?_) AllReadyH.nil
        go_simp
        obtain ⟨U3, hU⟩ : ∃ U, U = U6.alloc (.cells #[.string ⟨#[]⟩, .string ⟨#[65]⟩, .string ⟨#[122, 122, 122, 122, 122, 122, 122, 122, 122]⟩, .string ⟨#[122]⟩, .string ⟨#[97]⟩] 9) := ⟨_, rfl⟩
        have b : Below U6.heap.size U6 U3 := by rw [hU]; exact al (Below.refl _ _)
        have gq : U6.grownBy U3 (some p) := only_of_below b _
        have n3 : U6.heap.size ≠ p := by have := hcr.lt; omega
        replace ho := own_only ho gq (by omega)
        replace hcr := hcr.below b
        replace hH := (gq.block G0 (by omega) (fun e => by injection e with e; omega)).trans hH
        replace dR := gcell gq dR (by omega)
        replace fR := gfroz gq (by omega) fR (by omega)
        replace dG := gcell gq dG (by omega)
        replace fG := gfroz gq (by omega) fG (by omega)
        replace r6 := r6.grown gq (fun ad h e => by injection h with h; subst h; injection e with e; exact n6 e.symm)
        replace hg := only_trans hg gq
        have hs0 := gq.size
        replace hsz := Nat.le_trans hsz hs0
        clear hs0 gq b
        have r3 : Rd U3 1 (some ⟨U6.heap.size, 0, none⟩) 5 (anyTexts.map Value.string) := by rw [hU]; exact rd_lit2 U6 _ _ _ rfl
        rw [← hU]
        clear hU
        refine hK.out _ _ trivial (fun hHeld => ?_)
        clear hHeld hK K
        try simp only [Act.put, List.setIfInBounds_toArray, List.set_cons_zero, List.set_cons_succ]
        refine wpAnyH_ready (rs := [4]) (by kernel_rfl) (by simp) ?_
        refine AllReadyH.cons rfl (fun K hK => ?_) AllReadyH.nil
        go_simp
        refine (l1Str_any p _ 5 5 anyTexts _ (by decide) (by decide) r3 (fun ad h => by injection h with h; subst h; exact n3) hcr).mono ?_; rintro e W4 ⟨s, rfl, hs, cq, gq⟩
        try go_wp2_with fail
        replace ho := own_only ho gq (by omega)
        replace hcr := cq
        replace hH := (gq.block G0 (by omega) (fun e => by injection e with e; omega)).trans hH
        replace dR := gcell gq dR (by omega)
        replace fR := gfroz gq (by omega) fR (by omega)
        replace dG := gcell gq dG (by omega)
        replace fG := gfroz gq (by omega) fG (by omega)
        replace r6 := r6.grown gq (fun ad h e => by injection h with h; subst h; injection e with e; exact n6 e.symm)
        replace r3 := r3.grown gq (fun ad h e => by injection h with h; subst h; injection e with e; exact n3 e.symm)
        replace hg := only_trans hg gq
        have hs0 := gq.size
        replace hsz := Nat.le_trans hsz hs0
        clear hs0 gq cq
        refine hK.out _ _ trivial (fun hHeld => ?_)
        clear hHeld hK K
        try simp only [Act.put, List.setIfInBounds_toArray, List.set_cons_zero, List.set_cons_succ]
        refine wpAnyH_ready (rs := [7]) (by kernel_rfl) (by simp) ?_
        refine AllReadyH.cons rfl (fun K hK => ?_) AllReadyH.nil
        go_simp
        refine (l1Int_any p _ 4 4 [0, -1, 1000000000, 1000000001] _ (by decide) (by decide) r6 (fun ad h => by injection h with h; subst h; exact n6) hcr).mono ?_; rintro e W7 ⟨x, rfl, hx, cq, gq⟩
        try go_wp2_with fail
        replace ho := own_only ho gq (by omega)
        replace hcr := cq
        replace hH := (gq.block G0 (by omega) (fun e => by injection e with e; omega)).trans hH
        replace dR := gcell gq dR (by omega)
        replace fR := gfroz gq (by omega) fR (by omega)
        replace dG := gcell gq dG (by omega)
        replace fG := gfroz gq (by omega) fG (by omega)
        replace r6 := r6.grown gq (fun ad h e => by injection h with h; subst h; injection e with e; exact n6 e.symm)
        replace r3 := r3.grown gq (fun ad h e => by injection h with h; subst h; injection e with e; exact n3 e.symm)
        replace hg := only_trans hg gq
        have hs0 := gq.size
        replace hsz := Nat.le_trans hsz hs0
        clear hs0 gq cq
        refine hK.out _ _ trivial (fun hHeld => ?_)
        clear hHeld hK K
        try simp only [Act.put, List.setIfInBounds_toArray, List.set_cons_zero, List.set_cons_succ]
        refine takeD (i := 8) (d := some 20) (v := ?_) _ rfl rfl (by kernel_rfl) (by kernel_rfl) (by kernel_rfl) (fun _ _ _ h => h) (Or.inl ⟨by rfl, ?_⟩) trivial ?_
        rotate_left
        · (intro W hSw; clear hSw; go_simp; try with_reducible rfl)
        try simp only [Act.put, List.setIfInBounds_toArray, List.set_cons_zero, List.set_cons_succ]
        refine wpAnyH_ready (rs := [9]) (by kernel_rfl) (by simp) ?_
        refine AllReadyH.cons rfl (fun K hK => ?_) AllReadyH.nil
        go_simp
        obtain ⟨U9, hU⟩ : ∃ U, U = W7.alloc (.cells #[.string s, .int .i64 x] 91) := ⟨_, rfl⟩
        have b : Below W7.heap.size W7 U9 := by rw [hU]; exact al (Below.refl _ _)
        have gq : W7.grownBy U9 (some p) := only_of_below b _
        have n9 : W7.heap.size ≠ p := by have := hcr.lt; omega
        replace ho := own_only ho gq (by omega)
        replace hcr := hcr.below b
        replace hH := (gq.block G0 (by omega) (fun e => by injection e with e; omega)).trans hH
        replace dR := gcell gq dR (by omega)
        replace fR := gfroz gq (by omega) fR (by omega)
        replace dG := gcell gq dG (by omega)
        replace fG := gfroz gq (by omega) fG (by omega)
        replace r6 := r6.grown gq (fun ad h e => by injection h with h; subst h; injection e with e; exact n6 e.symm)
        replace r3 := r3.grown gq (fun ad h e => by injection h with h; subst h; injection e with e; exact n3 e.symm)
        replace hg := only_trans hg gq
        have hs0 := gq.size
        replace hsz := Nat.le_trans hsz hs0
        clear hs0 gq b
        have r9 : Rd U9 2 (some ⟨W7.heap.size, 0, none⟩) 1 (fl [(s, x)]) := by rw [hU]; exact rd_new2 rfl
        rw [← hU]
        clear hU
        refine hK.out _ _ trivial (fun hHeld => ?_)
        clear hHeld hK K
        try simp only [Act.put, List.setIfInBounds_toArray, List.set_cons_zero, List.set_cons_succ]
        refine wpAnyH_ready (rs := [10]) (by kernel_rfl) (by simp) ?_
        refine AllReadyH.cons rfl (fun K hK => ?_) AllReadyH.nil
        refine step_catD (by rfl) (some 22) (by rfl) (.tmp 13) (.tmp 21) 26 (by rfl) (w.heap.size + 1) 91 i0 (.agg #[.string ⟨#[]⟩, .int .i64 0]) 2 24 Try.underlying26 hi hz0 hz1 hz2 rfl (by decide) B m d _ (by rfl) (by exact ho) _ 1 _ (fl [(s, x)]) (by rfl) (by exact r9) (ones_fl _) (by unfold maxLen; omega) (by omega) (by omega) ?_
        intro A1 n1 c1 w5 hn1 o5 b5 g5
        have hn9 : n1 ≤ 9 := by omega
        clear hn1
        have hne := own_ne_type ho hH (by decide)
        replace hH := (grown_blk g5 (by omega) hne).trans hH
        replace dG := cell_apartE g5 dG hne
        replace fG := (World.frozen?_of_block (a := ⟨G0, 0, none⟩) (grown_blk g5 (by show G0 < _; omega) hne)).trans fG
        replace dR := (b5.cell (p := ⟨w.heap.size, 0, none⟩) (by show w.heap.size < w.heap.size + 1; omega)).trans dR
        replace fR := (b5.frozen (p := ⟨w.heap.size, 0, none⟩) (by show w.heap.size < w.heap.size + 1; omega)).trans fR
        replace hcr := hcr.belowB b5 (by omega)
        replace hg := only_below hg (b5.mono (by omega))
        replace hsz := Nat.le_trans hsz b5.size
        have hne5 := own_ne_type o5 hH (by decide)
        clear b5 g5
        refine hK.out _ _ trivial (fun hHeld => ?_)
        clear hHeld hK K
        try simp only [Act.put, List.setIfInBounds_toArray, List.set_cons_zero, List.set_cons_succ]
        refine takeD (i := 11) (d := some 23) (v := ?_) _ rfl rfl (by kernel_rfl) (by kernel_rfl) (by kernel_rfl) (fun _ _ _ h => h) (Or.inl ⟨by rfl, ?_⟩) trivial ?_
        rotate_left
        · (intro W hSw; clear hSw; go_simp; try with_reducible rfl)
        try simp only [Act.put, List.setIfInBounds_toArray, List.set_cons_zero, List.set_cons_succ]
        refine wpAnyH_ready (rs := [12]) (by kernel_rfl) (by simp) ?_
        refine AllReadyH.cons rfl (fun K hK => ?_) AllReadyH.nil
        go_simp
        refine hK.out _ _ trivial (fun hHeld => ?_)
        clear hHeld hK K
        try simp only [Act.put, List.setIfInBounds_toArray, List.set_cons_zero, List.set_cons_succ]
        refine wpAnyH_done (by kernel_rfl) ?_ _
        have o6 : w5.ownsRow (w.heap.size + 1) 91 2 (.slice A1 n1 c1) n1 (fl (l ++ [(s, x)])) := by rw [fl_append]; exact o5
        have O8 := Lib.hid (own_base (base' := w.heap.size) (ownsRow_setCell_below (own_base (own_setNe o6 (a := ⟨G0, 0, none⟩) (.slice A1 n1 c1) hne5) (Nat.le_refl _)) (a := ⟨w.heap.size, 0, none⟩) (by show w.heap.size < w.heap.size + 1; omega) (.slice A1 n1 c1)) (by omega))
        have C8 := Lib.hid (cur_set (v := .slice A1 n1 c1) (b := w.heap.size) (o := 0) (cur_set (v := .slice A1 n1 c1) (b := G0) (o := 0) hcr (by omega)) (by omega))
        have G8 := Lib.hid (gro_set (v := .slice A1 n1 c1) (b := w.heap.size) (o := 0) (gro_set (v := .slice A1 n1 c1) (b := G0) (o := 0) hg (by omega)) (Nat.le_refl _))
        have hok8 : Hid (okF (l ++ [(s, x)])) := Lib.hid (okF_snoc okl (anyTexts_ok s hs) ((by decide : ∀ y ∈ [0, -1, 1000000000, (1000000001 : Int)], -9223372036854775808 ≤ y ∧ y ≤ 9223372036854775807) x hx))
        have dR8 : (w5.setCell ⟨G0, 0, none⟩ (.slice A1 n1 c1)).cell? ⟨w.heap.size, 0, none⟩ = some (.slice none 0 0) := by
          rw [World.cell?_setCell_far _ ⟨G0, 0, none⟩ ⟨w.heap.size, 0, none⟩ _ (by show G0 ≠ w.heap.size; omega)]
          exact dR
        have fR8 : (w5.setCell ⟨G0, 0, none⟩ (.slice A1 n1 c1)).frozen? ⟨w.heap.size, 0, none⟩ = false := by simp [fR]
        have dG8 : (w5.setCell ⟨G0, 0, none⟩ (.slice A1 n1 c1)).cell? ⟨G0, 0, none⟩ = some (.slice A1 n1 c1) := by simp [go_sem, dG]
        clear ho o5 o6 hcr hg
        go_wp2
        exact bodyPost_ret (v := .agg #[.slice A1 n1 c1]) (by simp [results, Try.results118, go_sem, dR8]) rfl ⟨A1, n1, c1, _, rfl, O8.out, ⟨hok8.out, by omega⟩, C8.out, G8.out⟩
    · go_simp
      obtain ⟨U3, hU⟩ : ∃ U, U = wd.alloc (.cells #[.string ⟨#[]⟩, .string ⟨#[65]⟩, .string ⟨#[122, 122, 122, 122, 122, 122, 122, 122, 122]⟩, .string ⟨#[122]⟩, .string ⟨#[97]⟩] 9) := ⟨_, rfl⟩
      have b : Below wd.heap.size wd U3 := by rw [hU]; exact al (Below.refl _ _)
      have gq : wd.grownBy U3 (some p) := only_of_below b _
      have n3 : wd.heap.size ≠ p := by have := hcr.lt; omega
      replace ho := own_only ho gq (by omega)
      replace hcr := hcr.below b
      replace hH := (gq.block G0 (by omega) (fun e => by injection e with e; omega)).trans hH
      replace dR := gcell gq dR (by omega)
      replace fR := gfroz gq (by omega) fR (by omega)
      replace dG := gcell gq dG (by omega)
      replace fG := gfroz gq (by omega) fG (by omega)
      replace hg := only_trans hg gq
      have hs0 := gq.size
      replace hsz := Nat.le_trans hsz hs0
      clear hs0 gq b
      have r3 : Rd U3 1 (some ⟨wd.heap.size, 0, none⟩) 5 (anyTexts.map Value.string) := by rw [hU]; exact rd_lit2 wd _ _ _ rfl
      rw [← hU]
      clear hU
      refine hK.out _ _ trivial (fun hHeld => ?_)
      clear hHeld hK K
      try simp only [Act.put, List.setIfInBounds_toArray, List.set_cons_zero, List.set_cons_succ]
      refine wpAnyH_ready (rs := [1, 4, 6]) (by kernel_rfl) (by simp) ?_
      refine AllReadyH.cons rfl (fun K hK => ?_) (AllReadyH.cons rfl (fun K hK => ?_) (AllReadyH.cons rfl (fun K hK => ?_) AllReadyH.nil))
      · go_simp
        refine hK.out _ _ trivial (fun hHeld => ?_)
        clear hHeld hK K
        try simp only [Act.put, List.setIfInBounds_toArray, List.set_cons_zero, List.set_cons_succ]
        refine wpAnyH_ready (rs := [4, 6]) (by kernel_rfl) (by simp) ?_
        refine AllReadyH.cons rfl (fun K hK => ?_) (AllReadyH.cons rfl (fun K hK => ?_) AllReadyH.nil)
        · go_simp
          refine (l1Str_any p _ 5 5 anyTexts _ (by decide) (by decide) r3 (fun ad h => by injection h with h; subst h; exact n3) hcr).mono ?_; rintro e W4 ⟨s, rfl, hs, cq, gq⟩
          try go_wp2_with fail
          replace ho := own_only ho gq (by omega)
          replace hcr := cq
          replace hH := (gq.block G0 (by omega) (fun e => by injection e with e; omega)).trans hH
          replace dR := gcell gq dR (by omega)
          replace fR := gfroz gq (by omega) fR (by omega)
          replace dG := gcell gq dG (by omega)
          replace fG := gfroz gq (by omega) fG (by omega)
          replace r3 := r3.grown gq (fun ad h e => by injection h with h; subst h; injection e with e; exact n3 e.symm)
          replace hg := only_trans hg gq
          have hs0 := gq.size
          replace hsz := Nat.le_trans hsz hs0
          clear hs0 gq cq
          refine hK.out _ _ trivial (fun hHeld => ?_)
          clear hHeld hK K
          try simp only [Act.put, List.setIfInBounds_toArray, List.set_cons_zero, List.set_cons_succ]
          refine wpAnyH_ready (rs := [6]) (by kernel_rfl) (by simp) ?_
          refine AllReadyH.cons rfl (fun K hK => ?_) AllReadyH.nil
          go_simp
          obtain ⟨U6, hU⟩ : ∃ U, U = W4.alloc (.cells #[.int .i64 0, .int .i64 (-1), .int .i64 1000000000, .int .i64 1000000001] 3) := ⟨_, rfl⟩
          have b : Below W4.heap.size W4 U6 := by rw [hU]; exact al (Below.refl _ _)
          have gq : W4.grownBy U6 (some p) := only_of_below b _
          have n6 : W4.heap.size ≠ p := by have := hcr.lt; omega
          replace ho := own_only ho gq (by omega)
          replace hcr := hcr.below b
          replace hH := (gq.block G0 (by omega) (fun e => by injection e with e; omega)).trans hH
          replace dR := gcell gq dR (by omega)
          replace fR := gfroz gq (by omega) fR (by omega)
          replace dG := gcell gq dG (by omega)
          replace fG := gfroz gq (by omega) fG (by omega)
          replace r3 := r3.grown gq (fun ad h e => by injection h with h; subst h; injection e with e; exact n3 e.symm)
          replace hg := only_trans hg gq
          have hs0 := gq.size
          replace hsz := Nat.le_trans hsz hs0
          clear hs0 gq b
          have r6 : Rd U6 1 (some ⟨W4.heap.size, 0, none⟩) 4 ([0, -1, 1000000000, (1000000001 : Int)].map iv) := by rw [hU]; exact rd_lit2 W4 _ _ _ rfl
          rw [← hU]
          clear hU
          refine hK.out _ _ trivial (fun hHeld => ?_)
          clear hHeld hK K
          try simp only [Act.put, List.setIfInBounds_toArray, List.set_cons_zero, List.set_cons_succ]
          refine wpAnyH_ready (rs := [7]) (by kernel_rfl) (by simp) ?_
          refine AllReadyH.cons rfl (fun K hK => ?_) AllReadyH.nil
          go_simp
          refine (l1Int_any p _ 4 4 [0, -1, 1000000000, 1000000001] _ (by decide) (by decide) r6 (fun ad h => by injection h with h; subst h; exact n6) hcr).mono ?_; rintro e W7 ⟨x, rfl, hx, cq, gq⟩
          try go_wp2_with fail
          replace ho := own_only ho gq (by omega)
          replace hcr := cq
          replace hH := (gq.block G0 (by omega) (fun e => by injection e with e; omega)).trans hH
          replace dR := gcell gq dR (by omega)
          replace fR := gfroz gq (by omega) fR (by omega)
          replace dG := gcell gq dG (by omega)
          replace fG := gfroz gq (by omega) fG (by omega)
          replace r3 := r3.grown gq (fun ad h e => by injection h with h; subst h; injection e with e; exact n3 e.symm)
          replace r6 := r6.grown gq (fun ad h e => by injection h with h; subst h; injection e with e; exact n6 e.symm)
          replace hg := only_trans hg gq
          have hs0 := gq.size
          replace hsz := Nat.le_trans hsz hs0
          clear hs0 gq cq
          refine hK.out _ _ trivial (fun hHeld => ?_)
          clear hHeld hK K
          try simp only [Act.put, List.setIfInBounds_toArray, List.set_cons_zero, List.set_cons_succ]
          refine takeD (i := 8) (d := some 20) (v := ?_) _ rfl rfl (by kernel_rfl) (by kernel_rfl) (by kernel_rfl) (fun _ _ _ h => h) (Or.inl ⟨by rfl, ?_⟩) trivial ?_
          rotate_left
          · (intro W hSw; clear hSw; go_simp; try with_reducible rfl)
          try simp only [Act.put, List.setIfInBounds_toArray, List.set_cons_zero, List.set_cons_succ]
          refine wpAnyH_ready (rs := [9]) (by kernel_rfl) (by simp) ?_
          refine AllReadyH.cons rfl (fun K hK => ?_) AllReadyH.nil
          go_simp
          obtain ⟨U9, hU⟩ : ∃ U, U = W7.alloc (.cells #[.string s, .int .i64 x] 91) := ⟨_, rfl⟩
          have b : Below W7.heap.size W7 U9 := by rw [hU]; exact al (Below.refl _ _)
          have gq : W7.grownBy U9 (some p) := only_of_below b _
          have n9 : W7.heap.size ≠ p := by have := hcr.lt; omega
          replace ho := own_only ho gq (by omega)
          replace hcr := hcr.below b
          replace hH := (gq.block G0 (by omega) (fun e => by injection e with e; omega)).trans hH
          replace dR := gcell gq dR (by omega)
          replace fR := gfroz gq (by omega) fR (by omega)
          replace dG := gcell gq dG (by omega)
          replace fG := gfroz gq (by omega) fG (by omega)
          replace r3 := r3.grown gq (fun ad h e => by injection h with h; subst h; injection e with e; exact n3 e.symm)
          replace r6 := r6.grown gq (fun ad h e => by injection h with h; subst h; injection e with e; exact n6 e.symm)
          replace hg := only_trans hg gq
          have hs0 := gq.size
          replace hsz := Nat.le_trans hsz hs0
          clear hs0 gq b
          have r9 : Rd U9 2 (some ⟨W7.heap.size, 0, none⟩) 1 (fl [(s, x)]) := by rw [hU]; exact rd_new2 rfl
          rw [← hU]
          clear hU
          refine hK.out _ _ trivial (fun hHeld => ?_)
          clear hHeld hK K
          try simp only [Act.put, List.setIfInBounds_toArray, List.set_cons_zero, List.set_cons_succ]
          refine wpAnyH_ready (rs := [10]) (by kernel_rfl) (by simp) ?_
          refine AllReadyH.cons rfl (fun K hK => ?_) AllReadyH.nil
          refine step_catD (by rfl) (some 22) (by rfl) (.tmp 13) (.tmp 21) 26 (by rfl) (w.heap.size + 1) 91 i0 (.agg #[.string ⟨#[]⟩, .int .i64 0]) 2 24 Try.underlying26 hi hz0 hz1 hz2 rfl (by decide) B m d _ (by rfl) (by exact ho) _ 1 _ (fl [(s, x)]) (by rfl) (by exact r9) (ones_fl _) (by unfold maxLen; omega) (by omega) (by omega) ?_
          intro A1 n1 c1 w5 hn1 o5 b5 g5
          have hn9 : n1 ≤ 9 := by omega
          clear hn1
          have hne := own_ne_type ho hH (by decide)
          replace hH := (grown_blk g5 (by omega) hne).trans hH
          replace dG := cell_apartE g5 dG hne
          replace fG := (World.frozen?_of_block (a := ⟨G0, 0, none⟩) (grown_blk g5 (by show G0 < _; omega) hne)).trans fG
          replace dR := (b5.cell (p := ⟨w.heap.size, 0, none⟩) (by show w.heap.size < w.heap.size + 1; omega)).trans dR
          replace fR := (b5.frozen (p := ⟨w.heap.size, 0, none⟩) (by show w.heap.size < w.heap.size + 1; omega)).trans fR
          replace hcr := hcr.belowB b5 (by omega)
          replace hg := only_below hg (b5.mono (by omega))
          replace hsz := Nat.le_trans hsz b5.size
          have hne5 := own_ne_type o5 hH (by decide)
          clear b5 g5
          refine hK.out _ _ trivial (fun hHeld => ?_)
          clear hHeld hK K
          try simp only [Act.put, List.setIfInBounds_toArray, List.set_cons_zero, List.set_cons_succ]
          refine takeD (i := 11) (d := some 23) (v := ?_) _ rfl rfl (by kernel_rfl) (by kernel_rfl) (by kernel_rfl) (fun _ _ _ h => h) (Or.inl ⟨by rfl, ?_⟩) trivial ?_
          rotate_left
          · (intro W hSw; clear hSw; go_simp; try with_reducible rfl)
          try simp only [Act.put, List.setIfInBounds_toArray, List.set_cons_zero, List.set_cons_succ]
          refine wpAnyH_ready (rs := [12]) (by kernel_rfl) (by simp) ?_
          refine AllReadyH.cons rfl (fun K hK => ?_) AllReadyH.nil
          go_simp
          refine hK.out _ _ trivial (fun hHeld => ?_)
          clear hHeld hK K
          try simp only [Act.put, List.setIfInBounds_toArray, List.set_cons_zero, List.set_cons_succ]
          refine wpAnyH_done (by kernel_rfl) ?_ _
          have o6 : w5.ownsRow (w.heap.size + 1) 91 2 (.slice A1 n1 c1) n1 (fl (l ++ [(s, x)])) := by rw [fl_append]; exact o5
          have O8 := Lib.hid (own_base (base' := w.heap.size) (ownsRow_setCell_below (own_base (own_setNe o6 (a := ⟨G0, 0, none⟩) (.slice A1 n1 c1) hne5) (Nat.le_refl _)) (a := ⟨w.heap.size, 0, none⟩) (by show w.heap.size < w.heap.size + 1; omega) (.slice A1 n1 c1)) (by omega))
          have C8 := Lib.hid (cur_set (v := .slice A1 n1 c1) (b := w.heap.size) (o := 0) (cur_set (v := .slice A1 n1 c1) (b := G0) (o := 0) hcr (by omega)) (by omega))
          have G8 := Lib.hid (gro_set (v := .slice A1 n1 c1) (b := w.heap.size) (o := 0) (gro_set (v := .slice A1 n1 c1) (b := G0) (o := 0) hg (by omega)) (Nat.le_refl _))
          have hok8 : Hid (okF (l ++ [(s, x)])) := Lib.hid (okF_snoc okl (anyTexts_ok s hs) ((by decide : ∀ y ∈ [0, -1, 1000000000, (1000000001 : Int)], -9223372036854775808 ≤ y ∧ y ≤ 9223372036854775807) x hx))
          have dR8 : (w5.setCell ⟨G0, 0, none⟩ (.slice A1 n1 c1)).cell? ⟨w.heap.size, 0, none⟩ = some (.slice none 0 0) := by
            rw [World.cell?_setCell_far _ ⟨G0, 0, none⟩ ⟨w.heap.size, 0, none⟩ _ (by show G0 ≠ w.heap.size; omega)]
            exact dR
          have fR8 : (w5.setCell ⟨G0, 0, none⟩ (.slice A1 n1 c1)).frozen? ⟨w.heap.size, 0, none⟩ = false := by simp [fR]
          have dG8 : (w5.setCell ⟨G0, 0, none⟩ (.slice A1 n1 c1)).cell? ⟨G0, 0, none⟩ = some (.slice A1 n1 c1) := by simp [go_sem, dG]
          clear ho o5 o6 hcr hg
          go_wp2
          exact bodyPost_ret (v := .agg #[.slice A1 n1 c1]) (by simp [results, Try.results118, go_sem, dR8]) rfl ⟨A1, n1, c1, _, rfl, O8.out, ⟨hok8.out, by omega⟩, C8.out, G8.out⟩
        · go_simp
          obtain ⟨U6, hU⟩ : ∃ U, U = U3.alloc (.cells #[.int .i64 0, .int .i64 (-1), .int .i64 1000000000, .int .i64 1000000001] 3) := ⟨_, rfl⟩
          have b : Below U3.heap.size U3 U6 := by rw [hU]; exact al (Below.refl _ _)
          have gq : U3.grownBy U6 (some p) := only_of_below b _
          have n6 : U3.heap.size ≠ p := by have := hcr.lt; omega
          replace ho := own_only ho gq (by omega)
          replace hcr := hcr.below b
          replace hH := (gq.block G0 (by omega) (fun e => by injection e with e; omega)).trans hH
          replace dR := gcell gq dR (by omega)
          replace fR := gfroz gq (by omega) fR (by omega)
          replace dG := gcell gq dG (by omega)
          replace fG := gfroz gq (by omega) fG (by omega)
          replace r3 := r3.grown gq (fun ad h e => by injection h with h; subst h; injection e with e; exact n3 e.symm)
          replace hg := only_trans hg gq
          have hs0 := gq.size
          replace hsz := Nat.le_trans hsz hs0
          clear hs0 gq b
          have r6 : Rd U6 1 (some ⟨U3.heap.size, 0, none⟩) 4 ([0, -1, 1000000000, (1000000001 : Int)].map iv) := by rw [hU]; exact rd_lit2 U3 _ _ _ rfl
          rw [← hU]
          clear hU
          refine hK.out _ _ trivial (fun hHeld => ?_)
          clear hHeld hK K
          try simp only [Act.put, List.setIfInBounds_toArray, List.set_cons_zero, List.set_cons_succ]
          refine wpAnyH_ready (rs := [4]) (by kernel_rfl) (by simp) ?_
          refine AllReadyH.cons rfl (fun K hK => ?_) AllReadyH.nil
          go_simp
          refine (l1Str_any p _ 5 5 anyTexts _ (by decide) (by decide) r3 (fun ad h => by injection h with h; subst h; exact n3) hcr).mono ?_; rintro e W4 ⟨s, rfl, hs, cq, gq⟩
          try go_wp2_with fail
          replace ho := own_only ho gq (by omega)
          replace hcr := cq
          replace hH := (gq.block G0 (by omega) (fun e => by injection e with e; omega)).trans hH
          replace dR := gcell gq dR (by omega)
          replace fR := gfroz gq (by omega) fR (by omega)
          replace dG := gcell gq dG (by omega)
          replace fG := gfroz gq (by omega) fG (by omega)
          replace r3 := r3.grown gq (fun ad h e => by injection h with h; subst h; injection e with e; exact n3 e.symm)
          replace r6 := r6.grown gq (fun ad h e => by injection h with h; subst h; injection e with e; exact n6 e.symm)
          replace hg := only_trans hg gq
          have hs0 := gq.size
          replace hsz := Nat.le_trans hsz hs0
          clear hs0 gq cq
          refine hK.out _ _ trivial (fun hHeld => ?_)
          clear hHeld hK K
          try simp only [Act.put, List.setIfInBounds_toArray, List.set_cons_zero, List.set_cons_succ]
          refine wpAnyH_ready (rs := [7]) (by kernel_rfl) (by simp) ?_
          refine AllReadyH.cons rfl (fun K hK => ?_) AllReadyH.nil
          go_simp
          refine (l1Int_any p _ 4 4 [0, -1, 1000000000, 1000000001] _ (by decide) (by decide) r6 (fun ad h => by injection h with h; subst h; exact n6) hcr).mono ?_; rintro e W7 ⟨x, rfl, hx, cq, gq⟩
          try go_wp2_with fail
          replace ho := own_only ho gq (by omega)
          replace hcr := cq
          replace hH := (gq.block G0 (by omega) (fun e => by injection e with e; omega)).trans hH
          replace dR := gcell gq dR (by omega)
          replace fR := gfroz gq (by omega) fR (by omega)
          replace dG := gcell gq dG (by omega)
          replace fG := gfroz gq (by omega) fG (by omega)
          replace r3 := r3.grown gq (fun ad h e => by injection h with h; subst h; injection e with e; exact n3 e.symm)
          replace r6 := r6.grown gq (fun ad h e => by injection h with h; subst h; injection e with e; exact n6 e.symm)
          replace hg := only_trans hg gq
          have hs0 := gq.size
          replace hsz := Nat.le_trans hsz hs0
          clear hs0 gq cq
          refine hK.out _ _ trivial (fun hHeld => ?_)
          clear hHeld hK K
          try simp only [Act.put, List.setIfInBounds_toArray, List.set_cons_zero, List.set_cons_succ]
          refine takeD (i := 8) (d := some 20) (v := ?_) _ rfl rfl (by kernel_rfl) (by kernel_rfl) (by kernel_rfl) (fun _ _ _ h => h) (Or.inl ⟨by rfl, ?_⟩) trivial ?_
          rotate_left
          · (intro W hSw; clear hSw; go_simp; try with_reducible rfl)
          try simp only [Act.put, List.setIfInBounds_toArray, List.set_cons_zero, List.set_cons_succ]
          refine wpAnyH_ready (rs := [9]) (by kernel_rfl) (by simp) ?_
          refine AllReadyH.cons rfl (fun K hK => ?_) AllReadyH.nil
          go_simp
          obtain ⟨U9, hU⟩ : ∃ U, U = W7.alloc (.cells #[.string s, .int .i64 x] 91) := ⟨_, rfl⟩
          have b : Below W7.heap.size W7 U9 := by rw [hU]; exact al (Below.refl _ _)
          have gq : W7.grownBy U9 (some p) := only_of_below b _
          have n9 : W7.heap.size ≠ p := by have := hcr.lt; omega
          replace ho := own_only ho gq (by omega)
          replace hcr := hcr.below b
          replace hH := (gq.block G0 (by omega) (fun e => by injection e with e; omega)).trans hH
          replace dR := gcell gq dR (by omega)
          replace fR := gfroz gq (by omega) fR (by omega)
          replace dG := gcell gq dG (by omega)
          replace fG := gfroz gq (by omega) fG (by omega)
          replace r3 := r3.grown gq (fun ad h e => by injection h with h; subst h; injection e with e; exact n3 e.symm)
          replace r6 := r6.grown gq (fun ad h e => by injection h with h; subst h; injection e with e; exact n6 e.symm)
          replace hg := only_trans hg gq
          have hs0 := gq.size
          replace hsz := Nat.le_trans hsz hs0
          clear hs0 gq b
          have r9 : Rd U9 2 (some ⟨W7.heap.size, 0, none⟩) 1 (fl [(s, x)]) := by rw [hU]; exact rd_new2 rfl
          rw [← hU]
          clear hU
          refine hK.out _ _ trivial (fun hHeld => ?_)
          clear hHeld hK K
          try simp only [Act.put, List.setIfInBounds_toArray, List.set_cons_zero, List.set_cons_succ]
          refine wpAnyH_ready (rs := [10]) (by kernel_rfl) (by simp) ?_
          refine AllReadyH.cons rfl (fun K hK => ?_) AllReadyH.nil
          refine step_catD (by rfl) (some 22) (by rfl) (.tmp 13) (.tmp 21) 26 (by rfl) (w.heap.size + 1) 91 i0 (.agg #[.string ⟨#[]⟩, .int .i64 0]) 2 24 Try.underlying26 hi hz0 hz1 hz2 rfl (by decide) B m d _ (by rfl) (by exact ho) _ 1 _ (fl [(s, x)]) (by rfl) (by exact r9) (ones_fl _) (by unfold maxLen; omega) (by omega) (by omega) ?_
          intro A1 n1 c1 w5 hn1 o5 b5 g5
          have hn9 : n1 ≤ 9 := by omega
          clear hn1
          have hne := own_ne_type ho hH (by decide)
          replace hH := (grown_blk g5 (by omega) hne).trans hH
          replace dG := cell_apartE g5 dG hne
          replace fG := (World.frozen?_of_block (a := ⟨G0, 0, none⟩) (grown_blk g5 (by show G0 < _; omega) hne)).trans fG
          replace dR := (b5.cell (p := ⟨w.heap.size, 0, none⟩) (by show w.heap.size < w.heap.size + 1; omega)).trans dR
          replace fR := (b5.frozen (p := ⟨w.heap.size, 0, none⟩) (by show w.heap.size < w.heap.size + 1; omega)).trans fR
          replace hcr := hcr.belowB b5 (by omega)
          replace hg := only_below hg (b5.mono (by omega))
          replace hsz := Nat.le_trans hsz b5.size
          have hne5 := own_ne_type o5 hH (by decide)
          clear b5 g5
          refine hK.out _ _ trivial (fun hHeld => ?_)
          clear hHeld hK K
          try simp only [Act.put, List.setIfInBounds_toArray, List.set_cons_zero, List.set_cons_succ]
          refine takeD (i := 11) (d := some 23) (v := ?_) _ rfl rfl (by kernel_rfl) (by kernel_rfl) (by kernel_rfl) (fun _ _ _ h => h) (Or.inl ⟨by rfl, ?_⟩) trivial ?_
          rotate_left
          · (intro W hSw; clear hSw; go_simp; try with_reducible rfl)
          try simp only [Act.put, List.setIfInBounds_toArray, List.set_cons_zero, List.set_cons_succ]
          refine wpAnyH_ready (rs := [12]) (by kernel_rfl) (by simp) ?_
          refine AllReadyH.cons rfl (fun K hK => ?_) AllReadyH.nil
          go_simp
          refine hK.out _ _ trivial (fun hHeld => ?_)
          clear hHeld hK K
          try simp only [Act.put, List.setIfInBounds_toArray, List.set_cons_zero, List.set_cons_succ]
          refine wpAnyH_done (by kernel_rfl) ?_ _
          have o6 : w5.ownsRow (w.heap.size + 1) 91 2 (.slice A1 n1 c1) n1 (fl (l ++ [(s, x)])) := by rw [fl_append]; exact o5
          have O8 := Lib.hid (own_base (base' := w.heap.size) (ownsRow_setCell_below (own_base (own_setNe o6 (a := ⟨G0, 0, none⟩) (.slice A1 n1 c1) hne5) (Nat.le_refl _)) (a := ⟨w.heap.size, 0, none⟩) (by show w.heap.size < w.heap.size + 1; omega) (.slice A1 n1 c1)) (by omega))
          have C8 := Lib.hid (cur_set (v := .slice A1 n1 c1) (b := w.heap.size) (o := 0) (cur_set (v := .slice A1 n1 c1) (b := G0) (o := 0) hcr (by omega)) (by omega))
          have G8 := Lib.hid (gro_set (v := .slice A1 n1 c1) (b := w.heap.size) (o := 0) (gro_set (v := .slice A1 n1 c1) (b := G0) (o := 0) hg (by omega)) (Nat.le_refl _))
          have hok8 : Hid (okF (l ++ [(s, x)])) := Lib.hid (okF_snoc okl (anyTexts_ok s hs) ((by decide : ∀ y ∈ [0, -1, 1000000000, (1000000001 : Int)], -9223372036854775808 ≤ y ∧ y ≤ 9223372036854775807) x hx))
          have dR8 : (w5.setCell ⟨G0, 0, none⟩ (.slice A1 n1 c1)).cell? ⟨w.heap.size, 0, none⟩ = some (.slice none 0 0) := by
            rw [World.cell?_setCell_far _ ⟨G0, 0, none⟩ ⟨w.heap.size, 0, none⟩ _ (by show G0 ≠ w.heap.size; omega)]
            exact dR
          have fR8 : (w5.setCell ⟨G0, 0, none⟩ (.slice A1 n1 c1)).frozen? ⟨w.heap.size, 0, none⟩ = false := by simp [fR]
          have dG8 : (w5.setCell ⟨G0, 0, none⟩ (.slice A1 n1 c1)).cell? ⟨G0, 0, none⟩ = some (.slice A1 n1 c1) := by simp [go_sem, dG]
          clear ho o5 o6 hcr hg
          go_wp2
          exact bodyPost_ret (v := .agg #[.slice A1 n1 c1]) (by simp [results, Try.results118, go_sem, dR8]) rfl ⟨A1, n1, c1, _, rfl, O8.out, ⟨hok8.out, by omega⟩, C8.out, G8.out⟩
      · go_simp
        refine (l1Str_any p _ 5 5 anyTexts _ (by decide) (by decide) r3 (fun ad h => by injection h with h; subst h; exact n3) hcr).mono ?_; rintro e W4 ⟨s, rfl, hs, cq, gq⟩
        try go_wp2_with fail
        replace ho := own_only ho gq (by omega)
        replace hcr := cq
        replace hH := (gq.block G0 (by omega) (fun e => by injection e with e; omega)).trans hH
        replace dR := gcell gq dR (by omega)
        replace fR := gfroz gq (by omega) fR (by omega)
        replace dG := gcell gq dG (by omega)
        replace fG := gfroz gq (by omega) fG (by omega)
        replace r3 := r3.grown gq (fun ad h e => by injection h with h; subst h; injection e with e; exact n3 e.symm)
        replace hg := only_trans hg gq
        have hs0 := gq.size
        replace hsz := Nat.le_trans hsz hs0
        clear hs0 gq cq
        refine hK.out _ _ trivial (fun hHeld => ?_)
        clear hHeld hK K
        try simp only [Act.put, List.setIfInBounds_toArray, List.set_cons_zero, List.set_cons_succ]
        refine wpAnyH_ready (rs := [1, 6]) (by kernel_rfl) (by simp) ?_
        refine AllReadyH.cons rfl (fun K hK => ?_) (AllReadyH.cons rfl (fun K hK => ?_) AllReadyH.nil)
        · go_simp
          refine hK.out _ _ trivial (fun hHeld => ?_)
          clear hHeld hK K
          try simp only [Act.put, List.setIfInBounds_toArray, List.set_cons_zero, List.set_cons_succ]
          refine wpAnyH_ready (rs := [6]) (by kernel_rfl) (by simp) ?_
          refine AllReadyH.cons rfl (fun K hK => ?_) AllReadyH.nil
          go_simp
          obtain ⟨U6, hU⟩ : ∃ U, U = W4.alloc (.cells #[.int .i64 0, .int .i64 (-1), .int .i64 1000000000, .int .i64 1000000001] 3) := ⟨_, rfl⟩
          have b : Below W4.heap.size W4 U6 := by rw [hU]; exact al (Below.refl _ _)
          have gq : W4.grownBy U6 (some p) := only_of_below b _
          have n6 : W4.heap.size ≠ p := by have := hcr.lt; omega
          replace ho := own_only ho gq (by omega)
          replace hcr := hcr.below b
          replace hH := (gq.block G0 (by omega) (fun e => by injection e with e; omega)).trans hH
          replace dR := gcell gq dR (by omega)
          replace fR := gfroz gq (by omega) fR (by omega)
          replace dG := gcell gq dG (by omega)
          replace fG := gfroz gq (by omega) fG (by omega)
          replace r3 := r3.grown gq (fun ad h e => by injection h with h; subst h; injection e with e; exact n3 e.symm)
          replace hg := only_trans hg gq
          have hs0 := gq.size
          replace hsz := Nat.le_trans hsz hs0
          clear hs0 gq b
          have r6 : Rd U6 1 (some ⟨W4.heap.size, 0, none⟩) 4 ([0, -1, 1000000000, (1000000001 : Int)].map iv) := by rw [hU]; exact rd_lit2 W4 _ _ _ rfl
          rw [← hU]
          clear hU
          refine hK.out _ _ trivial (fun hHeld => ?_)
          clear hHeld hK K
          try simp only [Act.put, List.setIfInBounds_toArray, List.set_cons_zero, List.set_cons_succ]
          refine wpAnyH_ready (rs := [7]) (by kernel_rfl) (by simp) ?_
          refine AllReadyH.cons rfl (fun K hK => ?_) AllReadyH.nil
          go_simp
          refine (l1Int_any p _ 4 4 [0, -1, 1000000000, 1000000001] _ (by decide) (by decide) r6 (fun ad h => by injection h with h; subst h; exact n6) hcr).mono ?_; rintro e W7 ⟨x, rfl, hx, cq, gq⟩
          try go_wp2_with fail
          replace ho := own_only ho gq (by omega)
          replace hcr := cq
          replace hH := (gq.block G0 (by omega) (fun e => by injection e with e; omega)).trans hH
          replace dR := gcell gq dR (by omega)
          replace fR := gfroz gq (by omega) fR (by omega)
          replace dG := gcell gq dG (by omega)
          replace fG := gfroz gq (by omega) fG (by omega)
          replace r3 := r3.grown gq (fun ad h e => by injection h with h; subst h; injection e with e; exact n3 e.symm)
          replace r6 := r6.grown gq (fun ad h e => by injection h with h; subst h; injection e with e; exact n6 e.symm)
          replace hg := only_trans hg gq
          have hs0 := gq.size
          replace hsz := Nat.le_trans hsz hs0
          clear hs0 gq cq
          refine hK.out _ _ trivial (fun hHeld => ?_)
          clear hHeld hK K
          try simp only [Act.put, List.setIfInBounds_toArray, List.set_cons_zero, List.set_cons_succ]
          refine takeD (i := 8) (d := some 20) (v := ?_) _ rfl rfl (by kernel_rfl) (by kernel_rfl) (by kernel_rfl) (fun _ _ _ h => h) (Or.inl ⟨by rfl, ?_⟩) trivial ?_
          rotate_left
          · (intro W hSw; clear hSw; go_simp; try with_reducible rfl)
          try simp only [Act.put, List.setIfInBounds_toArray, List.set_cons_zero, List.set_cons_succ]
          refine wpAnyH_ready (rs := [9]) (by kernel_rfl) (by simp) ?_
          refine AllReadyH.cons rfl (fun K hK => ?_) AllReadyH.nil
          go_simp
          obtain ⟨U9, hU⟩ : ∃ U, U = W7.alloc (.cells #[.string s, .int .i64 x] 91) := ⟨_, rfl⟩
          have b : Below W7.heap.size W7 U9 := by rw [hU]; exact al (Below.refl _ _)
          have gq : W7.grownBy U9 (some p) := only_of_below b _
          have n9 : W7.heap.size ≠ p := by have := hcr.lt; omega
          replace ho := own_only ho gq (by omega)
          replace hcr := hcr.below b
          replace hH := (gq.block G0 (by omega) (fun e => by injection e with e; omega)).trans hH
          replace dR := gcell gq dR (by omega)
          replace fR := gfroz gq (by omega) fR (by omega)
          replace dG := gcell gq dG (by omega)
          replace fG := gfroz gq (by omega) fG (by omega)
          replace r3 := r3.grown gq (fun ad h e => by injection h with h; subst h; injection e with e; exact n3 e.symm)
          replace r6 := r6.grown gq (fun ad h e => by injection h with h; subst h; injection e with e; exact n6 e.symm)
          replace hg := only_trans hg gq
          have hs0 := gq.size
          replace hsz := Nat.le_trans hsz hs0
          clear hs0 gq b
          have r9 : Rd U9 2 (some ⟨W7.heap.size, 0, none⟩) 1 (fl [(s, x)]) := by rw [hU]; exact rd_new2 rfl
          rw [← hU]
          clear hU
          refine hK.out _ _ trivial (fun hHeld => ?_)
          clear hHeld hK K
          try simp only [Act.put, List.setIfInBounds_toArray, List.set_cons_zero, List.set_cons_succ]
          refine wpAnyH_ready (rs := [10]) (by kernel_rfl) (by simp) ?_
          refine AllReadyH.cons rfl (fun K hK => ?_) AllReadyH.nil
          refine step_catD (by rfl) (some 22) (by rfl) (.tmp 13) (.tmp 21) 26 (by rfl) (w.heap.size + 1) 91 i0 (.agg #[.string ⟨#[]⟩, .int .i64 0]) 2 24 Try.underlying26 hi hz0 hz1 hz2 rfl (by decide) B m d _ (by rfl) (by exact ho) _ 1 _ (fl [(s, x)]) (by rfl) (by exact r9) (ones_fl _) (by unfold maxLen; omega) (by omega) (by omega) ?_
          intro A1 n1 c1 w5 hn1 o5 b5 g5
          have hn9 : n1 ≤ 9 := by omega
          clear hn1
          have hne := own_ne_type ho hH (by decide)
          replace hH := (grown_blk g5 (by omega) hne).trans hH
          replace dG := cell_apartE g5 dG hne
          replace fG := (World.frozen?_of_block (a := ⟨G0, 0, none⟩) (grown_blk g5 (by show G0 < _; omega) hne)).trans fG
          replace dR := (b5.cell (p := ⟨w.heap.size, 0, none⟩) (by show w.heap.size < w.heap.size + 1; omega)).trans dR
          replace fR := (b5.frozen (p := ⟨w.heap.size, 0, none⟩) (by show w.heap.size < w.heap.size + 1; omega)).trans fR
          replace hcr := hcr.belowB b5 (by omega)
          replace hg := only_below hg (b5.mono (by omega))
          replace hsz := Nat.le_trans hsz b5.size
          have hne5 := own_ne_type o5 hH (by decide)
          clear b5 g5
          refine hK.out _ _ trivial (fun hHeld => ?_)
          clear hHeld hK K
          try simp only [Act.put, List.setIfInBounds_toArray, List.set_cons_zero, List.set_cons_succ]
          refine takeD (i := 11) (d := some 23) (v := ?_) _ rfl rfl (by kernel_rfl) (by kernel_rfl) (by kernel_rfl) (fun _ _ _ h => h) (Or.inl ⟨by rfl, ?_⟩) trivial ?_
          rotate_left
          · (intro W hSw; clear hSw; go_simp; try with_reducible rfl)
          try simp only [Act.put, List.setIfInBounds_toArray, List.set_cons_zero, List.set_cons_succ]
          refine wpAnyH_ready (rs := [12]) (by kernel_rfl) (by simp) ?_
          refine AllReadyH.cons rfl (fun K hK => ?_) AllReadyH.nil
          go_simp
          refine hK.out _ _ trivial (fun hHeld => ?_)
          clear hHeld hK K
          try simp only [Act.put, List.setIfInBounds_toArray, List.set_cons_zero, List.set_cons_succ]
          refine wpAnyH_done (by kernel_rfl) ?_ _
          have o6 : w5.ownsRow (w.heap.size + 1) 91 2 (.slice A1 n1 c1) n1 (fl (l ++ [(s, x)])) := by rw [fl_append]; exact o5
          have O8 := Lib.hid (own_base (base' := w.heap.size) (ownsRow_setCell_below (own_base (own_setNe o6 (a := ⟨G0, 0, none⟩) (.slice A1 n1 c1) hne5) (Nat.le_refl _)) (a := ⟨w.heap.size, 0, none⟩) (by show w.heap.size < w.heap.size + 1; omega) (.slice A1 n1 c1)) (by omega))
          have C8 := Lib.hid (cur_set (v := .slice A1 n1 c1) (b := w.heap.size) (o := 0) (cur_set (v := .slice A1 n1 c1) (b := G0) (o := 0) hcr (by omega)) (by omega))
          have G8 := Lib.hid (gro_set (v := .slice A1 n1 c1) (b := w.heap.size) (o := 0) (gro_set (v := .slice A1 n1 c1) (b := G0) (o := 0) hg (by omega)) (Nat.le_refl _))
          have hok8 : Hid (okF (l ++ [(s, x)])) := Lib.hid (okF_snoc okl (anyTexts_ok s hs) ((by decide : ∀ y ∈ [0, -1, 1000000000, (1000000001 : Int)], -9223372036854775808 ≤ y ∧ y ≤ 9223372036854775807) x hx))
          have dR8 : (w5.setCell ⟨G0, 0, none⟩ (.slice A1 n1 c1)).cell? ⟨w.heap.size, 0, none⟩ = some (.slice none 0 0) := by
            rw [World.cell?_setCell_far _ ⟨G0, 0, none⟩ ⟨w.heap.size, 0, none⟩ _ (by show G0 ≠ w.heap.size; omega)]
            exact dR
          have fR8 : (w5.setCell ⟨G0, 0, none⟩ (.slice A1 n1 c1)).frozen? ⟨w.heap.size, 0, none⟩ = false := by simp [fR]
          have dG8 : (w5.setCell ⟨G0, 0, none⟩ (.slice A1 n1 c1)).cell? ⟨G0, 0, none⟩ = some (.slice A1 n1 c1) := by simp [go_sem, dG]
          clear ho o5 o6 hcr hg
          go_wp2
          exact bodyPost_ret (v := .agg #[.slice A1 n1 c1]) (by simp [results, Try.results118, go_sem, dR8]) rfl ⟨A1, n1, c1, _, rfl, O8.out, ⟨hok8.out, by omega⟩, C8.out, G8.out⟩
        · go_simp
          obtain ⟨U6, hU⟩ : ∃ U, U = W4.alloc (.cells #[.int .i64 0, .int .i64 (-1), .int .i64 1000000000, .int .i64 1000000001] 3) := ⟨_, rfl⟩
          have b : Below W4.heap.size W4 U6 := by rw [hU]; exact al (Below.refl _ _)
          have gq : W4.grownBy U6 (some p) := only_of_below b _
          have n6 : W4.heap.size ≠ p := by have := hcr.lt; omega
          replace ho := own_only ho gq (by omega)
          replace hcr := hcr.below b
          replace hH := (gq.block G0 (by omega) (fun e => by injection e with e; omega)).trans hH
          replace dR := gcell gq dR (by omega)
          replace fR := gfroz gq (by omega) fR (by omega)
          replace dG := gcell gq dG (by omega)
          replace fG := gfroz gq (by omega) fG (by omega)
          replace r3 := r3.grown gq (fun ad h e => by injection h with h; subst h; injection e with e; exact n3 e.symm)
          replace hg := only_trans hg gq
          have hs0 := gq.size
          replace hsz := Nat.le_trans hsz hs0
          clear hs0 gq b
          have r6 : Rd U6 1 (some ⟨W4.heap.size, 0, none⟩) 4 ([0, -1, 1000000000, (1000000001 : Int)].map iv) := by rw [hU]; exact rd_lit2 W4 _ _ _ rfl
          rw [← hU]
          clear hU
          refine hK.out _ _ trivial (fun hHeld => ?_)
          clear hHeld hK K
          try simp only [Act.put, List.setIfInBounds_toArray, List.set_cons_zero, List.set_cons_succ]
          refine wpAnyH_ready (rs := [1, 7]) (by kernel_rfl) (by simp) ?_
          refine AllReadyH.cons rfl (fun K hK => ?_) (AllReadyH.cons rfl (fun K hK => ?_) AllReadyH.nil)
          · go_simp
            refine hK.out _ _ trivial (fun hHeld => ?_)
            clear hHeld hK K
            try simp only [Act.put, List.setIfInBounds_toArray, List.set_cons_zero, List.set_cons_succ]
            refine wpAnyH_ready (rs := [7]) (by kernel_rfl) (by simp) ?_
            refine AllReadyH.cons rfl (fun K hK => ?_) AllReadyH.nil
            go_simp
            refine (l1Int_any p _ 4 4 [0, -1, 1000000000, 1000000001] _ (by decide) (by decide) r6 (fun ad h => by injection h with h; subst h; exact n6) hcr).mono ?_; rintro e W7 ⟨x, rfl, hx, cq, gq⟩
            try go_wp2_with fail
            replace ho := own_only ho gq (by omega)
            replace hcr := cq
            replace hH := (gq.block G0 (by omega) (fun e => by injection e with e; omega)).trans hH
            replace dR := gcell gq dR (by omega)
            replace fR := gfroz gq (by omega) fR (by omega)
            replace dG := gcell gq dG (by omega)
            replace fG := gfroz gq (by omega) fG (by omega)
            replace r3 := r3.grown gq (fun ad h e => by injection h with h; subst h; injection e with e; exact n3 e.symm)
            replace r6 := r6.grown gq (fun ad h e => by injection h with h; subst h; injection e with e; exact n6 e.symm)
            replace hg := only_trans hg gq
            have hs0 := gq.size
            replace hsz := Nat.le_trans hsz hs0
            clear hs0 gq cq
            refine hK.out _ _ trivial (fun hHeld => ?_)
            clear hHeld hK K
            try simp only [Act.put, List.setIfInBounds_toArray, List.set_cons_zero, List.set_cons_succ]
            refine takeD (i := 8) (d := some 20) (v := ?_) _ rfl rfl (by kernel_rfl) (by kernel_rfl) (by kernel_rfl) (fun _ _ _ h => h) (Or.inl ⟨by rfl, ?_⟩) trivial ?_
            rotate_left
            · (intro W hSw; clear hSw; go_simp; try with_reducible rfl)
            try simp only [Act.put, List.setIfInBounds_toArray, List.set_cons_zero, List.set_cons_succ]
            refine wpAnyH_ready (rs := [9]) (by kernel_rfl) (by simp) ?_
            refine AllReadyH.cons rfl (fun K hK => ?_) AllReadyH.nil
            go_simp
            obtain ⟨U9, hU⟩ : ∃ U, U = W7.alloc (.cells #[.string s, .int .i64 x] 91) := ⟨_, rfl⟩
            have b : Below W7.heap.size W7 U9 := by rw [hU]; exact al (Below.refl _ _)
            have gq : W7.grownBy U9 (some p) := only_of_below b _
            have n9 : W7.heap.size ≠ p := by have := hcr.lt; omega
            replace ho := own_only ho gq (by omega)
            replace hcr := hcr.below b
            replace hH := (gq.block G0 (by omega) (fun e => by injection e with e; omega)).trans hH
            replace dR := gcell gq dR (by omega)
            replace fR := gfroz gq (by omega) fR (by omega)
            replace dG := gcell gq dG (by omega)
            replace fG := gfroz gq (by omega) fG (by omega)
            replace r3 := r3.grown gq (fun ad h e => by injection h with h; subst h; injection e with e; exact n3 e.symm)
            replace r6 := r6.grown gq (fun ad h e => by injection h with h; subst h; injection e with e; exact n6 e.symm)
            replace hg := only_trans hg gq
            have hs0 := gq.size
            replace hsz := Nat.le_trans hsz hs0
            clear hs0 gq b
            have r9 : Rd U9 2 (some ⟨W7.heap.size, 0, none⟩) 1 (fl [(s, x)]) := by rw [hU]; exact rd_new2 rfl
            rw [← hU]
            clear hU
            refine hK.out _ _ trivial (fun hHeld => ?_)
            clear hHeld hK K
            try simp only [Act.put, List.setIfInBounds_toArray, List.set_cons_zero, List.set_cons_succ]
            refine wpAnyH_ready (rs := [10]) (by kernel_rfl) (by simp) ?_
            refine AllReadyH.cons rfl (fun K hK => ?_) AllReadyH.nil
            refine step_catD (by rfl) (some 22) (by rfl) (.tmp 13) (.tmp 21) 26 (by rfl) (w.heap.size + 1) 91 i0 (.agg #[.string ⟨#[]⟩, .int .i64 0]) 2 24 Try.underlying26 hi hz0 hz1 hz2 rfl (by decide) B m d _ (by rfl) (by exact ho) _ 1 _ (fl [(s, x)]) (by rfl) (by exact r9) (ones_fl _) (by unfold maxLen; omega) (by omega) (by omega) ?_
            intro A1 n1 c1 w5 hn1 o5 b5 g5
            have hn9 : n1 ≤ 9 := by omega
            clear hn1
            have hne := own_ne_type ho hH (by decide)
            replace hH := (grown_blk g5 (by omega) hne).trans hH
            replace dG := cell_apartE g5 dG hne
            replace fG := (World.frozen?_of_block (a := ⟨G0, 0, none⟩) (grown_blk g5 (by show G0 < _; omega) hne)).trans fG
            replace dR := (b5.cell (p := ⟨w.heap.size, 0, none⟩) (by show w.heap.size < w.heap.size + 1; omega)).trans dR
            replace fR := (b5.frozen (p := ⟨w.heap.size, 0, none⟩) (by show w.heap.size < w.heap.size + 1; omega)).trans fR
            replace hcr := hcr.belowB b5 (by omega)
            replace hg := only_below hg (b5.mono (by omega))
            replace hsz := Nat.le_trans hsz b5.size
            have hne5 := own_ne_type o5 hH (by decide)
            clear b5 g5
            refine hK.out _ _ trivial (fun hHeld => ?_)
            clear hHeld hK K
            try simp only [Act.put, List.setIfInBounds_toArray, List.set_cons_zero, List.set_cons_succ]
            refine takeD (i := 11) (d := some 23) (v := ?_) _ rfl rfl (by kernel_rfl) (by kernel_rfl) (by kernel_rfl) (fun _ _ _ h => h) (Or.inl ⟨by rfl, ?_⟩) trivial ?_
            rotate_left
            · (intro W hSw; clear hSw; go_simp; try with_reducible rfl)
            try simp only [Act.put, List.setIfInBounds_toArray, List.set_cons_zero, List.set_cons_succ]
            refine wpAnyH_ready (rs := [12]) (by kernel_rfl) (by simp) ?_
            refine AllReadyH.cons rfl (fun K hK => ?_) AllReadyH.nil
            go_simp
            refine hK.out _ _ trivial (fun hHeld => ?_)
            clear hHeld hK K
            try simp only [Act.put, List.setIfInBounds_toArray, List.set_cons_zero, List.set_cons_succ]
            refine wpAnyH_done (by kernel_rfl) ?_ _
            have o6 : w5.ownsRow (w.heap.size + 1) 91 2 (.slice A1 n1 c1) n1 (fl (l ++ [(s, x)])) := by rw [fl_append]; exact o5
            have O8 := Lib.hid (own_base (base' := w.heap.size) (ownsRow_setCell_below (own_base (own_setNe o6 (a := ⟨G0, 0, none⟩) (.slice A1 n1 c1) hne5) (Nat.le_refl _)) (a := ⟨w.heap.size, 0, none⟩) (by show w.heap.size < w.heap.size + 1; omega) (.slice A1 n1 c1)) (by omega))
            have C8 := Lib.hid (cur_set (v := .slice A1 n1 c1) (b := w.heap.size) (o := 0) (cur_set (v := .slice A1 n1 c1) (b := G0) (o := 0) hcr (by omega)) (by omega))
            have G8 := Lib.hid (gro_set (v := .slice A1 n1 c1) (b := w.heap.size) (o := 0) (gro_set (v := .slice A1 n1 c1) (b := G0) (o := 0) hg (by omega)) (Nat.le_refl _))
            have hok8 : Hid (okF (l ++ [(s, x)])) := Lib.hid (okF_snoc okl (anyTexts_ok s hs) ((by decide : ∀ y ∈ [0, -1, 1000000000, (1000000001 : Int)], -9223372036854775808 ≤ y ∧ y ≤ 9223372036854775807) x hx))
            have dR8 : (w5.setCell ⟨G0, 0, none⟩ (.slice A1 n1 c1)).cell? ⟨w.heap.size, 0, none⟩ = some (.slice none 0 0) := by
              rw [World.cell?_setCell_far _ ⟨G0, 0, none⟩ ⟨w.heap.size, 0, none⟩ _ (by show G0 ≠ w.heap.size; omega)]
              exact dR
            have fR8 : (w5.setCell ⟨G0, 0, none⟩ (.slice A1 n1 c1)).frozen? ⟨w.heap.size, 0, none⟩ = false := by simp [fR]
            have dG8 : (w5.setCell ⟨G0, 0, none⟩ (.slice A1 n1 c1)).cell? ⟨G0, 0, none⟩ = some (.slice A1 n1 c1) := by simp [go_sem, dG]
            clear ho o5 o6 hcr hg
            go_wp2
            exact bodyPost_ret (v := .agg #[.slice A1 n1 c1]) (by simp [results, Try.results118, go_sem, dR8]) rfl ⟨A1, n1, c1, _, rfl, O8.out, ⟨hok8.out, by omega⟩, C8.out, G8.out⟩
          · go_simp
            refine (l1Int_any p _ 4 4 [0, -1, 1000000000, 1000000001] _ (by decide) (by decide) r6 (fun ad h => by injection h with h; subst h; exact n6) hcr).mono ?_; rintro e W7 ⟨x, rfl, hx, cq, gq⟩
            try go_wp2_with fail
            replace ho := own_only ho gq (by omega)
            replace hcr := cq
            replace hH := (gq.block G0 (by omega) (fun e => by injection e with e; omega)).trans hH
            replace dR := gcell gq dR (by omega)
            replace fR := gfroz gq (by omega) fR (by omega)
            replace dG := gcell gq dG (by omega)
            replace fG := gfroz gq (by omega) fG (by omega)
            replace r3 := r3.grown gq (fun ad h e => by injection h with h; subst h; injection e with e; exact n3 e.symm)
            replace r6 := r6.grown gq (fun ad h e => by injection h with h; subst h; injection e with e; exact n6 e.symm)
            replace hg := only_trans hg gq
            have hs0 := gq.size
            replace hsz := Nat.le_trans hsz hs0
            clear hs0 gq cq
            refine hK.out _ _ trivial (fun hHeld => ?_)
            clear hHeld hK K
            try simp only [Act.put, List.setIfInBounds_toArray, List.set_cons_zero, List.set_cons_succ]
            refine takeD (i := 8) (d := some 20) (v := ?_) _ rfl rfl (by kernel_rfl) (by kernel_rfl) (by kernel_rfl) (fun _ _ _ h => h) (Or.inl ⟨by rfl, ?_⟩) trivial ?_
            rotate_left
            · (intro W hSw; clear hSw; go_simp; try with_reducible rfl)
            try simp only [Act.put, List.setIfInBounds_toArray, List.set_cons_zero, List.set_cons_succ]
            refine wpAnyH_ready (rs := [1, 9]) (by kernel_rfl) (by simp) ?_
            refine AllReadyH.cons rfl (fun K hK => ?_) (AllReadyH.cons rfl (fun K hK => ?_) AllReadyH.nil)
            · go_simp
              refine hK.out _ _ trivial (fun hHeld => ?_)
              clear hHeld hK K
              try simp only [Act.put, List.setIfInBounds_toArray, List.set_cons_zero, List.set_cons_succ]
              refine wpAnyH_ready (rs := [9]) (by kernel_rfl) (by simp) ?_
              refine AllReadyH.cons rfl (fun K hK => ?_) AllReadyH.nil
              go_simp
              obtain ⟨U9, hU⟩ : ∃ U, U = W7.alloc (.cells #[.string s, .int .i64 x] 91) := ⟨_, rfl⟩
              have b : Below W7.heap.size W7 U9 := by rw [hU]; exact al (Below.refl _ _)
              have gq : W7.grownBy U9 (some p) := only_of_below b _
              have n9 : W7.heap.size ≠ p := by have := hcr.lt; omega
              replace ho := own_only ho gq (by omega)
              replace hcr := hcr.below b
              replace hH := (gq.block G0 (by omega) (fun e => by injection e with e; omega)).trans hH
              replace dR := gcell gq dR (by omega)
              replace fR := gfroz gq (by omega) fR (by omega)
              replace dG := gcell gq dG (by omega)
              replace fG := gfroz gq (by omega) fG (by omega)
              replace r3 := r3.grown gq (fun ad h e => by injection h with h; subst h; injection e with e; exact n3 e.symm)
              replace r6 := r6.grown gq (fun ad h e => by injection h with h; subst h; injection e with e; exact n6 e.symm)
              replace hg := only_trans hg gq
              have hs0 := gq.size
              replace hsz := Nat.le_trans hsz hs0
              clear hs0 gq b
              have r9 : Rd U9 2 (some ⟨W7.heap.size, 0, none⟩) 1 (fl [(s, x)]) := by rw [hU]; exact rd_new2 rfl
              rw [← hU]
              clear hU
              refine hK.out _ _ trivial (fun hHeld => ?_)
              clear hHeld hK K
              try simp only [Act.put, List.setIfInBounds_toArray, List.set_cons_zero, List.set_cons_succ]
              refine wpAnyH_ready (rs := [10]) (by kernel_rfl) (by simp) ?_
              refine AllReadyH.cons rfl (fun K hK => ?_) AllReadyH.nil
              refine step_catD (by rfl) (some 22) (by rfl) (.tmp 13) (.tmp 21) 26 (by rfl) (w.heap.size + 1) 91 i0 (.agg #[.string ⟨#[]⟩, .int .i64 0]) 2 24 Try.underlying26 hi hz0 hz1 hz2 rfl (by decide) B m d _ (by rfl) (by exact ho) _ 1 _ (fl [(s, x)]) (by rfl) (by exact r9) (ones_fl _) (by unfold maxLen; omega) (by omega) (by omega) ?_
              intro A1 n1 c1 w5 hn1 o5 b5 g5
              have hn9 : n1 ≤ 9 := by omega
              clear hn1
              have hne := own_ne_type ho hH (by decide)
              replace hH := (grown_blk g5 (by omega) hne).trans hH
              replace dG := cell_apartE g5 dG hne
              replace fG := (World.frozen?_of_block (a := ⟨G0, 0, none⟩) (grown_blk g5 (by show G0 < _; omega) hne)).trans fG
              replace dR := (b5.cell (p := ⟨w.heap.size, 0, none⟩) (by show w.heap.size < w.heap.size + 1; omega)).trans dR
              replace fR := (b5.frozen (p := ⟨w.heap.size, 0, none⟩) (by show w.heap.size < w.heap.size + 1; omega)).trans fR
              replace hcr := hcr.belowB b5 (by omega)
              replace hg := only_below hg (b5.mono (by omega))
              replace hsz := Nat.le_trans hsz b5.size
              have hne5 := own_ne_type o5 hH (by decide)
              clear b5 g5
              refine hK.out _ _ trivial (fun hHeld => ?_)
              clear hHeld hK K
              try simp only [Act.put, List.setIfInBounds_toArray, List.set_cons_zero, List.set_cons_succ]
              refine takeD (i := 11) (d := some 23) (v := ?_) _ rfl rfl (by kernel_rfl) (by kernel_rfl) (by kernel_rfl) (fun _ _ _ h => h) (Or.inl ⟨by rfl, ?_⟩) trivial ?_
              rotate_left
              · (intro W hSw; clear hSw; go_simp; try with_reducible rfl)
              try simp only [Act.put, List.setIfInBounds_toArray, List.set_cons_zero, List.set_cons_succ]
              refine wpAnyH_ready (rs := [12]) (by kernel_rfl) (by simp) ?_
              refine AllReadyH.cons rfl (fun K hK => ?_) AllReadyH.nil
              go_simp
              refine hK.out _ _ trivial (fun hHeld => ?_)
              clear hHeld hK K
              try simp only [Act.put, List.setIfInBounds_toArray, List.set_cons_zero, List.set_cons_succ]
              refine wpAnyH_done (by kernel_rfl) ?_ _
              have o6 : w5.ownsRow (w.heap.size + 1) 91 2 (.slice A1 n1 c1) n1 (fl (l ++ [(s, x)])) := by rw [fl_append]; exact o5
              have O8 := Lib.hid (own_base (base' := w.heap.size) (ownsRow_setCell_below (own_base (own_setNe o6 (a := ⟨G0, 0, none⟩) (.slice A1 n1 c1) hne5) (Nat.le_refl _)) (a := ⟨w.heap.size, 0, none⟩) (by show w.heap.size < w.heap.size + 1; omega) (.slice A1 n1 c1)) (by omega))
              have C8 := Lib.hid (cur_set (v := .slice A1 n1 c1) (b := w.heap.size) (o := 0) (cur_set (v := .slice A1 n1 c1) (b := G0) (o := 0) hcr (by omega)) (by omega))
              have G8 := Lib.hid (gro_set (v := .slice A1 n1 c1) (b := w.heap.size) (o := 0) (gro_set (v := .slice A1 n1 c1) (b := G0) (o := 0) hg (by omega)) (Nat.le_refl _))
              have hok8 : Hid (okF (l ++ [(s, x)])) := Lib.hid (okF_snoc okl (anyTexts_ok s hs) ((by decide : ∀ y ∈ [0, -1, 1000000000, (1000000001 : Int)], -9223372036854775808 ≤ y ∧ y ≤ 9223372036854775807) x hx))
              have dR8 : (w5.setCell ⟨G0, 0, none⟩ (.slice A1 n1 c1)).cell? ⟨w.heap.size, 0, none⟩ = some (.slice none 0 0) := by
                rw [World.cell?_setCell_far _ ⟨G0, 0, none⟩ ⟨w.heap.size, 0, none⟩ _ (by show G0 ≠ w.heap.size; omega)]
                exact dR
              have fR8 : (w5.setCell ⟨G0, 0, none⟩ (.slice A1 n1 c1)).frozen? ⟨w.heap.size, 0, none⟩ = false := by simp [fR]
              have dG8 : (w5.setCell ⟨G0, 0, none⟩ (.slice A1 n1 c1)).cell? ⟨G0, 0, none⟩ = some (.slice A1 n1 c1) := by simp [go_sem, dG]
              clear ho o5 o6 hcr hg
              go_wp2
              exact bodyPost_ret (v := .agg #[.slice A1 n1 c1]) (by simp [results, Try.results118, go_sem, dR8]) rfl ⟨A1, n1, c1, _, rfl, O8.out, ⟨hok8.out, by omega⟩, C8.out, G8.out⟩
            · go_simp
              obtain ⟨U9, hU⟩ : ∃ U, U = W7.alloc (.cells #[.string s, .int .i64 x] 91) := ⟨_, rfl⟩
              have b : Below W7.heap.size W7 U9 := by rw [hU]; exact al (Below.refl _ _)
              have gq : W7.grownBy U9 (some p) := only_of_below b _
              have n9 : W7.heap.size ≠ p := by have := hcr.lt; omega
              replace ho := own_only ho gq (by omega)
              replace hcr := hcr.below b
              replace hH := (gq.block G0 (by omega) (fun e => by injection e with e; omega)).trans hH
              replace dR := gcell gq dR (by omega)
              replace fR := gfroz gq (by omega) fR (by omega)
              replace dG := gcell gq dG (by omega)
              replace fG := gfroz gq (by omega) fG (by omega)
              replace r3 := r3.grown gq (fun ad h e => by injection h with h; subst h; injection e with e; exact n3 e.symm)
              replace r6 := r6.grown gq (fun ad h e => by injection h with h; subst h; injection e with e; exact n6 e.symm)
              replace hg := only_trans hg gq
              have hs0 := gq.size
              replace hsz := Nat.le_trans hsz hs0
              clear hs0 gq b
              have r9 : Rd U9 2 (some ⟨W7.heap.size, 0, none⟩) 1 (fl [(s, x)]) := by rw [hU]; exact rd_new2 rfl
              rw [← hU]
              clear hU
              refine hK.out _ _ trivial (fun hHeld => ?_)
              clear hHeld hK K
              try simp only [Act.put, List.setIfInBounds_toArray, List.set_cons_zero, List.set_cons_succ]
              refine wpAnyH_ready (rs := [1]) (by kernel_rfl) (by simp) ?_
              refine AllReadyH.cons rfl (fun K hK => ?_) AllReadyH.nil
              go_simp
              refine hK.out _ _ trivial (fun hHeld => ?_)
              clear hHeld hK K
              try simp only [Act.put, List.setIfInBounds_toArray, List.set_cons_zero, List.set_cons_succ]
              refine wpAnyH_ready (rs := [10]) (by kernel_rfl) (by simp) ?_
              refine AllReadyH.cons rfl (fun K hK => ?_) AllReadyH.nil
              refine step_catD (by rfl) (some 22) (by rfl) (.tmp 13) (.tmp 21) 26 (by rfl) (w.heap.size + 1) 91 i0 (.agg #[.string ⟨#[]⟩, .int .i64 0]) 2 24 Try.underlying26 hi hz0 hz1 hz2 rfl (by decide) B m d _ (by rfl) (by exact ho) _ 1 _ (fl [(s, x)]) (by rfl) (by exact r9) (ones_fl _) (by unfold maxLen; omega) (by omega) (by omega) ?_
              intro A1 n1 c1 w5 hn1 o5 b5 g5
              have hn9 : n1 ≤ 9 := by omega
              clear hn1
              have hne := own_ne_type ho hH (by decide)
              replace hH := (grown_blk g5 (by omega) hne).trans hH
              replace dG := cell_apartE g5 dG hne
              replace fG := (World.frozen?_of_block (a := ⟨G0, 0, none⟩) (grown_blk g5 (by show G0 < _; omega) hne)).trans fG
              replace dR := (b5.cell (p := ⟨w.heap.size, 0, none⟩) (by show w.heap.size < w.heap.size + 1; omega)).trans dR
              replace fR := (b5.frozen (p := ⟨w.heap.size, 0, none⟩) (by show w.heap.size < w.heap.size + 1; omega)).trans fR
              replace hcr := hcr.belowB b5 (by omega)
              replace hg := only_below hg (b5.mono (by omega))
              replace hsz := Nat.le_trans hsz b5.size
              have hne5 := own_ne_type o5 hH (by decide)
              clear b5 g5
              refine hK.out _ _ trivial (fun hHeld => ?_)
              clear hHeld hK K
              try simp only [Act.put, List.setIfInBounds_toArray, List.set_cons_zero, List.set_cons_succ]
              refine takeD (i := 11) (d := some 23) (v := ?_) _ rfl rfl (by kernel_rfl) (by kernel_rfl) (by kernel_rfl) (fun _ _ _ h => h) (Or.inl ⟨by rfl, ?_⟩) trivial ?_
              rotate_left
              · (intro W hSw; clear hSw; go_simp; try with_reducible rfl)
              try simp only [Act.put, List.setIfInBounds_toArray, List.set_cons_zero, List.set_cons_succ]
              refine wpAnyH_ready (rs := [12]) (by kernel_rfl) (by simp) ?_
              refine AllReadyH.cons rfl (fun K hK => ?_) AllReadyH.nil
              go_simp
              refine hK.out _ _ trivial (fun hHeld => ?_)
              clear hHeld hK K
              try simp only [Act.put, List.setIfInBounds_toArray, List.set_cons_zero, List.set_cons_succ]
              refine wpAnyH_done (by kernel_rfl) ?_ _
              have o6 : w5.ownsRow (w.heap.size + 1) 91 2 (.slice A1 n1 c1) n1 (fl (l ++ [(s, x)])) := by rw [fl_append]; exact o5
              have O8 := Lib.hid (own_base (base' := w.heap.size) (ownsRow_setCell_below (own_base (own_setNe o6 (a := ⟨G0, 0, none⟩) (.slice A1 n1 c1) hne5) (Nat.le_refl _)) (a := ⟨w.heap.size, 0, none⟩) (by show w.heap.size < w.heap.size + 1; omega) (.slice A1 n1 c1)) (by omega))
              have C8 := Lib.hid (cur_set (v := .slice A1 n1 c1) (b := w.heap.size) (o := 0) (cur_set (v := .slice A1 n1 c1) (b := G0) (o := 0) hcr (by omega)) (by omega))
              have G8 := Lib.hid (gro_set (v := .slice A1 n1 c1) (b := w.heap.size) (o := 0) (gro_set (v := .slice A1 n1 c1) (b := G0) (o := 0) hg (by omega)) (Nat.le_refl _))
              have hok8 : Hid (okF (l ++ [(s, x)])) := Lib.hid (okF_snoc okl (anyTexts_ok s hs) ((by decide : ∀ y ∈ [0, -1, 1000000000, (1000000001 : Int)], -9223372036854775808 ≤ y ∧ y ≤ 9223372036854775807) x hx))
              have dR8 : (w5.setCell ⟨G0, 0, none⟩ (.slice A1 n1 c1)).cell? ⟨w.heap.size, 0, none⟩ = some (.slice none 0 0) := by
                rw [World.cell?_setCell_far _ ⟨G0, 0, none⟩ ⟨w.heap.size, 0, none⟩ _ (by show G0 ≠ w.heap.size; omega)]
                exact dR
              have fR8 : (w5.setCell ⟨G0, 0, none⟩ (.slice A1 n1 c1)).frozen? ⟨w.heap.size, 0, none⟩ = false := by simp [fR]
              have dG8 : (w5.setCell ⟨G0, 0, none⟩ (.slice A1 n1 c1)).cell? ⟨G0, 0, none⟩ = some (.slice A1 n1 c1) := by simp [go_sem, dG]
              clear ho o5 o6 hcr hg
              go_wp2
              exact bodyPost_ret (v := .agg #[.slice A1 n1 c1]) (by simp [results, Try.results118, go_sem, dR8]) rfl ⟨A1, n1, c1, _, rfl, O8.out, ⟨hok8.out, by omega⟩, C8.out, G8.out⟩
      · go_simp
        obtain ⟨U6, hU⟩ : ∃ U, U = U3.alloc (.cells #[.int .i64 0, .int .i64 (-1), .int .i64 1000000000, .int .i64 1000000001] 3) := ⟨_, rfl⟩
        have b : Below U3.heap.size U3 U6 := by rw [hU]; exact al (Below.refl _ _)
        have gq : U3.grownBy U6 (some p) := only_of_below b _
        have n6 : U3.heap.size ≠ p := by have := hcr.lt; omega
        replace ho := own_only ho gq (by omega)
        replace hcr := hcr.below b
        replace hH := (gq.block G0 (by omega) (fun e => by injection e with e; omega)).trans hH
        replace dR := gcell gq dR (by omega)
        replace fR := gfroz gq (by omega) fR (by omega)
        replace dG := gcell gq dG (by omega)
        replace fG := gfroz gq (by omega) fG (by omega)
        replace r3 := r3.grown gq (fun ad h e => by injection h with h; subst h; injection e with e; exact n3 e.symm)
        replace hg := only_trans hg gq
        have hs0 := gq.size
        replace hsz := Nat.le_trans hsz hs0
        clear hs0 gq b
        have r6 : Rd U6 1 (some ⟨U3.heap.size, 0, none⟩) 4 ([0, -1, 1000000000, (1000000001 : Int)].map iv) := by rw [hU]; exact rd_lit2 U3 _ _ _ rfl
        rw [← hU]
        clear hU
        refine hK.out _ _ trivial (fun hHeld => ?_)
        clear hHeld hK K
        try simp only [Act.put, List.setIfInBounds_toArray, List.set_cons_zero, List.set_cons_succ]
        refine wpAnyH_ready (rs := [1, 4]) (by kernel_rfl) (by simp) ?_
        refine AllReadyH.cons rfl (fun K hK => ?_) (AllReadyH.cons rfl (fun K hK => ?_) AllReadyH.nil)
        · go_simp
          refine hK.out _ _ trivial (fun hHeld => ?_)
          clear hHeld hK K
          try simp only [Act.put, List.setIfInBounds_toArray, List.set_cons_zero, List.set_cons_succ]
          refine wpAnyH_ready (rs := [4]) (by kernel_rfl) (by simp) ?_
          refine AllReadyH.cons rfl (fun K hK => ?_) AllReadyH.nil
          go_simp
          refine (l1Str_any p _ 5 5 anyTexts _ (by decide) (by decide) r3 (fun ad h => by injection h with h; subst h; exact n3) hcr).mono ?_; rintro e W4 ⟨s, rfl, hs, cq, gq⟩
          try go_wp2_with fail
          replace ho := own_only ho gq (by omega)
          replace hcr := cq
          replace hH := (gq.block G0 (by omega) (fun e => by injection e with e; omega)).trans hH
          replace dR := gcell gq dR (by omega)
          replace fR := gfroz gq (by omega) fR (by omega)
          replace dG := gcell gq dG (by omega)
          replace fG := gfroz gq (by omega) fG (by omega)
          replace r3 := r3.grown gq (fun ad h e => by injection h with h; subst h; injection e with e; exact n3 e.symm)
          replace r6 := r6.grown gq (fun ad h e => by injection h with h; subst h; injection e with e; exact n6 e.symm)
          replace hg := only_trans hg gq
          have hs0 := gq.size
          replace hsz := Nat.le_trans hsz hs0
          clear hs0 gq cq
          refine hK.out _ _ trivial (fun hHeld => ?_)
          clear hHeld hK K
          try simp only [Act.put, List.setIfInBounds_toArray, List.set_cons_zero, List.set_cons_succ]
          refine wpAnyH_ready (rs := [7]) (by kernel_rfl) (by simp) ?_
          refine AllReadyH.cons rfl (fun K hK => ?_) AllReadyH.nil
          go_simp
          refine (l1Int_any p _ 4 4 [0, -1, 1000000000, 1000000001] _ (by decide) (by decide) r6 (fun ad h => by injection h with h; subst h; exact n6) hcr).mono ?_; rintro e W7 ⟨x, rfl, hx, cq, gq⟩
          try go_wp2_with fail
          replace ho := own_only ho gq (by omega)
          replace hcr := cq
          replace hH := (gq.block G0 (by omega) (fun e => by injection e with e; omega)).trans hH
          replace dR := gcell gq dR (by omega)
          replace fR := gfroz gq (by omega) fR (by omega)
          replace dG := gcell gq dG (by omega)
          replace fG := gfroz gq (by omega) fG (by omega)
          replace r3 := r3.grown gq (fun ad h e => by injection h with h; subst h; injection e with e; exact n3 e.symm)
          replace r6 := r6.grown gq (fun ad h e => by injection h with h; subst h; injection e with e; exact n6 e.symm)
          replace hg := only_trans hg gq
          have hs0 := gq.size
          replace hsz := Nat.le_trans hsz hs0
          clear hs0 gq cq
          refine hK.out _ _ trivial (fun hHeld => ?_)
          clear hHeld hK K
          try simp only [Act.put, List.setIfInBounds_toArray, List.set_cons_zero, List.set_cons_succ]
          refine takeD (i := 8) (d := some 20) (v := ?_) _ rfl rfl (by kernel_rfl) (by kernel_rfl) (by kernel_rfl) (fun _ _ _ h => h) (Or.inl ⟨by rfl, ?_⟩) trivial ?_
          rotate_left
          · (intro W hSw; clear hSw; go_simp; try with_reducible rfl)
          try simp only [Act.put, List.setIfInBounds_toArray, List.set_cons_zero, List.set_cons_succ]
          refine wpAnyH_ready (rs := [9]) (by kernel_rfl) (by simp) ?_
          refine AllReadyH.cons rfl (fun K hK => ?_) AllReadyH.nil
          go_simp
          obtain ⟨U9, hU⟩ : ∃ U, U = W7.alloc (.cells #[.string s, .int .i64 x] 91) := ⟨_, rfl⟩
          have b : Below W7.heap.size W7 U9 := by rw [hU]; exact al (Below.refl _ _)
          have gq : W7.grownBy U9 (some p) := only_of_below b _
          have n9 : W7.heap.size ≠ p := by have := hcr.lt; omega
          replace ho := own_only ho gq (by omega)
          replace hcr := hcr.below b
          replace hH := (gq.block G0 (by omega) (fun e => by injection e with e; omega)).trans hH
          replace dR := gcell gq dR (by omega)
          replace fR := gfroz gq (by omega) fR (by omega)
          replace dG := gcell gq dG (by omega)
          replace fG := gfroz gq (by omega) fG (by omega)
          replace r3 := r3.grown gq (fun ad h e => by injection h with h; subst h; injection e with e; exact n3 e.symm)
          replace r6 := r6.grown gq (fun ad h e => by injection h with h; subst h; injection e with e; exact n6 e.symm)
          replace hg := only_trans hg gq
          have hs0 := gq.size
          replace hsz := Nat.le_trans hsz hs0
          clear hs0 gq b
          have r9 : Rd U9 2 (some ⟨W7.heap.size, 0, none⟩) 1 (fl [(s, x)]) := by rw [hU]; exact rd_new2 rfl
          rw [← hU]
          clear hU
          refine hK.out _ _ trivial (fun hHeld => ?_)
          clear hHeld hK K
          try simp only [Act.put, List.setIfInBounds_toArray, List.set_cons_zero, List.set_cons_succ]
          refine wpAnyH_ready (rs := [10]) (by kernel_rfl) (by simp) ?_
          refine AllReadyH.cons rfl (fun K hK => ?_) AllReadyH.nil
          refine step_catD (by rfl) (some 22) (by rfl) (.tmp 13) (.tmp 21) 26 (by rfl) (w.heap.size + 1) 91 i0 (.agg #[.string ⟨#[]⟩, .int .i64 0]) 2 24 Try.underlying26 hi hz0 hz1 hz2 rfl (by decide) B m d _ (by rfl) (by exact ho) _ 1 _ (fl [(s, x)]) (by rfl) (by exact r9) (ones_fl _) (by unfold maxLen; omega) (by omega) (by omega) ?_
          intro A1 n1 c1 w5 hn1 o5 b5 g5
          have hn9 : n1 ≤ 9 := by omega
          clear hn1
          have hne := own_ne_type ho hH (by decide)
          replace hH := (grown_blk g5 (by omega) hne).trans hH
          replace dG := cell_apartE g5 dG hne
          replace fG := (World.frozen?_of_block (a := ⟨G0, 0, none⟩) (grown_blk g5 (by show G0 < _; omega) hne)).trans fG
          replace dR := (b5.cell (p := ⟨w.heap.size, 0, none⟩) (by show w.heap.size < w.heap.size + 1; omega)).trans dR
          replace fR := (b5.frozen (p := ⟨w.heap.size, 0, none⟩) (by show w.heap.size < w.heap.size + 1; omega)).trans fR
          replace hcr := hcr.belowB b5 (by omega)
          replace hg := only_below hg (b5.mono (by omega))
          replace hsz := Nat.le_trans hsz b5.size
          have hne5 := own_ne_type o5 hH (by decide)
          clear b5 g5
          refine hK.out _ _ trivial (fun hHeld => ?_)
          clear hHeld hK K
          try simp only [Act.put, List.setIfInBounds_toArray, List.set_cons_zero, List.set_cons_succ]
          refine takeD (i := 11) (d := some 23) (v := ?_) _ rfl rfl (by kernel_rfl) (by kernel_rfl) (by kernel_rfl) (fun _ _ _ h => h) (Or.inl ⟨by rfl, ?_⟩) trivial ?_
          rotate_left
          · (intro W hSw; clear hSw; go_simp; try with_reducible rfl)
          try simp only [Act.put, List.setIfInBounds_toArray, List.set_cons_zero, List.set_cons_succ]
          refine wpAnyH_ready (rs := [12]) (by kernel_rfl) (by simp) ?_
          refine AllReadyH.cons rfl (fun K hK => ?_) AllReadyH.nil
          go_simp
          refine hK.out _ _ trivial (fun hHeld => ?_)
          clear hHeld hK K
          try simp only [Act.put, List.setIfInBounds_toArray, List.set_cons_zero, List.set_cons_succ]
          refine wpAnyH_done (by kernel_rfl) ?_ _
          have o6 : w5.ownsRow (w.heap.size + 1) 91 2 (.slice A1 n1 c1) n1 (fl (l ++ [(s, x)])) := by rw [fl_append]; exact o5
          have O8 := Lib.hid (own_base (base' := w.heap.size) (ownsRow_setCell_below (own_base (own_setNe o6 (a := ⟨G0, 0, none⟩) (.slice A1 n1 c1) hne5) (Nat.le_refl _)) (a := ⟨w.heap.size, 0, none⟩) (by show w.heap.size < w.heap.size + 1; omega) (.slice A1 n1 c1)) (by omega))
          have C8 := Lib.hid (cur_set (v := .slice A1 n1 c1) (b := w.heap.size) (o := 0) (cur_set (v := .slice A1 n1 c1) (b := G0) (o := 0) hcr (by omega)) (by omega))
          have G8 := Lib.hid (gro_set (v := .slice A1 n1 c1) (b := w.heap.size) (o := 0) (gro_set (v := .slice A1 n1 c1) (b := G0) (o := 0) hg (by omega)) (Nat.le_refl _))
          have hok8 : Hid (okF (l ++ [(s, x)])) := Lib.hid (okF_snoc okl (anyTexts_ok s hs) ((by decide : ∀ y ∈ [0, -1, 1000000000, (1000000001 : Int)], -9223372036854775808 ≤ y ∧ y ≤ 9223372036854775807) x hx))
          have dR8 : (w5.setCell ⟨G0, 0, none⟩ (.slice A1 n1 c1)).cell? ⟨w.heap.size, 0, none⟩ = some (.slice none 0 0) := by
            rw [World.cell?_setCell_far _ ⟨G0, 0, none⟩ ⟨w.heap.size, 0, none⟩ _ (by show G0 ≠ w.heap.size; omega)]
            exact dR
          have fR8 : (w5.setCell ⟨G0, 0, none⟩ (.slice A1 n1 c1)).frozen? ⟨w.heap.size, 0, none⟩ = false := by simp [fR]
          have dG8 : (w5.setCell ⟨G0, 0, none⟩ (.slice A1 n1 c1)).cell? ⟨G0, 0, none⟩ = some (.slice A1 n1 c1) := by simp [go_sem, dG]
          clear ho o5 o6 hcr hg
          go_wp2
          exact bodyPost_ret (v := .agg #[.slice A1 n1 c1]) (by simp [results, Try.results118, go_sem, dR8]) rfl ⟨A1, n1, c1, _, rfl, O8.out, ⟨hok8.out, by omega⟩, C8.out, G8.out⟩
        · go_simp
          refine (l1Str_any p _ 5 5 anyTexts _ (by decide) (by decide) r3 (fun ad h => by injection h with h; subst h; exact n3) hcr).mono ?_; rintro e W4 ⟨s, rfl, hs, cq, gq⟩
          try go_wp2_with fail
          replace ho := own_only ho gq (by omega)
          replace hcr := cq
          replace hH := (gq.block G0 (by omega) (fun e => by injection e with e; omega)).trans hH
          replace dR := gcell gq dR (by omega)
          replace fR := gfroz gq (by omega) fR (by omega)
          replace dG := gcell gq dG (by omega)
          replace fG := gfroz gq (by omega) fG (by omega)
          replace r3 := r3.grown gq (fun ad h e => by injection h with h; subst h; injection e with e; exact n3 e.symm)
          replace r6 := r6.grown gq (fun ad h e => by injection h with h; subst h; injection e with e; exact n6 e.symm)
          replace hg := only_trans hg gq
          have hs0 := gq.size
          replace hsz := Nat.le_trans hsz hs0
          clear hs0 gq cq
          refine hK.out _ _ trivial (fun hHeld => ?_)
          clear hHeld hK K
          try simp only [Act.put, List.setIfInBounds_toArray, List.set_cons_zero, List.set_cons_succ]
          refine wpAnyH_ready (rs := [1, 7]) (by kernel_rfl) (by simp) ?_
          refine AllReadyH.cons rfl (fun K hK => ?_) (AllReadyH.cons rfl (fun K hK => ?_) AllReadyH.nil)
          · go_simp
            refine hK.out _ _ trivial (fun hHeld => ?_)
            clear hHeld hK K
            try simp only [Act.put, List.setIfInBounds_toArray, List.set_cons_zero, List.set_cons_succ]
            refine wpAnyH_ready (rs := [7]) (by kernel_rfl) (by simp) ?_
            refine AllReadyH.cons rfl (fun K hK => ?_) AllReadyH.nil
            go_simp
            refine (l1Int_any p _ 4 4 [0, -1, 1000000000, 1000000001] _ (by decide) (by decide) r6 (fun ad h => by injection h with h; subst h; exact n6) hcr).mono ?_; rintro e W7 ⟨x, rfl, hx, cq, gq⟩
            try go_wp2_with fail
            replace ho := own_only ho gq (by omega)
            replace hcr := cq
            replace hH := (gq.block G0 (by omega) (fun e => by injection e with e; omega)).trans hH
            replace dR := gcell gq dR (by omega)
            replace fR := gfroz gq (by omega) fR (by omega)
            replace dG := gcell gq dG (by omega)
            replace fG := gfroz gq (by omega) fG (by omega)
            replace r3 := r3.grown gq (fun ad h e => by injection h with h; subst h; injection e with e; exact n3 e.symm)
            replace r6 := r6.grown gq (fun ad h e => by injection h with h; subst h; injection e with e; exact n6 e.symm)
            replace hg := only_trans hg gq
            have hs0 := gq.size
            replace hsz := Nat.le_trans hsz hs0
            clear hs0 gq cq
            refine hK.out _ _ trivial (fun hHeld => ?_)
            clear hHeld hK K
            try simp only [Act.put, List.setIfInBounds_toArray, List.set_cons_zero, List.set_cons_succ]
            refine takeD (i := 8) (d := some 20) (v := ?_) _ rfl rfl (by kernel_rfl) (by kernel_rfl) (by kernel_rfl) (fun _ _ _ h => h) (Or.inl ⟨by rfl, ?_⟩) trivial ?_
            rotate_left
            · (intro W hSw; clear hSw; go_simp; try with_reducible rfl)
            try simp only [Act.put, List.setIfInBounds_toArray, List.set_cons_zero, List.set_cons_succ]
            refine wpAnyH_ready (rs := [9]) (by kernel_rfl) (by simp) ?_
            refine AllReadyH.cons rfl (fun K hK => ?_) AllReadyH.nil
            go_simp
            obtain ⟨U9, hU⟩ : ∃ U, U = W7.alloc (.cells #[.string s, .int .i64 x] 91) := ⟨_, rfl⟩
            have b : Below W7.heap.size W7 U9 := by rw [hU]; exact al (Below.refl _ _)
            have gq : W7.grownBy U9 (some p) := only_of_below b _
            have n9 : W7.heap.size ≠ p := by have := hcr.lt; omega
            replace ho := own_only ho gq (by omega)
            replace hcr := hcr.below b
            replace hH := (gq.block G0 (by omega) (fun e => by injection e with e; omega)).trans hH
            replace dR := gcell gq dR (by omega)
            replace fR := gfroz gq (by omega) fR (by omega)
            replace dG := gcell gq dG (by omega)
            replace fG := gfroz gq (by omega) fG (by omega)
            replace r3 := r3.grown gq (fun ad h e => by injection h with h; subst h; injection e with e; exact n3 e.symm)
            replace r6 := r6.grown gq (fun ad h e => by injection h with h; subst h; injection e with e; exact n6 e.symm)
            replace hg := only_trans hg gq
            have hs0 := gq.size
            replace hsz := Nat.le_trans hsz hs0
            clear hs0 gq b
            have r9 : Rd U9 2 (some ⟨W7.heap.size, 0, none⟩) 1 (fl [(s, x)]) := by rw [hU]; exact rd_new2 rfl
            rw [← hU]
            clear hU
            refine hK.out _ _ trivial (fun hHeld => ?_)
            clear hHeld hK K
            try simp only [Act.put, List.setIfInBounds_toArray, List.set_cons_zero, List.set_cons_succ]
            refine wpAnyH_ready (rs := [10]) (by kernel_rfl) (by simp) ?_
            refine AllReadyH.cons rfl (fun K hK => ?_) AllReadyH.nil
            refine step_catD (by rfl) (some 22) (by rfl) (.tmp 13) (.tmp 21) 26 (by rfl) (w.heap.size + 1) 91 i0 (.agg #[.string ⟨#[]⟩, .int .i64 0]) 2 24 Try.underlying26 hi hz0 hz1 hz2 rfl (by decide) B m d _ (by rfl) (by exact ho) _ 1 _ (fl [(s, x)]) (by rfl) (by exact r9) (ones_fl _) (by unfold maxLen; omega) (by omega) (by omega) ?_
            intro A1 n1 c1 w5 hn1 o5 b5 g5
            have hn9 : n1 ≤ 9 := by omega
            clear hn1
            have hne := own_ne_type ho hH (by decide)
            replace hH := (grown_blk g5 (by omega) hne).trans hH
            replace dG := cell_apartE g5 dG hne
            replace fG := (World.frozen?_of_block (a := ⟨G0, 0, none⟩) (grown_blk g5 (by show G0 < _; omega) hne)).trans fG
            replace dR := (b5.cell (p := ⟨w.heap.size, 0, none⟩) (by show w.heap.size < w.heap.size + 1; omega)).trans dR
            replace fR := (b5.frozen (p := ⟨w.heap.size, 0, none⟩) (by show w.heap.size < w.heap.size + 1; omega)).trans fR
            replace hcr := hcr.belowB b5 (by omega)
            replace hg := only_below hg (b5.mono (by omega))
            replace hsz := Nat.le_trans hsz b5.size
            have hne5 := own_ne_type o5 hH (by decide)
            clear b5 g5
            refine hK.out _ _ trivial (fun hHeld => ?_)
            clear hHeld hK K
            try simp only [Act.put, List.setIfInBounds_toArray, List.set_cons_zero, List.set_cons_succ]
            refine takeD (i := 11) (d := some 23) (v := ?_) _ rfl rfl (by kernel_rfl) (by kernel_rfl) (by kernel_rfl) (fun _ _ _ h => h) (Or.inl ⟨by rfl, ?_⟩) trivial ?_
            rotate_left
            · (intro W hSw; clear hSw; go_simp; try with_reducible rfl)
            try simp only [Act.put, List.setIfInBounds_toArray, List.set_cons_zero, List.set_cons_succ]
            refine wpAnyH_ready (rs := [12]) (by kernel_rfl) (by simp) ?_
            refine AllReadyH.cons rfl (fun K hK => ?_) AllReadyH.nil
            go_simp
            refine hK.out _ _ trivial (fun hHeld => ?_)
            clear hHeld hK K
            try simp only [Act.put, List.setIfInBounds_toArray, List.set_cons_zero, List.set_cons_succ]
            refine wpAnyH_done (by kernel_rfl) ?_ _
            have o6 : w5.ownsRow (w.heap.size + 1) 91 2 (.slice A1 n1 c1) n1 (fl (l ++ [(s, x)])) := by rw [fl_append]; exact o5
            have O8 := Lib.hid (own_base (base' := w.heap.size) (ownsRow_setCell_below (own_base (own_setNe o6 (a := ⟨G0, 0, none⟩) (.slice A1 n1 c1) hne5) (Nat.le_refl _)) (a := ⟨w.heap.size, 0, none⟩) (by show w.heap.size < w.heap.size + 1; omega) (.slice A1 n1 c1)) (by omega))
            have C8 := Lib.hid (cur_set (v := .slice A1 n1 c1) (b := w.heap.size) (o := 0) (cur_set (v := .slice A1 n1 c1) (b := G0) (o := 0) hcr (by omega)) (by omega))
            have G8 := Lib.hid (gro_set (v := .slice A1 n1 c1) (b := w.heap.size) (o := 0) (gro_set (v := .slice A1 n1 c1) (b := G0) (o := 0) hg (by omega)) (Nat.le_refl _))
            have hok8 : Hid (okF (l ++ [(s, x)])) := Lib.hid (okF_snoc okl (anyTexts_ok s hs) ((by decide : ∀ y ∈ [0, -1, 1000000000, (1000000001 : Int)], -9223372036854775808 ≤ y ∧ y ≤ 9223372036854775807) x hx))
            have dR8 : (w5.setCell ⟨G0, 0, none⟩ (.slice A1 n1 c1)).cell? ⟨w.heap.size, 0, none⟩ = some (.slice none 0 0) := by
              rw [World.cell?_setCell_far _ ⟨G0, 0, none⟩ ⟨w.heap.size, 0, none⟩ _ (by show G0 ≠ w.heap.size; omega)]
              exact dR
            have fR8 : (w5.setCell ⟨G0, 0, none⟩ (.slice A1 n1 c1)).frozen? ⟨w.heap.size, 0, none⟩ = false := by simp [fR]
            have dG8 : (w5.setCell ⟨G0, 0, none⟩ (.slice A1 n1 c1)).cell? ⟨G0, 0, none⟩ = some (.slice A1 n1 c1) := by simp [go_sem, dG]
            clear ho o5 o6 hcr hg
            go_wp2
            exact bodyPost_ret (v := .agg #[.slice A1 n1 c1]) (by simp [results, Try.results118, go_sem, dR8]) rfl ⟨A1, n1, c1, _, rfl, O8.out, ⟨hok8.out, by omega⟩, C8.out, G8.out⟩
          · go_simp
            refine (l1Int_any p _ 4 4 [0, -1, 1000000000, 1000000001] _ (by decide) (by decide) r6 (fun ad h => by injection h with h; subst h; exact n6) hcr).mono ?_; rintro e W7 ⟨x, rfl, hx, cq, gq⟩
            try go_wp2_with fail
            replace ho := own_only ho gq (by omega)
            replace hcr := cq
            replace hH := (gq.block G0 (by omega) (fun e => by injection e with e; omega)).trans hH
            replace dR := gcell gq dR (by omega)
            replace fR := gfroz gq (by omega) fR (by omega)
            replace dG := gcell gq dG (by omega)
            replace fG := gfroz gq (by omega) fG (by omega)
            replace r3 := r3.grown gq (fun ad h e => by injection h with h; subst h; injection e with e; exact n3 e.symm)
            replace r6 := r6.grown gq (fun ad h e => by injection h with h; subst h; injection e with e; exact n6 e.symm)
            replace hg := only_trans hg gq
            have hs0 := gq.size
            replace hsz := Nat.le_trans hsz hs0
            clear hs0 gq cq
            refine hK.out _ _ trivial (fun hHeld => ?_)
            clear hHeld hK K
            try simp only [Act.put, List.setIfInBounds_toArray, List.set_cons_zero, List.set_cons_succ]
            refine takeD (i := 8) (d := some 20) (v := ?_) _ rfl rfl (by kernel_rfl) (by kernel_rfl) (by kernel_rfl) (fun _ _ _ h => h) (Or.inl ⟨by rfl, ?_⟩) trivial ?_
            rotate_left
            · (intro W hSw; clear hSw; go_simp; try with_reducible rfl)
            try simp only [Act.put, List.setIfInBounds_toArray, List.set_cons_zero, List.set_cons_succ]
            refine wpAnyH_ready (rs := [1, 9]) (by kernel_rfl) (by simp) ?_
            refine AllReadyH.cons rfl (fun K hK => ?_) (AllReadyH.cons rfl (fun K hK => ?_) AllReadyH.nil)
            · go_simp
              refine hK.out _ _ trivial (fun hHeld => ?_)
              clear hHeld hK K
              try simp only [Act.put, List.setIfInBounds_toArray, List.set_cons_zero, List.set_cons_succ]
              refine wpAnyH_ready (rs := [9]) (by kernel_rfl) (by simp) ?_
              refine AllReadyH.cons rfl (fun K hK => ?_) AllReadyH.nil
              go_simp
              obtain ⟨U9, hU⟩ : ∃ U, U = W7.alloc (.cells #[.string s, .int .i64 x] 91) := ⟨_, rfl⟩
              have b : Below W7.heap.size W7 U9 := by rw [hU]; exact al (Below.refl _ _)
              have gq : W7.grownBy U9 (some p) := only_of_below b _
              have n9 : W7.heap.size ≠ p := by have := hcr.lt; omega
              replace ho := own_only ho gq (by omega)
              replace hcr := hcr.below b
              replace hH := (gq.block G0 (by omega) (fun e => by injection e with e; omega)).trans hH
              replace dR := gcell gq dR (by omega)
              replace fR := gfroz gq (by omega) fR (by omega)
              replace dG := gcell gq dG (by omega)
              replace fG := gfroz gq (by omega) fG (by omega)
              replace r3 := r3.grown gq (fun ad h e => by injection h with h; subst h; injection e with e; exact n3 e.symm)
              replace r6 := r6.grown gq (fun ad h e => by injection h with h; subst h; injection e with e; exact n6 e.symm)
              replace hg := only_trans hg gq
              have hs0 := gq.size
              replace hsz := Nat.le_trans hsz hs0
              clear hs0 gq b
              have r9 : Rd U9 2 (some ⟨W7.heap.size, 0, none⟩) 1 (fl [(s, x)]) := by rw [hU]; exact rd_new2 rfl
              rw [← hU]
              clear hU
              refine hK.out _ _ trivial (fun hHeld => ?_)
              clear hHeld hK K
              try simp only [Act.put, List.setIfInBounds_toArray, List.set_cons_zero, List.set_cons_succ]
              refine wpAnyH_ready (rs := [10]) (by kernel_rfl) (by simp) ?_
              refine AllReadyH.cons rfl (fun K hK => ?_) AllReadyH.nil
              refine step_catD (by rfl) (some 22) (by rfl) (.tmp 13) (.tmp 21) 26 (by rfl) (w.heap.size + 1) 91 i0 (.agg #[.string ⟨#[]⟩, .int .i64 0]) 2 24 Try.underlying26 hi hz0 hz1 hz2 rfl (by decide) B m d _ (by rfl) (by exact ho) _ 1 _ (fl [(s, x)]) (by rfl) (by exact r9) (ones_fl _) (by unfold maxLen; omega) (by omega) (by omega) ?_
              intro A1 n1 c1 w5 hn1 o5 b5 g5
              have hn9 : n1 ≤ 9 := by omega
              clear hn1
              have hne := own_ne_type ho hH (by decide)
              replace hH := (grown_blk g5 (by omega) hne).trans hH
              replace dG := cell_apartE g5 dG hne
              replace fG := (World.frozen?_of_block (a := ⟨G0, 0, none⟩) (grown_blk g5 (by show G0 < _; omega) hne)).trans fG
              replace dR := (b5.cell (p := ⟨w.heap.size, 0, none⟩) (by show w.heap.size < w.heap.size + 1; omega)).trans dR
              replace fR := (b5.frozen (p := ⟨w.heap.size, 0, none⟩) (by show w.heap.size < w.heap.size + 1; omega)).trans fR
              replace hcr := hcr.belowB b5 (by omega)
              replace hg := only_below hg (b5.mono (by omega))
              replace hsz := Nat.le_trans hsz b5.size
              have hne5 := own_ne_type o5 hH (by decide)
              clear b5 g5
              refine hK.out _ _ trivial (fun hHeld => ?_)
              clear hHeld hK K
              try simp only [Act.put, List.setIfInBounds_toArray, List.set_cons_zero, List.set_cons_succ]
              refine takeD (i := 11) (d := some 23) (v := ?_) _ rfl rfl (by kernel_rfl) (by kernel_rfl) (by kernel_rfl) (fun _ _ _ h => h) (Or.inl ⟨by rfl, ?_⟩) trivial ?_
              rotate_left
              · (intro W hSw; clear hSw; go_simp; try with_reducible rfl)
              try simp only [Act.put, List.setIfInBounds_toArray, List.set_cons_zero, List.set_cons_succ]
              refine wpAnyH_ready (rs := [12]) (by kernel_rfl) (by simp) ?_
              refine AllReadyH.cons rfl (fun K hK => ?_) AllReadyH.nil
              go_simp
              refine hK.out _ _ trivial (fun hHeld => ?_)
              clear hHeld hK K
              try simp only [Act.put, List.setIfInBounds_toArray, List.set_cons_zero, List.set_cons_succ]
              refine wpAnyH_done (by kernel_rfl) ?_ _
              have o6 : w5.ownsRow (w.heap.size + 1) 91 2 (.slice A1 n1 c1) n1 (fl (l ++ [(s, x)])) := by rw [fl_append]; exact o5
              have O8 := Lib.hid (own_base (base' := w.heap.size) (ownsRow_setCell_below (own_base (own_setNe o6 (a := ⟨G0, 0, none⟩) (.slice A1 n1 c1) hne5) (Nat.le_refl _)) (a := ⟨w.heap.size, 0, none⟩) (by show w.heap.size < w.heap.size + 1; omega) (.slice A1 n1 c1)) (by omega))
              have C8 := Lib.hid (cur_set (v := .slice A1 n1 c1) (b := w.heap.size) (o := 0) (cur_set (v := .slice A1 n1 c1) (b := G0) (o := 0) hcr (by omega)) (by omega))
              have G8 := Lib.hid (gro_set (v := .slice A1 n1 c1) (b := w.heap.size) (o := 0) (gro_set (v := .slice A1 n1 c1) (b := G0) (o := 0) hg (by omega)) (Nat.le_refl _))
              have hok8 : Hid (okF (l ++ [(s, x)])) := Lib.hid (okF_snoc okl (anyTexts_ok s hs) ((by decide : ∀ y ∈ [0, -1, 1000000000, (1000000001 : Int)], -9223372036854775808 ≤ y ∧ y ≤ 9223372036854775807) x hx))
              have dR8 : (w5.setCell ⟨G0, 0, none⟩ (.slice A1 n1 c1)).cell? ⟨w.heap.size, 0, none⟩ = some (.slice none 0 0) := by
                rw [World.cell?_setCell_far _ ⟨G0, 0, none⟩ ⟨w.heap.size, 0, none⟩ _ (by show G0 ≠ w.heap.size; omega)]
                exact dR
              have fR8 : (w5.setCell ⟨G0, 0, none⟩ (.slice A1 n1 c1)).frozen? ⟨w.heap.size, 0, none⟩ = false := by simp [fR]
              have dG8 : (w5.setCell ⟨G0, 0, none⟩ (.slice A1 n1 c1)).cell? ⟨G0, 0, none⟩ = some (.slice A1 n1 c1) := by simp [go_sem, dG]
              clear ho o5 o6 hcr hg
              go_wp2
              exact bodyPost_ret (v := .agg #[.slice A1 n1 c1]) (by simp [results, Try.results118, go_sem, dR8]) rfl ⟨A1, n1, c1, _, rfl, O8.out, ⟨hok8.out, by omega⟩, C8.out, G8.out⟩
            · go_simp
              obtain ⟨U9, hU⟩ : ∃ U, U = W7.alloc (.cells #[.string s, .int .i64 x] 91) := ⟨_, rfl⟩
              have b : Below W7.heap.size W7 U9 := by rw [hU]; exact al (Below.refl _ _)
              have gq : W7.grownBy U9 (some p) := only_of_below b _
              have n9 : W7.heap.size ≠ p := by have := hcr.lt; omega
              replace ho := own_only ho gq (by omega)
              replace hcr := hcr.below b
              replace hH := (gq.block G0 (by omega) (fun e => by injection e with e; omega)).trans hH
              replace dR := gcell gq dR (by omega)
              replace fR := gfroz gq (by omega) fR (by omega)
              replace dG := gcell gq dG (by omega)
              replace fG := gfroz gq (by omega) fG (by omega)
              replace r3 := r3.grown gq (fun ad h e => by injection h with h; subst h; injection e with e; exact n3 e.symm)
              replace r6 := r6.grown gq (fun ad h e => by injection h with h; subst h; injection e with e; exact n6 e.symm)
              replace hg := only_trans hg gq
              have hs0 := gq.size
              replace hsz := Nat.le_trans hsz hs0
              clear hs0 gq b
              have r9 : Rd U9 2 (some ⟨W7.heap.size, 0, none⟩) 1 (fl [(s, x)]) := by rw [hU]; exact rd_new2 rfl
              rw [← hU]
              clear hU
              refine hK.out _ _ trivial (fun hHeld => ?_)
              clear hHeld hK K
              try simp only [Act.put, List.setIfInBounds_toArray, List.set_cons_zero, List.set_cons_succ]
              refine wpAnyH_ready (rs := [1]) (by kernel_rfl) (by simp) ?_
              refine AllReadyH.cons rfl (fun K hK => ?_) AllReadyH.nil
              go_simp
              refine hK.out _ _ trivial (fun hHeld => ?_)
              clear hHeld hK K
              try simp only [Act.put, List.setIfInBounds_toArray, List.set_cons_zero, List.set_cons_succ]
              refine wpAnyH_ready (rs := [10]) (by kernel_rfl) (by simp) ?_
              refine AllReadyH.cons rfl (fun K hK => ?_) AllReadyH.nil
              refine step_catD (by rfl) (some 22) (by rfl) (.tmp 13) (.tmp 21) 26 (by rfl) (w.heap.size + 1) 91 i0 (.agg #[.string ⟨#[]⟩, .int .i64 0]) 2 24 Try.underlying26 hi hz0 hz1 hz2 rfl (by decide) B m d _ (by rfl) (by exact ho) _ 1 _ (fl [(s, x)]) (by rfl) (by exact r9) (ones_fl _) (by unfold maxLen; omega) (by omega) (by omega) ?_
              intro A1 n1 c1 w5 hn1 o5 b5 g5
              have hn9 : n1 ≤ 9 := by omega
              clear hn1
              have hne := own_ne_type ho hH (by decide)
              replace hH := (grown_blk g5 (by omega) hne).trans hH
              replace dG := cell_apartE g5 dG hne
              replace fG := (World.frozen?_of_block (a := ⟨G0, 0, none⟩) (grown_blk g5 (by show G0 < _; omega) hne)).trans fG
              replace dR := (b5.cell (p := ⟨w.heap.size, 0, none⟩) (by show w.heap.size < w.heap.size + 1; omega)).trans dR
              replace fR := (b5.frozen (p := ⟨w.heap.size, 0, none⟩) (by show w.heap.size < w.heap.size + 1; omega)).trans fR
              replace hcr := hcr.belowB b5 (by omega)
              replace hg := only_below hg (b5.mono (by omega))
              replace hsz := Nat.le_trans hsz b5.size
              have hne5 := own_ne_type o5 hH (by decide)
              clear b5 g5
              refine hK.out _ _ trivial (fun hHeld => ?_)
              clear hHeld hK K
              try simp only [Act.put, List.setIfInBounds_toArray, List.set_cons_zero, List.set_cons_succ]
              refine takeD (i := 11) (d := some 23) (v := ?_) _ rfl rfl (by kernel_rfl) (by kernel_rfl) (by kernel_rfl) (fun _ _ _ h => h) (Or.inl ⟨by rfl, ?_⟩) trivial ?_
              rotate_left
              · (intro W hSw; clear hSw; go_simp; try with_reducible rfl)
              try simp only [Act.put, List.setIfInBounds_toArray, List.set_cons_zero, List.set_cons_succ]
              refine wpAnyH_ready (rs := [12]) (by kernel_rfl) (by simp) ?_
              refine AllReadyH.cons rfl (fun K hK => ?_) AllReadyH.nil
              go_simp
              refine hK.out _ _ trivial (fun hHeld => ?_)
              clear hHeld hK K
              try simp only [Act.put, List.setIfInBounds_toArray, List.set_cons_zero, List.set_cons_succ]
              refine wpAnyH_done (by kernel_rfl) ?_ _
              have o6 : w5.ownsRow (w.heap.size + 1) 91 2 (.slice A1 n1 c1) n1 (fl (l ++ [(s, x)])) := by rw [fl_append]; exact o5
              have O8 := Lib.hid (own_base (base' := w.heap.size) (ownsRow_setCell_below (own_base (own_setNe o6 (a := ⟨G0, 0, none⟩) (.slice A1 n1 c1) hne5) (Nat.le_refl _)) (a := ⟨w.heap.size, 0, none⟩) (by show w.heap.size < w.heap.size + 1; omega) (.slice A1 n1 c1)) (by omega))
              have C8 := Lib.hid (cur_set (v := .slice A1 n1 c1) (b := w.heap.size) (o := 0) (cur_set (v := .slice A1 n1 c1) (b := G0) (o := 0) hcr (by omega)) (by omega))
              have G8 := Lib.hid (gro_set (v := .slice A1 n1 c1) (b := w.heap.size) (o := 0) (gro_set (v := .slice A1 n1 c1) (b := G0) (o := 0) hg (by omega)) (Nat.le_refl _))
              have hok8 : Hid (okF (l ++ [(s, x)])) := Lib.hid (okF_snoc okl (anyTexts_ok s hs) ((by decide : ∀ y ∈ [0, -1, 1000000000, (1000000001 : Int)], -9223372036854775808 ≤ y ∧ y ≤ 9223372036854775807) x hx))
              have dR8 : (w5.setCell ⟨G0, 0, none⟩ (.slice A1 n1 c1)).cell? ⟨w.heap.size, 0, none⟩ = some (.slice none 0 0) := by
                rw [World.cell?_setCell_far _ ⟨G0, 0, none⟩ ⟨w.heap.size, 0, none⟩ _ (by show G0 ≠ w.heap.size; omega)]
                exact dR
              have fR8 : (w5.setCell ⟨G0, 0, none⟩ (.slice A1 n1 c1)).frozen? ⟨w.heap.size, 0, none⟩ = false := by simp [fR]
              have dG8 : (w5.setCell ⟨G0, 0, none⟩ (.slice A1 n1 c1)).cell? ⟨G0, 0, none⟩ = some (.slice A1 n1 c1) := by simp [go_sem, dG]
              clear ho o5 o6 hcr hg
              go_wp2
              exact bodyPost_ret (v := .agg #[.slice A1 n1 c1]) (by simp [results, Try.results118, go_sem, dR8]) rfl ⟨A1, n1, c1, _, rfl, O8.out, ⟨hok8.out, by omega⟩, C8.out, G8.out⟩
    · go_simp
      obtain ⟨U6, hU⟩ : ∃ U, U = wd.alloc (.cells #[.int .i64 0, .int .i64 (-1), .int .i64 1000000000, .int .i64 1000000001] 3) := ⟨_, rfl⟩
      have b : Below wd.heap.size wd U6 := by rw [hU]; exact al (Below.refl _ _)
      have gq : wd.grownBy U6 (some p) := only_of_below b _
      have n6 : wd.heap.size ≠ p := by have := hcr.lt; omega
      replace ho := own_only ho gq (by omega)
      replace hcr := hcr.below b
      replace hH := (gq.block G0 (by omega) (fun e => by injection e with e; omega)).trans hH
      replace dR := gcell gq dR (by omega)
      replace fR := gfroz gq (by omega) fR (by omega)
      replace dG := gcell gq dG (by omega)
      replace fG := gfroz gq (by omega) fG (by omega)
      replace hg := only_trans hg gq
      have hs0 := gq.size
      replace hsz := Nat.le_trans hsz hs0
      clear hs0 gq b
      have r6 : Rd U6 1 (some ⟨wd.heap.size, 0, none⟩) 4 ([0, -1, 1000000000, (1000000001 : Int)].map iv) := by rw [hU]; exact rd_lit2 wd _ _ _ rfl
      rw [← hU]
      clear hU
      refine hK.out _ _ trivial (fun hHeld => ?_)
      clear hHeld hK K
      try simp only [Act.put, List.setIfInBounds_toArray, List.set_cons_zero, List.set_cons_succ]
      refine wpAnyH_ready (rs := [1, 3]) (by kernel_rfl) (by simp) ?_
      refine AllReadyH.cons rfl (fun K hK => ?_) (AllReadyH.cons rfl (fun K hK => ?_) AllReadyH.nil)
      · go_simp
        refine hK.out _ _ trivial (fun hHeld => ?_)
        clear hHeld hK K
        try simp only [Act.put, List.setIfInBounds_toArray, List.set_cons_zero, List.set_cons_succ]
        refine wpAnyH_ready (rs := [3]) (by kernel_rfl) (by simp) ?_
        refine AllReadyH.cons rfl (fun K hK => ?_) AllReadyH.nil
        go_simp
        obtain ⟨U3, hU⟩ : ∃ U, U = U6.alloc (.cells #[.string ⟨#[]⟩, .string ⟨#[65]⟩, .string ⟨#[122, 122, 122, 122, 122, 122, 122, 122, 122]⟩, .string ⟨#[122]⟩, .string ⟨#[97]⟩] 9) := ⟨_, rfl⟩
        have b : Below U6.heap.size U6 U3 := by rw [hU]; exact al (Below.refl _ _)
        have gq : U6.grownBy U3 (some p) := only_of_below b _
        have n3 : U6.heap.size ≠ p := by have := hcr.lt; omega
        replace ho := own_only ho gq (by omega)
        replace hcr := hcr.below b
        replace hH := (gq.block G0 (by omega) (fun e => by injection e with e; omega)).trans hH
        replace dR := gcell gq dR (by omega)
        replace fR := gfroz gq (by omega) fR (by omega)
        replace dG := gcell gq dG (by omega)
        replace fG := gfroz gq (by omega) fG (by omega)
        replace r6 := r6.grown gq (fun ad h e => by injection h with h; subst h; injection e with e; exact n6 e.symm)
        replace hg := only_trans hg gq
        have hs0 := gq.size
        replace hsz := Nat.le_trans hsz hs0
        clear hs0 gq b
        have r3 : Rd U3 1 (some ⟨U6.heap.size, 0, none⟩) 5 (anyTexts.map Value.string) := by rw [hU]; exact rd_lit2 U6 _ _ _ rfl
        rw [← hU]
        clear hU
        refine hK.out _ _ trivial (fun hHeld => ?_)
        clear hHeld hK K
        try simp only [Act.put, List.setIfInBounds_toArray, List.set_cons_zero, List.set_cons_succ]
        refine wpAnyH_ready (rs := [4]) (by kernel_rfl) (by simp) ?_
        refine AllReadyH.cons rfl (fun K hK => ?_) AllReadyH.nil
        go_simp
        refine (l1Str_any p _ 5 5 anyTexts _ (by decide) (by decide) r3 (fun ad h => by injection h with h; subst h; exact n3) hcr).mono ?_; rintro e W4 ⟨s, rfl, hs, cq, gq⟩
        try go_wp2_with fail
        replace ho := own_only ho gq (by omega)
        replace hcr := cq
        replace hH := (gq.block G0 (by omega) (fun e => by injection e with e; omega)).trans hH
        replace dR := gcell gq dR (by omega)
        replace fR := gfroz gq (by omega) fR (by omega)
        replace dG := gcell gq dG (by omega)
        replace fG := gfroz gq (by omega) fG (by omega)
        replace r6 := r6.grown gq (fun ad h e => by injection h with h; subst h; injection e with e; exact n6 e.symm)
        replace r3 := r3.grown gq (fun ad h e => by injection h with h; subst h; injection e with e; exact n3 e.symm)
        replace hg := only_trans hg gq
        have hs0 := gq.size
        replace hsz := Nat.le_trans hsz hs0
        clear hs0 gq cq
        refine hK.out _ _ trivial (fun hHeld => ?_)
        clear hHeld hK K
        try simp only [Act.put, List.setIfInBounds_toArray, List.set_cons_zero, List.set_cons_succ]
        refine wpAnyH_ready (rs := [7]) (by kernel_rfl) (by simp) ?_
        refine AllReadyH.cons rfl (fun K hK => ?_) AllReadyH.nil
        go_simp
        refine (l1Int_any p _ 4 4 [0, -1, 1000000000, 1000000001] _ (by decide) (by decide) r6 (fun ad h => by injection h with h; subst h; exact n6) hcr).mono ?_; rintro e W7 ⟨x, rfl, hx, cq, gq⟩
        try go_wp2_with fail
        replace ho := own_only ho gq (by omega)
        replace hcr := cq
        replace hH := (gq.block G0 (by omega) (fun e => by injection e with e; omega)).trans hH
        replace dR := gcell gq dR (by omega)
        replace fR := gfroz gq (by omega) fR (by omega)
        replace dG := gcell gq dG (by omega)
        replace fG := gfroz gq (by omega) fG (by omega)
        replace r6 := r6.grown gq (fun ad h e => by injection h with h; subst h; injection e with e; exact n6 e.symm)
        replace r3 := r3.grown gq (fun ad h e => by injection h with h; subst h; injection e with e; exact n3 e.symm)
        replace hg := only_trans hg gq
        have hs0 := gq.size
        replace hsz := Nat.le_trans hsz hs0
        clear hs0 gq cq
        refine hK.out _ _ trivial (fun hHeld => ?_)
        clear hHeld hK K
        try simp only [Act.put, List.setIfInBounds_toArray, List.set_cons_zero, List.set_cons_succ]
        refine takeD (i := 8) (d := some 20) (v := ?_) _ rfl rfl (by kernel_rfl) (by kernel_rfl) (by kernel_rfl) (fun _ _ _ h => h) (Or.inl ⟨by rfl, ?_⟩) trivial ?_
        rotate_left
        · (intro W hSw; clear hSw; go_simp; try with_reducible rfl)
        try simp only [Act.put, List.setIfInBounds_toArray, List.set_cons_zero, List.set_cons_succ]
        refine wpAnyH_ready (rs := [9]) (by kernel_rfl) (by simp) ?_
        refine AllReadyH.cons rfl (fun K hK => ?_) AllReadyH.nil
        go_simp
        obtain ⟨U9, hU⟩ : ∃ U, U = W7.alloc (.cells #[.string s, .int .i64 x] 91) := ⟨_, rfl⟩
        have b : Below W7.heap.size W7 U9 := by rw [hU]; exact al (Below.refl _ _)
        have gq : W7.grownBy U9 (some p) := only_of_below b _
        have n9 : W7.heap.size ≠ p := by have := hcr.lt; omega
        replace ho := own_only ho gq (by omega)
        replace hcr := hcr.below b
        replace hH := (gq.block G0 (by omega) (fun e => by injection e with e; omega)).trans hH
        replace dR := gcell gq dR (by omega)
        replace fR := gfroz gq (by omega) fR (by omega)
        replace dG := gcell gq dG (by omega)
        replace fG := gfroz gq (by omega) fG (by omega)
        replace r6 := r6.grown gq (fun ad h e => by injection h with h; subst h; injection e with e; exact n6 e.symm)
        replace r3 := r3.grown gq (fun ad h e => by injection h with h; subst h; injection e with e; exact n3 e.symm)
        replace hg := only_trans hg gq
        have hs0 := gq.size
        replace hsz := Nat.le_trans hsz hs0
        clear hs0 gq b
        have r9 : Rd U9 2 (some ⟨W7.heap.size, 0, none⟩) 1 (fl [(s, x)]) := by rw [hU]; exact rd_new2 rfl
        rw [← hU]
        clear hU
        refine hK.out _ _ trivial (fun hHeld => ?_)
        clear hHeld hK K
        try simp only [Act.put, List.setIfInBounds_toArray, List.set_cons_zero, List.set_cons_succ]
        refine wpAnyH_ready (rs := [10]) (by kernel_rfl) (by simp) ?_
        refine AllReadyH.cons rfl (fun K hK => ?_) AllReadyH.nil
        refine step_catD (by rfl) (some 22) (by rfl) (.tmp 13) (.tmp 21) 26 (by rfl) (w.heap.size + 1) 91 i0 (.agg #[.string ⟨#[]⟩, .int .i64 0]) 2 24 Try.underlying26 hi hz0 hz1 hz2 rfl (by decide) B m d _ (by rfl) (by exact ho) _ 1 _ (fl [(s, x)]) (by rfl) (by exact r9) (ones_fl _) (by unfold maxLen; omega) (by omega) (by omega) ?_
        intro A1 n1 c1 w5 hn1 o5 b5 g5
        have hn9 : n1 ≤ 9 := by omega
        clear hn1
        have hne := own_ne_type ho hH (by decide)
        replace hH := (grown_blk g5 (by omega) hne).trans hH
        replace dG := cell_apartE g5 dG hne
        replace fG := (World.frozen?_of_block (a := ⟨G0, 0, none⟩) (grown_blk g5 (by show G0 < _; omega) hne)).trans fG
        replace dR := (b5.cell (p := ⟨w.heap.size, 0, none⟩) (by show w.heap.size < w.heap.size + 1; omega)).trans dR
        replace fR := (b5.frozen (p := ⟨w.heap.size, 0, none⟩) (by show w.heap.size < w.heap.size + 1; omega)).trans fR
        replace hcr := hcr.belowB b5 (by omega)
        replace hg := only_below hg (b5.mono (by omega))
        replace hsz := Nat.le_trans hsz b5.size
        have hne5 := own_ne_type o5 hH (by decide)
        clear b5 g5
        refine hK.out _ _ trivial (fun hHeld => ?_)
        clear hHeld hK K
        try simp only [Act.put, List.setIfInBounds_toArray, List.set_cons_zero, List.set_cons_succ]
        refine takeD (i := 11) (d := some 23) (v := ?_) _ rfl rfl (by kernel_rfl) (by kernel_rfl) (by kernel_rfl) (fun _ _ _ h => h) (Or.inl ⟨by rfl, ?_⟩) trivial ?_
        rotate_left
        · (intro W hSw; clear hSw; go_simp; try with_reducible rfl)
        try simp only [Act.put, List.setIfInBounds_toArray, List.set_cons_zero, List.set_cons_succ]
        refine wpAnyH_ready (rs := [12]) (by kernel_rfl) (by simp) ?_
        refine AllReadyH.cons rfl (fun K hK => ?_) AllReadyH.nil
        go_simp
        refine hK.out _ _ trivial (fun hHeld => ?_)
        clear hHeld hK K
        try simp only [Act.put, List.setIfInBounds_toArray, List.set_cons_zero, List.set_cons_succ]
        refine wpAnyH_done (by kernel_rfl) ?_ _
        have o6 : w5.ownsRow (w.heap.size + 1) 91 2 (.slice A1 n1 c1) n1 (fl (l ++ [(s, x)])) := by rw [fl_append]; exact o5
        have O8 := Lib.hid (own_base (base' := w.heap.size) (ownsRow_setCell_below (own_base (own_setNe o6 (a := ⟨G0, 0, none⟩) (.slice A1 n1 c1) hne5) (Nat.le_refl _)) (a := ⟨w.heap.size, 0, none⟩) (by show w.heap.size < w.heap.size + 1; omega) (.slice A1 n1 c1)) (by omega))
        have C8 := Lib.hid (cur_set (v := .slice A1 n1 c1) (b := w.heap.size) (o := 0) (cur_set (v := .slice A1 n1 c1) (b := G0) (o := 0) hcr (by omega)) (by omega))
        have G8 := Lib.hid (gro_set (v := .slice A1 n1 c1) (b := w.heap.size) (o := 0) (gro_set (v := .slice A1 n1 c1) (b := G0) (o := 0) hg (by omega)) (Nat.le_refl _))
        have hok8 : Hid (okF (l ++ [(s, x)])) := Lib.hid (okF_snoc okl (anyTexts_ok s hs) ((by decide : ∀ y ∈ [0, -1, 1000000000, (1000000001 : Int)], -9223372036854775808 ≤ y ∧ y ≤ 9223372036854775807) x hx))
        have dR8 : (w5.setCell ⟨G0, 0, none⟩ (.slice A1 n1 c1)).cell? ⟨w.heap.size, 0, none⟩ = some (.slice none 0 0) := by
          rw [World.cell?_setCell_far _ ⟨G0, 0, none⟩ ⟨w.heap.size, 0, none⟩ _ (by show G0 ≠ w.heap.size; omega)]
          exact dR
        have fR8 : (w5.setCell ⟨G0, 0, none⟩ (.slice A1 n1 c1)).frozen? ⟨w.heap.size, 0, none⟩ = false := by simp [fR]
        have dG8 : (w5.setCell ⟨G0, 0, none⟩ (.slice A1 n1 c1)).cell? ⟨G0, 0, none⟩ = some (.slice A1 n1 c1) := by simp [go_sem, dG]
        clear ho o5 o6 hcr hg
        go_wp2
        exact bodyPost_ret (v := .agg #[.slice A1 n1 c1]) (by simp [results, Try.results118, go_sem, dR8]) rfl ⟨A1, n1, c1, _, rfl, O8.out, ⟨hok8.out, by omega⟩, C8.out, G8.out⟩
      · go_simp
        obtain ⟨U3, hU⟩ : ∃ U, U = U6.alloc (.cells #[.string ⟨#[]⟩, .string ⟨#[65]⟩, .string ⟨#[122, 122, 122, 122, 122, 122, 122, 122, 122]⟩, .string ⟨#[122]⟩, .string ⟨#[97]⟩] 9) := ⟨_, rfl⟩
        have b : Below U6.heap.size U6 U3 := by rw [hU]; exact al (Below.refl _ _)
        have gq : U6.grownBy U3 (some p) := only_of_below b _
        have n3 : U6.heap.size ≠ p := by have := hcr.lt; omega
        replace ho := own_only ho gq (by omega)
        replace hcr := hcr.below b
        replace hH := (gq.block G0 (by omega) (fun e => by injection e with e; omega)).trans hH
        replace dR := gcell gq dR (by omega)
        replace fR := gfroz gq (by omega) fR (by omega)
        replace dG := gcell gq dG (by omega)
        replace fG := gfroz gq (by omega) fG (by omega)
        replace r6 := r6.grown gq (fun ad h e => by injection h with h; subst h; injection e with e; exact n6 e.symm)
        replace hg := only_trans hg gq
        have hs0 := gq.size
        replace hsz := Nat.le_trans hsz hs0
        clear hs0 gq b
        have r3 : Rd U3 1 (some ⟨U6.heap.size, 0, none⟩) 5 (anyTexts.map Value.string) := by rw [hU]; exact rd_lit2 U6 _ _ _ rfl
        rw [← hU]
        clear hU
        refine hK.out _ _ trivial (fun hHeld => ?_)
        clear hHeld hK K
        try simp only [Act.put, List.setIfInBounds_toArray, List.set_cons_zero, List.set_cons_succ]
        refine wpAnyH_ready (rs := [1, 4]) (by kernel_rfl) (by simp) ?_
        refine AllReadyH.cons rfl (fun K hK => ?_) (AllReadyH.cons rfl (fun K hK => ?_) AllReadyH.nil)
        · go_simp
          refine hK.out _ _ trivial (fun hHeld => ?_)
          clear hHeld hK K
          try simp only [Act.put, List.setIfInBounds_toArray, List.set_cons_zero, List.set_cons_succ]
          refine wpAnyH_ready (rs := [4]) (by kernel_rfl) (by simp) ?_
          refine AllReadyH.cons rfl (fun K hK => ?_) AllReadyH.nil
          go_simp
          refine (l1Str_any p _ 5 5 anyTexts _ (by decide) (by decide) r3 (fun ad h => by injection h with h; subst h; exact n3) hcr).mono ?_; rintro e W4 ⟨s, rfl, hs, cq, gq⟩
          try go_wp2_with fail
          replace ho := own_only ho gq (by omega)
          replace hcr := cq
          replace hH := (gq.block G0 (by omega) (fun e => by injection e with e; omega)).trans hH
          replace dR := gcell gq dR (by omega)
          replace fR := gfroz gq (by omega) fR (by omega)
          replace dG := gcell gq dG (by omega)
          replace fG := gfroz gq (by omega) fG (by omega)
          replace r6 := r6.grown gq (fun ad h e => by injection h with h; subst h; injection e with e; exact n6 e.symm)
          replace r3 := r3.grown gq (fun ad h e => by injection h with h; subst h; injection e with e; exact n3 e.symm)
          replace hg := only_trans hg gq
          have hs0 := gq.size
          replace hsz := Nat.le_trans hsz hs0
          clear hs0 gq cq
          refine hK.out _ _ trivial (fun hHeld => ?_)
          clear hHeld hK K
          try simp only [Act.put, List.setIfInBounds_toArray, List.set_cons_zero, List.set_cons_succ]
          refine wpAnyH_ready (rs := [7]) (by kernel_rfl) (by simp) ?_
          refine AllReadyH.cons rfl (fun K hK => ?_) AllReadyH.nil
          go_simp
          refine (l1Int_any p _ 4 4 [0, -1, 1000000000, 1000000001] _ (by decide) (by decide) r6 (fun ad h => by injection h with h; subst h; exact n6) hcr).mono ?_; rintro e W7 ⟨x, rfl, hx, cq, gq⟩
          try go_wp2_with fail
          replace ho := own_only ho gq (by omega)
          replace hcr := cq
          replace hH := (gq.block G0 (by omega) (fun e => by injection e with e; omega)).trans hH
          replace dR := gcell gq dR (by omega)
          replace fR := gfroz gq (by omega) fR (by omega)
          replace dG := gcell gq dG (by omega)
          replace fG := gfroz gq (by omega) fG (by omega)
          replace r6 := r6.grown gq (fun ad h e => by injection h with h; subst h; injection e with e; exact n6 e.symm)
          replace r3 := r3.grown gq (fun ad h e => by injection h with h; subst h; injection e with e; exact n3 e.symm)
          replace hg := only_trans hg gq
          have hs0 := gq.size
          replace hsz := Nat.le_trans hsz hs0
          clear hs0 gq cq
          refine hK.out _ _ trivial (fun hHeld => ?_)
          clear hHeld hK K
          try simp only [Act.put, List.setIfInBounds_toArray, List.set_cons_zero, List.set_cons_succ]
          refine takeD (i := 8) (d := some 20) (v := ?_) _ rfl rfl (by kernel_rfl) (by kernel_rfl) (by kernel_rfl) (fun _ _ _ h => h) (Or.inl ⟨by rfl, ?_⟩) trivial ?_
          rotate_left
          · (intro W hSw; clear hSw; go_simp; try with_reducible rfl)
          try simp only [Act.put, List.setIfInBounds_toArray, List.set_cons_zero, List.set_cons_succ]
          refine wpAnyH_ready (rs := [9]) (by kernel_rfl) (by simp) ?_
          refine AllReadyH.cons rfl (fun K hK => ?_) AllReadyH.nil
          go_simp
          obtain ⟨U9, hU⟩ : ∃ U, U = W7.alloc (.cells #[.string s, .int .i64 x] 91) := ⟨_, rfl⟩
          have b : Below W7.heap.size W7 U9 := by rw [hU]; exact al (Below.refl _ _)
          have gq : W7.grownBy U9 (some p) := only_of_below b _
          have n9 : W7.heap.size ≠ p := by have := hcr.lt; omega
          replace ho := own_only ho gq (by omega)
          replace hcr := hcr.below b
          replace hH := (gq.block G0 (by omega) (fun e => by injection e with e; omega)).trans hH
          replace dR := gcell gq dR (by omega)
          replace fR := gfroz gq (by omega) fR (by omega)
          replace dG := gcell gq dG (by omega)
          replace fG := gfroz gq (by omega) fG (by omega)
          replace r6 := r6.grown gq (fun ad h e => by injection h with h; subst h; injection e with e; exact n6 e.symm)
          replace r3 := r3.grown gq (fun ad h e => by injection h with h; subst h; injection e with e; exact n3 e.symm)
          replace hg := only_trans hg gq
          have hs0 := gq.size
          replace hsz := Nat.le_trans hsz hs0
          clear hs0 gq b
          have r9 : Rd U9 2 (some ⟨W7.heap.size, 0, none⟩) 1 (fl [(s, x)]) := by rw [hU]; exact rd_new2 rfl
          rw [← hU]
          clear hU
          refine hK.out _ _ trivial (fun hHeld => ?_)
          clear hHeld hK K
          try simp only [Act.put, List.setIfInBounds_toArray, List.set_cons_zero, List.set_cons_succ]
          refine wpAnyH_ready (rs := [10]) (by kernel_rfl) (by simp) ?_
          refine AllReadyH.cons rfl (fun K hK => ?_) AllReadyH.nil
          refine step_catD (by rfl) (some 22) (by rfl) (.tmp 13) (.tmp 21) 26 (by rfl) (w.heap.size + 1) 91 i0 (.agg #[.string ⟨#[]⟩, .int .i64 0]) 2 24 Try.underlying26 hi hz0 hz1 hz2 rfl (by decide) B m d _ (by rfl) (by exact ho) _ 1 _ (fl [(s, x)]) (by rfl) (by exact r9) (ones_fl _) (by unfold maxLen; omega) (by omega) (by omega) ?_
          intro A1 n1 c1 w5 hn1 o5 b5 g5
          have hn9 : n1 ≤ 9 := by omega
          clear hn1
          have hne := own_ne_type ho hH (by decide)
          replace hH := (grown_blk g5 (by omega) hne).trans hH
          replace dG := cell_apartE g5 dG hne
          replace fG := (World.frozen?_of_block (a := ⟨G0, 0, none⟩) (grown_blk g5 (by show G0 < _; omega) hne)).trans fG
          replace dR := (b5.cell (p := ⟨w.heap.size, 0, none⟩) (by show w.heap.size < w.heap.size + 1; omega)).trans dR
          replace fR := (b5.frozen (p := ⟨w.heap.size, 0, none⟩) (by show w.heap.size < w.heap.size + 1; omega)).trans fR
          replace hcr := hcr.belowB b5 (by omega)
          replace hg := only_below hg (b5.mono (by omega))
          replace hsz := Nat.le_trans hsz b5.size
          have hne5 := own_ne_type o5 hH (by decide)
          clear b5 g5
          refine hK.out _ _ trivial (fun hHeld => ?_)
          clear hHeld hK K
          try simp only [Act.put, List.setIfInBounds_toArray, List.set_cons_zero, List.set_cons_succ]
          refine takeD (i := 11) (d := some 23) (v := ?_) _ rfl rfl (by kernel_rfl) (by kernel_rfl) (by kernel_rfl) (fun _ _ _ h => h) (Or.inl ⟨by rfl, ?_⟩) trivial ?_
          rotate_left
          · (intro W hSw; clear hSw; go_simp; try with_reducible rfl)
          try simp only [Act.put, List.setIfInBounds_toArray, List.set_cons_zero, List.set_cons_succ]
          refine wpAnyH_ready (rs := [12]) (by kernel_rfl) (by simp) ?_
          refine AllReadyH.cons rfl (fun K hK => ?_) AllReadyH.nil
          go_simp
          refine hK.out _ _ trivial (fun hHeld => ?_)
          clear hHeld hK K
          try simp only [Act.put, List.setIfInBounds_toArray, List.set_cons_zero, List.set_cons_succ]
          refine wpAnyH_done (by kernel_rfl) ?_ _
          have o6 : w5.ownsRow (w.heap.size + 1) 91 2 (.slice A1 n1 c1) n1 (fl (l ++ [(s, x)])) := by rw [fl_append]; exact o5
          have O8 := Lib.hid (own_base (base' := w.heap.size) (ownsRow_setCell_below (own_base (own_setNe o6 (a := ⟨G0, 0, none⟩) (.slice A1 n1 c1) hne5) (Nat.le_refl _)) (a := ⟨w.heap.size, 0, none⟩) (by show w.heap.size < w.heap.size + 1; omega) (.slice A1 n1 c1)) (by omega))
          have C8 := Lib.hid (cur_set (v := .slice A1 n1 c1) (b := w.heap.size) (o := 0) (cur_set (v := .slice A1 n1 c1) (b := G0) (o := 0) hcr (by omega)) (by omega))
          have G8 := Lib.hid (gro_set (v := .slice A1 n1 c1) (b := w.heap.size) (o := 0) (gro_set (v := .slice A1 n1 c1) (b := G0) (o := 0) hg (by omega)) (Nat.le_refl _))
          have hok8 : Hid (okF (l ++ [(s, x)])) := Lib.hid (okF_snoc okl (anyTexts_ok s hs) ((by decide : ∀ y ∈ [0, -1, 1000000000, (1000000001 : Int)], -9223372036854775808 ≤ y ∧ y ≤ 9223372036854775807) x hx))
          have dR8 : (w5.setCell ⟨G0, 0, none⟩ (.slice A1 n1 c1)).cell? ⟨w.heap.size, 0, none⟩ = some (.slice none 0 0) := by
            rw [World.cell?_setCell_far _ ⟨G0, 0, none⟩ ⟨w.heap.size, 0, none⟩ _ (by show G0 ≠ w.heap.size; omega)]
            exact dR
          have fR8 : (w5.setCell ⟨G0, 0, none⟩ (.slice A1 n1 c1)).frozen? ⟨w.heap.size, 0, none⟩ = false := by simp [fR]
          have dG8 : (w5.setCell ⟨G0, 0, none⟩ (.slice A1 n1 c1)).cell? ⟨G0, 0, none⟩ = some (.slice A1 n1 c1) := by simp [go_sem, dG]
          clear ho o5 o6 hcr hg
          go_wp2
          exact bodyPost_ret (v := .agg #[.slice A1 n1 c1]) (by simp [results, Try.results118, go_sem, dR8]) rfl ⟨A1, n1, c1, _, rfl, O8.out, ⟨hok8.out, by omega⟩, C8.out, G8.out⟩
        · go_simp
          refine (l1Str_any p _ 5 5 anyTexts _ (by decide) (by decide) r3 (fun ad h => by injection h with h; subst h; exact n3) hcr).mono ?_; rintro e W4 ⟨s, rfl, hs, cq, gq⟩
          try go_wp2_with fail
          replace ho := own_only ho gq (by omega)
          replace hcr := cq
          replace hH := (gq.block G0 (by omega) (fun e => by injection e with e; omega)).trans hH
          replace dR := gcell gq dR (by omega)
          replace fR := gfroz gq (by omega) fR (by omega)
          replace dG := gcell gq dG (by omega)
          replace fG := gfroz gq (by omega) fG (by omega)
          replace r6 := r6.grown gq (fun ad h e => by injection h with h; subst h; injection e with e; exact n6 e.symm)
          replace r3 := r3.grown gq (fun ad h e => by injection h with h; subst h; injection e with e; exact n3 e.symm)
          replace hg := only_trans hg gq
          have hs0 := gq.size
          replace hsz := Nat.le_trans hsz hs0
          clear hs0 gq cq
          refine hK.out _ _ trivial (fun hHeld => ?_)
          clear hHeld hK K
          try simp only [Act.put, List.setIfInBounds_toArray, List.set_cons_zero, List.set_cons_succ]
          refine wpAnyH_ready (rs := [1, 7]) (by kernel_rfl) (by simp) ?_
          refine AllReadyH.cons rfl (fun K hK => ?_) (AllReadyH.cons rfl (fun K hK => ?_) AllReadyH.nil)
          · go_simp
            refine hK.out _ _ trivial (fun hHeld => ?_)
            clear hHeld hK K
            try simp only [Act.put, List.setIfInBounds_toArray, List.set_cons_zero, List.set_cons_succ]
            refine wpAnyH_ready (rs := [7]) (by kernel_rfl) (by simp) ?_
            refine AllReadyH.cons rfl (fun K hK => ?_) AllReadyH.nil
            go_simp
            refine (l1Int_any p _ 4 4 [0, -1, 1000000000, 1000000001] _ (by decide) (by decide) r6 (fun ad h => by injection h with h; subst h; exact n6) hcr).mono ?_; rintro e W7 ⟨x, rfl, hx, cq, gq⟩
            try go_wp2_with fail
            replace ho := own_only ho gq (by omega)
            replace hcr := cq
            replace hH := (gq.block G0 (by omega) (fun e => by injection e with e; omega)).trans hH
            replace dR := gcell gq dR (by omega)
            replace fR := gfroz gq (by omega) fR (by omega)
            replace dG := gcell gq dG (by omega)
            replace fG := gfroz gq (by omega) fG (by omega)
            replace r6 := r6.grown gq (fun ad h e => by injection h with h; subst h; injection e with e; exact n6 e.symm)
            replace r3 := r3.grown gq (fun ad h e => by injection h with h; subst h; injection e with e; exact n3 e.symm)
            replace hg := only_trans hg gq
            have hs0 := gq.size
            replace hsz := Nat.le_trans hsz hs0
            clear hs0 gq cq
            refine hK.out _ _ trivial (fun hHeld => ?_)
            clear hHeld hK K
            try simp only [Act.put, List.setIfInBounds_toArray, List.set_cons_zero, List.set_cons_succ]
            refine takeD (i := 8) (d := some 20) (v := ?_) _ rfl rfl (by kernel_rfl) (by kernel_rfl) (by kernel_rfl) (fun _ _ _ h => h) (Or.inl ⟨by rfl, ?_⟩) trivial ?_
            rotate_left
            · (intro W hSw; clear hSw; go_simp; try with_reducible rfl)
            try simp only [Act.put, List.setIfInBounds_toArray, List.set_cons_zero, List.set_cons_succ]
            refine wpAnyH_ready (rs := [9]) (by kernel_rfl) (by simp) ?_
            refine AllReadyH.cons rfl (fun K hK => ?_) AllReadyH.nil
            go_simp
            obtain ⟨U9, hU⟩ : ∃ U, U = W7.alloc (.cells #[.string s, .int .i64 x] 91) := ⟨_, rfl⟩
            have b : Below W7.heap.size W7 U9 := by rw [hU]; exact al (Below.refl _ _)
            have gq : W7.grownBy U9 (some p) := only_of_below b _
            have n9 : W7.heap.size ≠ p := by have := hcr.lt; omega
            replace ho := own_only ho gq (by omega)
            replace hcr := hcr.below b
            replace hH := (gq.block G0 (by omega) (fun e => by injection e with e; omega)).trans hH
            replace dR := gcell gq dR (by omega)
            replace fR := gfroz gq (by omega) fR (by omega)
            replace dG := gcell gq dG (by omega)
            replace fG := gfroz gq (by omega) fG (by omega)
            replace r6 := r6.grown gq (fun ad h e => by injection h with h; subst h; injection e with e; exact n6 e.symm)
            replace r3 := r3.grown gq (fun ad h e => by injection h with h; subst h; injection e with e; exact n3 e.symm)
            replace hg := only_trans hg gq
            have hs0 := gq.size
            replace hsz := Nat.le_trans hsz hs0
            clear hs0 gq b
            have r9 : Rd U9 2 (some ⟨W7.heap.size, 0, none⟩) 1 (fl [(s, x)]) := by rw [hU]; exact rd_new2 rfl
            rw [← hU]
            clear hU
            refine hK.out _ _ trivial (fun hHeld => ?_)
            clear hHeld hK K
            try simp only [Act.put, List.setIfInBounds_toArray, List.set_cons_zero, List.set_cons_succ]
            refine wpAnyH_ready (rs := [10]) (by kernel_rfl) (by simp) ?_
            refine AllReadyH.cons rfl (fun K hK => ?_) AllReadyH.nil
            refine step_catD (by rfl) (some 22) (by rfl) (.tmp 13) (.tmp 21) 26 (by rfl) (w.heap.size + 1) 91 i0 (.agg #[.string ⟨#[]⟩, .int .i64 0]) 2 24 Try.underlying26 hi hz0 hz1 hz2 rfl (by decide) B m d _ (by rfl) (by exact ho) _ 1 _ (fl [(s, x)]) (by rfl) (by exact r9) (ones_fl _) (by unfold maxLen; omega) (by omega) (by omega) ?_
            intro A1 n1 c1 w5 hn1 o5 b5 g5
            have hn9 : n1 ≤ 9 := by omega
            clear hn1
            have hne := own_ne_type ho hH (by decide)
            replace hH := (grown_blk g5 (by omega) hne).trans hH
            replace dG := cell_apartE g5 dG hne
            replace fG := (World.frozen?_of_block (a := ⟨G0, 0, none⟩) (grown_blk g5 (by show G0 < _; omega) hne)).trans fG
            replace dR := (b5.cell (p := ⟨w.heap.size, 0, none⟩) (by show w.heap.size < w.heap.size + 1; omega)).trans dR
            replace fR := (b5.frozen (p := ⟨w.heap.size, 0, none⟩) (by show w.heap.size < w.heap.size + 1; omega)).trans fR
            replace hcr := hcr.belowB b5 (by omega)
            replace hg := only_below hg (b5.mono (by omega))
            replace hsz := Nat.le_trans hsz b5.size
            have hne5 := own_ne_type o5 hH (by decide)
            clear b5 g5
            refine hK.out _ _ trivial (fun hHeld => ?_)
            clear hHeld hK K
            try simp only [Act.put, List.setIfInBounds_toArray, List.set_cons_zero, List.set_cons_succ]
            refine takeD (i := 11) (d := some 23) (v := ?_) _ rfl rfl (by kernel_rfl) (by kernel_rfl) (by kernel_rfl) (fun _ _ _ h => h) (Or.inl ⟨by rfl, ?_⟩) trivial ?_
            rotate_left
            · (intro W hSw; clear hSw; go_simp; try with_reducible rfl)
            try simp only [Act.put, List.setIfInBounds_toArray, List.set_cons_zero, List.set_cons_succ]
            refine wpAnyH_ready (rs := [12]) (by kernel_rfl) (by simp) ?_
            refine AllReadyH.cons rfl (fun K hK => ?_) AllReadyH.nil
            go_simp
            refine hK.out _ _ trivial (fun hHeld => ?_)
            clear hHeld hK K
            try simp only [Act.put, List.setIfInBounds_toArray, List.set_cons_zero, List.set_cons_succ]
            refine wpAnyH_done (by kernel_rfl) ?_ _
            have o6 : w5.ownsRow (w.heap.size + 1) 91 2 (.slice A1 n1 c1) n1 (fl (l ++ [(s, x)])) := by rw [fl_append]; exact o5
            have O8 := Lib.hid (own_base (base' := w.heap.size) (ownsRow_setCell_below (own_base (own_setNe o6 (a := ⟨G0, 0, none⟩) (.slice A1 n1 c1) hne5) (Nat.le_refl _)) (a := ⟨w.heap.size, 0, none⟩) (by show w.heap.size < w.heap.size + 1; omega) (.slice A1 n1 c1)) (by omega))
            have C8 := Lib.hid (cur_set (v := .slice A1 n1 c1) (b := w.heap.size) (o := 0) (cur_set (v := .slice A1 n1 c1) (b := G0) (o := 0) hcr (by omega)) (by omega))
            have G8 := Lib.hid (gro_set (v := .slice A1 n1 c1) (b := w.heap.size) (o := 0) (gro_set (v := .slice A1 n1 c1) (b := G0) (o := 0) hg (by omega)) (Nat.le_refl _))
            have hok8 : Hid (okF (l ++ [(s, x)])) := Lib.hid (okF_snoc okl (anyTexts_ok s hs) ((by decide : ∀ y ∈ [0, -1, 1000000000, (1000000001 : Int)], -9223372036854775808 ≤ y ∧ y ≤ 9223372036854775807) x hx))
            have dR8 : (w5.setCell ⟨G0, 0, none⟩ (.slice A1 n1 c1)).cell? ⟨w.heap.size, 0, none⟩ = some (.slice none 0 0) := by
              rw [World.cell?_setCell_far _ ⟨G0, 0, none⟩ ⟨w.heap.size, 0, none⟩ _ (by show G0 ≠ w.heap.size; omega)]
              exact dR
            have fR8 : (w5.setCell ⟨G0, 0, none⟩ (.slice A1 n1 c1)).frozen? ⟨w.heap.size, 0, none⟩ = false := by simp [fR]
            have dG8 : (w5.setCell ⟨G0, 0, none⟩ (.slice A1 n1 c1)).cell? ⟨G0, 0, none⟩ = some (.slice A1 n1 c1) := by simp [go_sem, dG]
            clear ho o5 o6 hcr hg
            go_wp2
            exact bodyPost_ret (v := .agg #[.slice A1 n1 c1]) (by simp [results, Try.results118, go_sem, dR8]) rfl ⟨A1, n1, c1, _, rfl, O8.out, ⟨hok8.out, by omega⟩, C8.out, G8.out⟩
          · go_simp
            refine (l1Int_any p _ 4 4 [0, -1, 1000000000, 1000000001] _ (by decide) (by decide) r6 (fun ad h => by injection h with h; subst h; exact n6) hcr).mono ?_; rintro e W7 ⟨x, rfl, hx, cq, gq⟩
            try go_wp2_with fail
            replace ho := own_only ho gq (by omega)
            replace hcr := cq
            replace hH := (gq.block G0 (by omega) (fun e => by injection e with e; omega)).trans hH
            replace dR := gcell gq dR (by omega)
            replace fR := gfroz gq (by omega) fR (by omega)
            replace dG := gcell gq dG (by omega)
            replace fG := gfroz gq (by omega) fG (by omega)
            replace r6 := r6.grown gq (fun ad h e => by injection h with h; subst h; injection e with e; exact n6 e.symm)
            replace r3 := r3.grown gq (fun ad h e => by injection h with h; subst h; injection e with e; exact n3 e.symm)
            replace hg := only_trans hg gq
            have hs0 := gq.size
            replace hsz := Nat.le_trans hsz hs0
            clear hs0 gq cq
            refine hK.out _ _ trivial (fun hHeld => ?_)
            clear hHeld hK K
            try simp only [Act.put, List.setIfInBounds_toArray, List.set_cons_zero, List.set_cons_succ]
            refine takeD (i := 8) (d := some 20) (v := ?_) _ rfl rfl (by kernel_rfl) (by kernel_rfl) (by kernel_rfl) (fun _ _ _ h => h) (Or.inl ⟨by rfl, ?_⟩) trivial ?_
            rotate_left
            · (intro W hSw; clear hSw; go_simp; try with_reducible rfl)
            try simp only [Act.put, List.setIfInBounds_toArray, List.set_cons_zero, List.set_cons_succ]
            refine wpAnyH_ready (rs := [1, 9]) (by kernel_rfl) (by simp) ?_
            refine AllReadyH.cons rfl (fun K hK => ?_) (AllReadyH.cons rfl (fun K hK => ?_) AllReadyH.nil)
            · go_simp
              refine hK.out _ _ trivial (fun hHeld => ?_)
              clear hHeld hK K
              try simp only [Act.put, List.setIfInBounds_toArray, List.set_cons_zero, List.set_cons_succ]
              refine wpAnyH_ready (rs := [9]) (by kernel_rfl) (by simp) ?_
              refine AllReadyH.cons rfl (fun K hK => ?_) AllReadyH.nil
              go_simp
              obtain ⟨U9, hU⟩ : ∃ U, U = W7.alloc (.cells #[.string s, .int .i64 x] 91) := ⟨_, rfl⟩
              have b : Below W7.heap.size W7 U9 := by rw [hU]; exact al (Below.refl _ _)
              have gq : W7.grownBy U9 (some p) := only_of_below b _
              have n9 : W7.heap.size ≠ p := by have := hcr.lt; omega
              replace ho := own_only ho gq (by omega)
              replace hcr := hcr.below b
              replace hH := (gq.block G0 (by omega) (fun e => by injection e with e; omega)).trans hH
              replace dR := gcell gq dR (by omega)
              replace fR := gfroz gq (by omega) fR (by omega)
              replace dG := gcell gq dG (by omega)
              replace fG := gfroz gq (by omega) fG (by omega)
              replace r6 := r6.grown gq (fun ad h e => by injection h with h; subst h; injection e with e; exact n6 e.symm)
              replace r3 := r3.grown gq (fun ad h e => by injection h with h; subst h; injection e with e; exact n3 e.symm)
              replace hg := only_trans hg gq
              have hs0 := gq.size
              replace hsz := Nat.le_trans hsz hs0
              clear hs0 gq b
              have r9 : Rd U9 2 (some ⟨W7.heap.size, 0, none⟩) 1 (fl [(s, x)]) := by rw [hU]; exact rd_new2 rfl
              rw [← hU]
              clear hU
              refine hK.out _ _ trivial (fun hHeld => ?_)
              clear hHeld hK K
              try simp only [Act.put, List.setIfInBounds_toArray, List.set_cons_zero, List.set_cons_succ]
              refine wpAnyH_ready (rs := [10]) (by kernel_rfl) (by simp) ?_
              refine AllReadyH.cons rfl (fun K hK => ?_) AllReadyH.nil
              refine step_catD (by rfl) (some 22) (by rfl) (.tmp 13) (.tmp 21) 26 (by rfl) (w.heap.size + 1) 91 i0 (.agg #[.string ⟨#[]⟩, .int .i64 0]) 2 24 Try.underlying26 hi hz0 hz1 hz2 rfl (by decide) B m d _ (by rfl) (by exact ho) _ 1 _ (fl [(s, x)]) (by rfl) (by exact r9) (ones_fl _) (by unfold maxLen; omega) (by omega) (by omega) ?_
              intro A1 n1 c1 w5 hn1 o5 b5 g5
              have hn9 : n1 ≤ 9 := by omega
              clear hn1
              have hne := own_ne_type ho hH (by decide)
              replace hH := (grown_blk g5 (by omega) hne).trans hH
              replace dG := cell_apartE g5 dG hne
              replace fG := (World.frozen?_of_block (a := ⟨G0, 0, none⟩) (grown_blk g5 (by show G0 < _; omega) hne)).trans fG
              replace dR := (b5.cell (p := ⟨w.heap.size, 0, none⟩) (by show w.heap.size < w.heap.size + 1; omega)).trans dR
              replace fR := (b5.frozen (p := ⟨w.heap.size, 0, none⟩) (by show w.heap.size < w.heap.size + 1; omega)).trans fR
              replace hcr := hcr.belowB b5 (by omega)
              replace hg := only_below hg (b5.mono (by omega))
              replace hsz := Nat.le_trans hsz b5.size
              have hne5 := own_ne_type o5 hH (by decide)
              clear b5 g5
              refine hK.out _ _ trivial (fun hHeld => ?_)
              clear hHeld hK K
              try simp only [Act.put, List.setIfInBounds_toArray, List.set_cons_zero, List.set_cons_succ]
              refine takeD (i := 11) (d := some 23) (v := ?_) _ rfl rfl (by kernel_rfl) (by kernel_rfl) (by kernel_rfl) (fun _ _ _ h => h) (Or.inl ⟨by rfl, ?_⟩) trivial ?_
              rotate_left
              · (intro W hSw; clear hSw; go_simp; try with_reducible rfl)
              try simp only [Act.put, List.setIfInBounds_toArray, List.set_cons_zero, List.set_cons_succ]
              refine wpAnyH_ready (rs := [12]) (by kernel_rfl) (by simp) ?_
              refine AllReadyH.cons rfl (fun K hK => ?_) AllReadyH.nil
              go_simp
              refine hK.out _ _ trivial (fun hHeld => ?_)
              clear hHeld hK K
              try simp only [Act.put, List.setIfInBounds_toArray, List.set_cons_zero, List.set_cons_succ]
              refine wpAnyH_done (by kernel_rfl) ?_ _
              have o6 : w5.ownsRow (w.heap.size + 1) 91 2 (.slice A1 n1 c1) n1 (fl (l ++ [(s, x)])) := by rw [fl_append]; exact o5
              have O8 := Lib.hid (own_base (base' := w.heap.size) (ownsRow_setCell_below (own_base (own_setNe o6 (a := ⟨G0, 0, none⟩) (.slice A1 n1 c1) hne5) (Nat.le_refl _)) (a := ⟨w.heap.size, 0, none⟩) (by show w.heap.size < w.heap.size + 1; omega) (.slice A1 n1 c1)) (by omega))
              have C8 := Lib.hid (cur_set (v := .slice A1 n1 c1) (b := w.heap.size) (o := 0) (cur_set (v := .slice A1 n1 c1) (b := G0) (o := 0) hcr (by omega)) (by omega))
              have G8 := Lib.hid (gro_set (v := .slice A1 n1 c1) (b := w.heap.size) (o := 0) (gro_set (v := .slice A1 n1 c1) (b := G0) (o := 0) hg (by omega)) (Nat.le_refl _))
              have hok8 : Hid (okF (l ++ [(s, x)])) := Lib.hid (okF_snoc okl (anyTexts_ok s hs) ((by decide : ∀ y ∈ [0, -1, 1000000000, (1000000001 : Int)], -9223372036854775808 ≤ y ∧ y ≤ 9223372036854775807) x hx))
              have dR8 : (w5.setCell ⟨G0, 0, none⟩ (.slice A1 n1 c1)).cell? ⟨w.heap.size, 0, none⟩ = some (.slice none 0 0) := by
                rw [World.cell?_setCell_far _ ⟨G0, 0, none⟩ ⟨w.heap.size, 0, none⟩ _ (by show G0 ≠ w.heap.size; omega)]
                exact dR
              have fR8 : (w5.setCell ⟨G0, 0, none⟩ (.slice A1 n1 c1)).frozen? ⟨w.heap.size, 0, none⟩ = false := by simp [fR]
              have dG8 : (w5.setCell ⟨G0, 0, none⟩ (.slice A1 n1 c1)).cell? ⟨G0, 0, none⟩ = some (.slice A1 n1 c1) := by simp [go_sem, dG]
              clear ho o5 o6 hcr hg
              go_wp2
              exact bodyPost_ret (v := .agg #[.slice A1 n1 c1]) (by simp [results, Try.results118, go_sem, dR8]) rfl ⟨A1, n1, c1, _, rfl, O8.out, ⟨hok8.out, by omega⟩, C8.out, G8.out⟩
            · go_simp
              obtain ⟨U9, hU⟩ : ∃ U, U = W7.alloc (.cells #[.string s, .int .i64 x] 91) := ⟨_, rfl⟩
              have b : Below W7.heap.size W7 U9 := by rw [hU]; exact al (Below.refl _ _)
              have gq : W7.grownBy U9 (some p) := only_of_below b _
              have n9 : W7.heap.size ≠ p := by have := hcr.lt; omega
              replace ho := own_only ho gq (by omega)
              replace hcr := hcr.below b
              replace hH := (gq.block G0 (by omega) (fun e => by injection e with e; omega)).trans hH
              replace dR := gcell gq dR (by omega)
              replace fR := gfroz gq (by omega) fR (by omega)
              replace dG := gcell gq dG (by omega)
              replace fG := gfroz gq (by omega) fG (by omega)
              replace r6 := r6.grown gq (fun ad h e => by injection h with h; subst h; injection e with e; exact n6 e.symm)
              replace r3 := r3.grown gq (fun ad h e => by injection h with h; subst h; injection e with e; exact n3 e.symm)
              replace hg := only_trans hg gq
              have hs0 := gq.size
              replace hsz := Nat.le_trans hsz hs0
              clear hs0 gq b
              have r9 : Rd U9 2 (some ⟨W7.heap.size, 0, none⟩) 1 (fl [(s, x)]) := by rw [hU]; exact rd_new2 rfl
              rw [← hU]
              clear hU
              refine hK.out _ _ trivial (fun hHeld => ?_)
              clear hHeld hK K
              try simp only [Act.put, List.setIfInBounds_toArray, List.set_cons_zero, List.set_cons_succ]
              refine wpAnyH_ready (rs := [1]) (by kernel_rfl) (by simp) ?_
              refine AllReadyH.cons rfl (fun K hK => ?_) AllReadyH.nil
              go_simp
              refine hK.out _ _ trivial (fun hHeld => ?_)
              clear hHeld hK K
              try simp only [Act.put, List.setIfInBounds_toArray, List.set_cons_zero, List.set_cons_succ]
              refine wpAnyH_ready (rs := [10]) (by kernel_rfl) (by simp) ?_
              refine AllReadyH.cons rfl (fun K hK => ?_) AllReadyH.nil
              refine step_catD (by rfl) (some 22) (by rfl) (.tmp 13) (.tmp 21) 26 (by rfl) (w.heap.size + 1) 91 i0 (.agg #[.string ⟨#[]⟩, .int .i64 0]) 2 24 Try.underlying26 hi hz0 hz1 hz2 rfl (by decide) B m d _ (by rfl) (by exact ho) _ 1 _ (fl [(s, x)]) (by rfl) (by exact r9) (ones_fl _) (by unfold maxLen; omega) (by omega) (by omega) ?_
              intro A1 n1 c1 w5 hn1 o5 b5 g5
              have hn9 : n1 ≤ 9 := by omega
              clear hn1
              have hne := own_ne_type ho hH (by decide)
              replace hH := (grown_blk g5 (by omega) hne).trans hH
              replace dG := cell_apartE g5 dG hne
              replace fG := (World.frozen?_of_block (a := ⟨G0, 0, none⟩) (grown_blk g5 (by show G0 < _; omega) hne)).trans fG
              replace dR := (b5.cell (p := ⟨w.heap.size, 0, none⟩) (by show w.heap.size < w.heap.size + 1; omega)).trans dR
              replace fR := (b5.frozen (p := ⟨w.heap.size, 0, none⟩) (by show w.heap.size < w.heap.size + 1; omega)).trans fR
              replace hcr := hcr.belowB b5 (by omega)
              replace hg := only_below hg (b5.mono (by omega))
              replace hsz := Nat.le_trans hsz b5.size
              have hne5 := own_ne_type o5 hH (by decide)
              clear b5 g5
              refine hK.out _ _ trivial (fun hHeld => ?_)
              clear hHeld hK K
              try simp only [Act.put, List.setIfInBounds_toArray, List.set_cons_zero, List.set_cons_succ]
              refine takeD (i := 11) (d := some 23) (v := ?_) _ rfl rfl (by kernel_rfl) (by kernel_rfl) (by kernel_rfl) (fun _ _ _ h => h) (Or.inl ⟨by rfl, ?_⟩) trivial ?_
              rotate_left
              · (intro W hSw; clear hSw; go_simp; try with_reducible rfl)
              try simp only [Act.put, List.setIfInBounds_toArray, List.set_cons_zero, List.set_cons_succ]
              refine wpAnyH_ready (rs := [12]) (by kernel_rfl) (by simp) ?_
              refine AllReadyH.cons rfl (fun K hK => ?_) AllReadyH.nil
              go_simp
              refine hK.out _ _ trivial (fun hHeld => ?_)
              clear hHeld hK K
              try simp only [Act.put, List.setIfInBounds_toArray, List.set_cons_zero, List.set_cons_succ]
              refine wpAnyH_done (by kernel_rfl) ?_ _
              have o6 : w5.ownsRow (w.heap.size + 1) 91 2 (.slice A1 n1 c1) n1 (fl (l ++ [(s, x)])) := by rw [fl_append]; exact o5
              have O8 := Lib.hid (own_base (base' := w.heap.size) (ownsRow_setCell_below (own_base (own_setNe o6 (a := ⟨G0, 0, none⟩) (.slice A1 n1 c1) hne5) (Nat.le_refl _)) (a := ⟨w.heap.size, 0, none⟩) (by show w.heap.size < w.heap.size + 1; omega) (.slice A1 n1 c1)) (by omega))
              have C8 := Lib.hid (cur_set (v := .slice A1 n1 c1) (b := w.heap.size) (o := 0) (cur_set (v := .slice A1 n1 c1) (b := G0) (o := 0) hcr (by omega)) (by omega))
              have G8 := Lib.hid (gro_set (v := .slice A1 n1 c1) (b := w.heap.size) (o := 0) (gro_set (v := .slice A1 n1 c1) (b := G0) (o := 0) hg (by omega)) (Nat.le_refl _))
              have hok8 : Hid (okF (l ++ [(s, x)])) := Lib.hid (okF_snoc okl (anyTexts_ok s hs) ((by decide : ∀ y ∈ [0, -1, 1000000000, (1000000001 : Int)], -9223372036854775808 ≤ y ∧ y ≤ 9223372036854775807) x hx))
              have dR8 : (w5.setCell ⟨G0, 0, none⟩ (.slice A1 n1 c1)).cell? ⟨w.heap.size, 0, none⟩ = some (.slice none 0 0) := by
                rw [World.cell?_setCell_far _ ⟨G0, 0, none⟩ ⟨w.heap.size, 0, none⟩ _ (by show G0 ≠ w.heap.size; omega)]
                exact dR
              have fR8 : (w5.setCell ⟨G0, 0, none⟩ (.slice A1 n1 c1)).frozen? ⟨w.heap.size, 0, none⟩ = false := by simp [fR]
              have dG8 : (w5.setCell ⟨G0, 0, none⟩ (.slice A1 n1 c1)).cell? ⟨G0, 0, none⟩ = some (.slice A1 n1 c1) := by simp [go_sem, dG]
              clear ho o5 o6 hcr hg
              go_wp2
              exact bodyPost_ret (v := .agg #[.slice A1 n1 c1]) (by simp [results, Try.results118, go_sem, dR8]) rfl ⟨A1, n1, c1, _, rfl, O8.out, ⟨hok8.out, by omega⟩, C8.out, G8.out⟩
  · go_wp2
    obtain ⟨H6, hH6⟩ : ∃ g, g = w2.heap.size := ⟨_, rfl⟩
    obtain ⟨V2, hV2⟩ : ∃ V, V = w2.alloc (.cells #[.string ⟨#[100]⟩, .string ⟨#[101]⟩, .string ⟨#[102]⟩, .string ⟨#[103]⟩, .string ⟨#[104]⟩, .string ⟨#[105]⟩] 9) := ⟨_, rfl⟩
    have b : Below w2.heap.size w2 V2 := by rw [hV2]; exact al (Below.refl _ _)
    have gq : w2.grownBy V2 (some p) := only_of_below b _
    have hlt6 : G0 < H6 := by omega
    have r6 : Rd V2 1 (some ⟨H6, 0, none⟩) 6 (setTexts.map Value.string) := by rw [hV2]; exact rd_lit2 w2 _ _ _ hH6.symm
    replace ho := own_below ho b
    replace hcr := hcr.below b
    replace dR := gcell gq dR (by omega)
    replace fR := gfroz gq (by omega) fR (by omega)
    replace dG := gcell gq dG (by omega)
    replace fG := gfroz gq (by omega) fG (by omega)
    replace hg := only_trans hg gq
    replace hsz := Nat.le_trans hsz b.size
    rw [← hV2, ← hH6]
    clear hV2 hH6 b gq hH
    go_loopw [28] (fun i wr => ∃ (k : Nat) (B : Option Addr) (m d : Nat) (l : List Fld), k ≤ 6 ∧ i = .int .i64 k ∧ m ≤ 3 + k ∧ wr.ownsRow (w.heap.size + 1) 91 2 (.slice B m d) m (fl l) ∧ okF l ∧ Cur wr p ∧ w.grownBy wr (some p) ∧ wr.cell? ⟨w.heap.size, 0, none⟩ = some (.slice none 0 0) ∧ wr.frozen? ⟨w.heap.size, 0, none⟩ = false ∧ wr.cell? ⟨G0, 0, none⟩ = some (.slice B m d) ∧ wr.frozen? ⟨G0, 0, none⟩ = false ∧ G0 + 1 ≤ wr.heap.size ∧ Rd wr 1 (some ⟨H6, 0, none⟩) 6 (setTexts.map Value.string)) (fun i _ => 6 - (intOf i).toNat)
    case atStart => exact ⟨0, B, m, d, l, Nat.zero_le _, rfl, by omega, ho, okl, hcr, hg, dR, fR, dG, fG, hsz, r6⟩
    case round =>
      clear ho okl hcr hg dR fR dG fG hsz r6
      obtain ⟨k, B, m, d, l, hk, rfl, hm, ho, okl, hcr, hg, dR, fR, dG, fG, hsz, r6⟩ := hrel
      by_cases hlt : k < 6
      · obtain ⟨b6, o6, u, hb6, _, hu, hcy⟩ := r6.at1 hlt
        rw [List.getElem?_map, Option.map_eq_some_iff] at hu
        obtain ⟨s, hs, rfl⟩ := hu
        obtain ⟨rfl, rfl⟩ : b6 = H6 ∧ o6 = 0 := by injection hb6 with hb6; injection hb6 with e1 e2; exact ⟨e1.symm, e2.symm⟩
        rw [Nat.zero_add] at hcy
        have hss := setTexts_ok s (List.mem_of_getElem? hs)
        have k0 : (0 : Int) ≤ (k : Int) := by omega
        have k1 : (k : Int) < 6 := by omega
        obtain ⟨lr, rr, hlr⟩ : ∃ lr rr, (lr, rr) = setR l s 1 := ⟨_, _, rfl⟩
        have HLR := Lib.hid hlr
        clear hs hb6 hlr
        go_wp2_with fail
        refine (specSetField_any B m d _ l s 1 lr rr _ (by omega) ho okl (by unfold maxLen; omega) (by omega) HLR.out).mono ?_
        rintro e w6 ⟨A3, n3, c3, rfl, o3, b3⟩
        have hok3 := setR_ok HLR.out okl (by unfold maxLen; omega) (by omega)
        have hn3 := own_lenF o3
        have hm3 := own_lenF ho
        have hl3 := setR_len2 HLR.out
        have gq := only_of_below b3 (some p)
        have hzc := hsz
        replace hcr := hcr.below b3
        replace dR := gcell gq dR (by omega)
        replace fR := gfroz gq (by omega) fR (by omega)
        replace dG := gcell gq dG (by omega)
        replace fG := gfroz gq (by omega) fG (by omega)
        replace hg := only_trans hg gq
        replace hsz := Nat.le_trans hsz b3.size
        replace r6 := r6.below b3
        have O8 := Lib.hid (own_base (base' := w.heap.size + 1) (ownsRow_setCell_below o3 (a := ⟨G0, 0, none⟩) (by show G0 < _; omega) (.slice A3 n3 c3)) (by omega))
        have C8 := Lib.hid (cur_set (v := .slice A3 n3 c3) (b := G0) (o := 0) hcr (by omega))
        have G8 := Lib.hid (gro_set (v := .slice A3 n3 c3) (b := G0) (o := 0) hg (by omega))
        have dR8 : Hid ((w6.setCell ⟨G0, 0, none⟩ (.slice A3 n3 c3)).cell? ⟨w.heap.size, 0, none⟩ = some (.slice none 0 0)) := by
          show _ = _
          rw [World.cell?_setCell_far _ ⟨G0, 0, none⟩ ⟨w.heap.size, 0, none⟩ _ (by show G0 ≠ w.heap.size; omega)]
          exact dR
        have fR8 : Hid ((w6.setCell ⟨G0, 0, none⟩ (.slice A3 n3 c3)).frozen? ⟨w.heap.size, 0, none⟩ = false) := Lib.hid (by simp [fR])
        have dG8 : Hid ((w6.setCell ⟨G0, 0, none⟩ (.slice A3 n3 c3)).cell? ⟨G0, 0, none⟩ = some (.slice A3 n3 c3)) := Lib.hid (by simp [go_sem, dG])
        have fG8 : Hid ((w6.setCell ⟨G0, 0, none⟩ (.slice A3 n3 c3)).frozen? ⟨G0, 0, none⟩ = false) := Lib.hid (by simp [fG])
        have hs8 : Hid (G0 + 1 ≤ (w6.setCell ⟨G0, 0, none⟩ (.slice A3 n3 c3)).heap.size) := Lib.hid (by simpa using hsz)
        have R8 : Hid (Rd (w6.setCell ⟨G0, 0, none⟩ (.slice A3 n3 c3)) 1 (some ⟨b6, 0, none⟩) 6 (setTexts.map Value.string)) := Lib.hid (r6.grown (only_setCell (World.grownBy.refl w6 (some G0)) (.inl rfl) _) (fun ad h e => by injection h with h; subst h; injection e with e; have e2 : G0 = b6 := e; omega))
        clear o3 b3 hcr hg gq r6
        go_wp2
        go_roundw
        case rel => exact ⟨k + 1, A3, n3, c3, lr, by omega, by go_num, by omega, O8.out, hok3, C8.out, G8.out, dR8.out, fR8.out, dG8.out, fG8.out, hs8.out, R8.out⟩
        case measure => simp [intOf]; omega
      · obtain rfl : k = 6 := by omega
        clear r6
        have O8 := Lib.hid (own_base (base' := w.heap.size) (ownsRow_setCell_below ho (a := ⟨w.heap.size, 0, none⟩) (by show w.heap.size < w.heap.size + 1; omega) (.slice B m d)) (by omega))
        have C8 := Lib.hid (cur_set (v := .slice B m d) (b := w.heap.size) (o := 0) hcr (by omega))
        have G8 := Lib.hid (gro_set (v := .slice B m d) (b := w.heap.size) (o := 0) hg (Nat.le_refl _))
        go_wp2
        exact bodyPost_ret (v := .agg #[.slice B m d]) (by simp [results, Try.results118, go_sem, dR]) rfl ⟨B, m, d, l, rfl, O8.out, ⟨okl, by omega⟩, C8.out, G8.out⟩
  · have hq3 : ¬ q = 0 := by omega
    have hq4 : ¬ q = 1 := by omega
    have O8 := Lib.hid (own_base (base' := w.heap.size) (ownsRow_setCell_below ho (a := ⟨w.heap.size, 0, none⟩) (by show w.heap.size < w.heap.size + 1; omega) (.slice B m d)) (by omega))
    have C8 := Lib.hid (cur_set (v := .slice B m d) (b := w.heap.size) (o := 0) hcr (by omega))
    have G8 := Lib.hid (gro_set (v := .slice B m d) (b := w.heap.size) (o := 0) hg (Nat.le_refl _))
    go_wp2
    exact bodyPost_ret (v := .agg #[.slice B m d]) (by simp [results, Try.results118, go_sem, dR]) rfl ⟨B, m, d, l, rfl, O8.out, ⟨okl, by omega⟩, C8.out, G8.out⟩
end Go.Proofs.Ytbbngihmjdndoaa
