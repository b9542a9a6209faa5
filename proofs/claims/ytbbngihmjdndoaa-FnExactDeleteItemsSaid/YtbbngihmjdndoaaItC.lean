/-
  Proved: the contracts of the copies of an item, of the program and of the reference. Conditions: the item's record reads as a list.
  By an AI agent; no person has read it.
-/
import Derived.Test.YtbbngihmjdndoaaItQ
import Derived.Test.YtbbngihmjdndoaaFldC
import Derived.Test.YtbbngihmjdndoaaStepS
import Derived.Test.YtbbngihmjdndoaaFldR
namespace Go.Proofs.Ytbbngihmjdndoaa
open Go.RowKit
set_option linter.unusedSimpArgs false
set_option linter.unusedVariables false

set_option maxRecDepth 100000 in
set_option maxHeartbeats 4000000 in
theorem copyItem_any (x : Itm) (w : World) (hn : x.m ≤ 1099511627776) (ha : Rd w 2 x.A x.m (fl x.fs)) :
    Calls Try.prog 114 #[.agg #[.int .i64 x.k, .int .i64 x.n, .string x.s, .slice x.A x.m x.c]] w (MkIt w x.k x.n x.s x.fs) := by
  obtain ⟨V, hV⟩ : ∃ V, V = (w.alloc (.cells #[.int .i64 x.k, .int .i64 x.n, .string x.s, .slice x.A x.m x.c] 106)).alloc (.cells #[.int .i64 0, .int .i64 0, .string ⟨#[]⟩, .slice none 0 0] 106) := ⟨_, rfl⟩
  have BD : Below w.heap.size w V := by rw [hV]; exact al (al (Below.refl _ _))
  have hsz : w.heap.size + 1 < V.heap.size := by rw [hV]; simp
  have d0 : V.cell? ⟨w.heap.size, 0, none⟩ = some (.int .i64 x.k) := by rw [hV]; simp [go_sem]
  have d1 : V.cell? ⟨w.heap.size, 1, none⟩ = some (.int .i64 x.n) := by rw [hV]; simp [go_sem]
  have d2 : V.cell? ⟨w.heap.size, 2, none⟩ = some (.string x.s) := by rw [hV]; simp [go_sem]
  have d3 : V.cell? ⟨w.heap.size, 3, none⟩ = some (.slice x.A x.m x.c) := by rw [hV]; simp [go_sem]
  have r0 : V.cell? ⟨w.heap.size + 1, 0, none⟩ = some (.int .i64 0) := by rw [hV]; simp [go_sem]
  have r1 : V.cell? ⟨w.heap.size + 1, 1, none⟩ = some (.int .i64 0) := by rw [hV]; simp [go_sem]
  have r2 : V.cell? ⟨w.heap.size + 1, 2, none⟩ = some (.string ⟨#[]⟩) := by rw [hV]; simp [go_sem]
  have r3 : V.cell? ⟨w.heap.size + 1, 3, none⟩ = some (.slice none 0 0) := by rw [hV]; simp [go_sem]
  have f0 : ∀ j, V.frozen? ⟨w.heap.size + 1, j, none⟩ = false := fun j => by rw [hV]; simp [go_sem]
  go_enter Try.func114, Try.ntmps114
  go_wp2
  rw [← hV]
  clear hV
  refine wp_region_held_drew (S := fun _ => True) (by kernel_rfl) trivial (fun hHeld => ?_)
  clear hHeld
  replace d0 := (show V.drew.cell? ⟨w.heap.size, 0, none⟩ = _ from d0)
  replace d1 := (show V.drew.cell? ⟨w.heap.size, 1, none⟩ = _ from d1)
  replace d2 := (show V.drew.cell? ⟨w.heap.size, 2, none⟩ = _ from d2)
  replace d3 := (show V.drew.cell? ⟨w.heap.size, 3, none⟩ = _ from d3)
  replace r0 := (show V.drew.cell? ⟨w.heap.size + 1, 0, none⟩ = _ from r0)
  replace r1 := (show V.drew.cell? ⟨w.heap.size + 1, 1, none⟩ = _ from r1)
  replace r2 := (show V.drew.cell? ⟨w.heap.size + 1, 2, none⟩ = _ from r2)
  replace r3 := (show V.drew.cell? ⟨w.heap.size + 1, 3, none⟩ = _ from r3)
  replace f0 := (show ∀ j, V.drew.frozen? ⟨w.heap.size + 1, j, none⟩ = _ from f0)
  replace BD := (show Below w.heap.size w V.drew from BD.drew)
  replace hsz := (show w.heap.size + 1 < V.drew.heap.size from hsz)
  generalize V.drew = wd at d0 d1 d2 d3 r0 r1 r2 r3 f0 BD hsz ⊢
  refine takeD (i := 0) (d := some 3) (v := ?_) _ rfl rfl (by kernel_rfl) (by kernel_rfl) (by kernel_rfl) (fun _ _ _ h => h) (Or.inl ⟨by rfl, ?_⟩) trivial ?_
  rotate_left
  · (intro W hSw; clear hSw; go_simp; try with_reducible rfl)
  try simp only [Act.put, List.setIfInBounds_toArray, List.set_cons_zero, List.set_cons_succ]
  refine takeD (i := 2) (d := some 5) (v := ?_) _ rfl rfl (by kernel_rfl) (by kernel_rfl) (by kernel_rfl) (fun _ _ _ h => h) (Or.inl ⟨by rfl, ?_⟩) trivial ?_
  rotate_left
  · (intro W hSw; clear hSw; go_simp; try with_reducible rfl)
  try simp only [Act.put, List.setIfInBounds_toArray, List.set_cons_zero, List.set_cons_succ]
  refine wpAnyH_ready (rs := [1, 3]) (by kernel_rfl) (by simp) ?_
  refine AllReadyH.cons rfl (fun K hK => ?_) (AllReadyH.cons rfl (fun K hK => ?_) AllReadyH.nil)
  · go_simp
    refine hK.out _ _ trivial (fun hHeld => ?_)
    clear hHeld hK K
    try simp only [Act.put, List.setIfInBounds_toArray, List.set_cons_zero, List.set_cons_succ]
    refine wpAnyH_ready (rs := [3]) (by kernel_rfl) (by simp) ?_
    refine AllReadyH.cons rfl (fun K hK => ?_) AllReadyH.nil
    go_simp
    refine hK.out _ _ trivial (fun hHeld => ?_)
    clear hHeld hK K
    try simp only [Act.put, List.setIfInBounds_toArray, List.set_cons_zero, List.set_cons_succ]
    refine wpAnyH_ready (rs := [4]) (by kernel_rfl) (by simp) ?_
    refine AllReadyH.cons rfl (fun K hK => ?_) AllReadyH.nil
    go_simp
    refine (copyRecord_any x.A x.m x.c x.fs _ hn (ha.below BD)).mono ?_; rintro e W4 ⟨A4, n4, c4, rfl, o4, b4⟩
    try go_wp2_with fail
    replace d0 := kcell b4 d0
    replace d1 := kcell b4 d1
    replace d2 := kcell b4 d2
    replace d3 := kcell b4 d3
    replace r0 := kcell b4 r0
    replace r1 := kcell b4 r1
    replace r2 := kcell b4 r2
    replace r3 := kcell b4 r3
    replace f0 : ∀ j, W4.frozen? ⟨w.heap.size + 1, j, none⟩ = false := fun j => (b4.frozen (p := ⟨w.heap.size + 1, j, none⟩) (by show w.heap.size + 1 < _; omega)).trans (f0 j)
    have B4 := BD.trans (b4.mono BD.size)
    have hszd := hsz
    replace hsz := Nat.lt_of_lt_of_le hsz b4.size
    refine hK.out _ _ trivial (fun hHeld => ?_)
    clear hHeld hK K
    try simp only [Act.put, List.setIfInBounds_toArray, List.set_cons_zero, List.set_cons_succ]
    refine takeD (i := 5) (d := some 8) (v := ?_) _ rfl rfl (by kernel_rfl) (by kernel_rfl) (by kernel_rfl) (fun _ _ _ h => h) (Or.inl ⟨by rfl, ?_⟩) trivial ?_
    rotate_left
    · (intro W hSw; clear hSw; go_simp; try with_reducible rfl)
    try simp only [Act.put, List.setIfInBounds_toArray, List.set_cons_zero, List.set_cons_succ]
    refine wpAnyH_ready (rs := [6]) (by kernel_rfl) (by simp) ?_
    refine AllReadyH.cons rfl (fun K hK => ?_) AllReadyH.nil
    go_simp
    refine hK.out _ _ trivial (fun hHeld => ?_)
    clear hHeld hK K
    try simp only [Act.put, List.setIfInBounds_toArray, List.set_cons_zero, List.set_cons_succ]
    refine wpAnyH_done (by kernel_rfl) ?_ _
    have O8 : Hid (((((W4.setCell ⟨w.heap.size + 1, 0, none⟩ (.int .i64 x.k)).setCell ⟨w.heap.size + 1, 1, none⟩ (.int .i64 x.n)).setCell ⟨w.heap.size + 1, 2, none⟩ (.string x.s)).setCell ⟨w.heap.size + 1, 3, none⟩ (.slice A4 n4 c4)).ownsRow w.heap.size 91 2 (.slice A4 n4 c4) n4 (fl x.fs)) := own_base (ownsRow_setCell_below (ownsRow_setCell_below (ownsRow_setCell_below (ownsRow_setCell_below o4 (a := ⟨w.heap.size + 1, 0, none⟩) (by show w.heap.size + 1 < _; omega) _) (a := ⟨w.heap.size + 1, 1, none⟩) (by show w.heap.size + 1 < _; omega) _) (a := ⟨w.heap.size + 1, 2, none⟩) (by show w.heap.size + 1 < _; omega) _) (a := ⟨w.heap.size + 1, 3, none⟩) (by show w.heap.size + 1 < _; omega) _) (by omega)
    have B8 : Hid (Below w.heap.size w ((((W4.setCell ⟨w.heap.size + 1, 0, none⟩ (.int .i64 x.k)).setCell ⟨w.heap.size + 1, 1, none⟩ (.int .i64 x.n)).setCell ⟨w.heap.size + 1, 2, none⟩ (.string x.s)).setCell ⟨w.heap.size + 1, 3, none⟩ (.slice A4 n4 c4))) := (((B4.setCell (p := ⟨w.heap.size + 1, 0, none⟩) (by simp) _).setCell (p := ⟨w.heap.size + 1, 1, none⟩) (by simp) _).setCell (p := ⟨w.heap.size + 1, 2, none⟩) (by simp) _).setCell (p := ⟨w.heap.size + 1, 3, none⟩) (by simp) _
    clear o4 b4 B4 d0 d1 d2 d3
    go_wp2
    exact bodyPost_ret (v := .agg #[.int .i64 x.k, .int .i64 x.n, .string x.s, .slice A4 n4 c4]) (by simp [results, Try.results114, go_sem, r0, r1, r2, r3]) rfl ⟨_, _, _, rfl, O8.out, B8.out⟩
  · go_simp
    refine hK.out _ _ trivial (fun hHeld => ?_)
    clear hHeld hK K
    try simp only [Act.put, List.setIfInBounds_toArray, List.set_cons_zero, List.set_cons_succ]
    refine wpAnyH_ready (rs := [1, 4]) (by kernel_rfl) (by simp) ?_
    refine AllReadyH.cons rfl (fun K hK => ?_) (AllReadyH.cons rfl (fun K hK => ?_) AllReadyH.nil)
    · go_simp
      refine hK.out _ _ trivial (fun hHeld => ?_)
      clear hHeld hK K
      try simp only [Act.put, List.setIfInBounds_toArray, List.set_cons_zero, List.set_cons_succ]
      refine wpAnyH_ready (rs := [4]) (by kernel_rfl) (by simp) ?_
      refine AllReadyH.cons rfl (fun K hK => ?_) AllReadyH.nil
      go_simp
      refine (copyRecord_any x.A x.m x.c x.fs _ hn (ha.below BD)).mono ?_; rintro e W4 ⟨A4, n4, c4, rfl, o4, b4⟩
      try go_wp2_with fail
      replace d0 := kcell b4 d0
      replace d1 := kcell b4 d1
      replace d2 := kcell b4 d2
      replace d3 := kcell b4 d3
      replace r0 := kcell b4 r0
      replace r1 := kcell b4 r1
      replace r2 := kcell b4 r2
      replace r3 := kcell b4 r3
      replace f0 : ∀ j, W4.frozen? ⟨w.heap.size + 1, j, none⟩ = false := fun j => (b4.frozen (p := ⟨w.heap.size + 1, j, none⟩) (by show w.heap.size + 1 < _; omega)).trans (f0 j)
      have B4 := BD.trans (b4.mono BD.size)
      have hszd := hsz
      replace hsz := Nat.lt_of_lt_of_le hsz b4.size
      refine hK.out _ _ trivial (fun hHeld => ?_)
      clear hHeld hK K
      try simp only [Act.put, List.setIfInBounds_toArray, List.set_cons_zero, List.set_cons_succ]
      refine takeD (i := 5) (d := some 8) (v := ?_) _ rfl rfl (by kernel_rfl) (by kernel_rfl) (by kernel_rfl) (fun _ _ _ h => h) (Or.inl ⟨by rfl, ?_⟩) trivial ?_
      rotate_left
      · (intro W hSw; clear hSw; go_simp; try with_reducible rfl)
      try simp only [Act.put, List.setIfInBounds_toArray, List.set_cons_zero, List.set_cons_succ]
      refine wpAnyH_ready (rs := [6]) (by kernel_rfl) (by simp) ?_
      refine AllReadyH.cons rfl (fun K hK => ?_) AllReadyH.nil
      go_simp
      refine hK.out _ _ trivial (fun hHeld => ?_)
      clear hHeld hK K
      try simp only [Act.put, List.setIfInBounds_toArray, List.set_cons_zero, List.set_cons_succ]
      refine wpAnyH_done (by kernel_rfl) ?_ _
      have O8 : Hid (((((W4.setCell ⟨w.heap.size + 1, 0, none⟩ (.int .i64 x.k)).setCell ⟨w.heap.size + 1, 1, none⟩ (.int .i64 x.n)).setCell ⟨w.heap.size + 1, 2, none⟩ (.string x.s)).setCell ⟨w.heap.size + 1, 3, none⟩ (.slice A4 n4 c4)).ownsRow w.heap.size 91 2 (.slice A4 n4 c4) n4 (fl x.fs)) := own_base (ownsRow_setCell_below (ownsRow_setCell_below (ownsRow_setCell_below (ownsRow_setCell_below o4 (a := ⟨w.heap.size + 1, 0, none⟩) (by show w.heap.size + 1 < _; omega) _) (a := ⟨w.heap.size + 1, 1, none⟩) (by show w.heap.size + 1 < _; omega) _) (a := ⟨w.heap.size + 1, 2, none⟩) (by show w.heap.size + 1 < _; omega) _) (a := ⟨w.heap.size + 1, 3, none⟩) (by show w.heap.size + 1 < _; omega) _) (by omega)
      have B8 : Hid (Below w.heap.size w ((((W4.setCell ⟨w.heap.size + 1, 0, none⟩ (.int .i64 x.k)).setCell ⟨w.heap.size + 1, 1, none⟩ (.int .i64 x.n)).setCell ⟨w.heap.size + 1, 2, none⟩ (.string x.s)).setCell ⟨w.heap.size + 1, 3, none⟩ (.slice A4 n4 c4))) := (((B4.setCell (p := ⟨w.heap.size + 1, 0, none⟩) (by simp) _).setCell (p := ⟨w.heap.size + 1, 1, none⟩) (by simp) _).setCell (p := ⟨w.heap.size + 1, 2, none⟩) (by simp) _).setCell (p := ⟨w.heap.size + 1, 3, none⟩) (by simp) _
      clear o4 b4 B4 d0 d1 d2 d3
      go_wp2
      exact bodyPost_ret (v := .agg #[.int .i64 x.k, .int .i64 x.n, .string x.s, .slice A4 n4 c4]) (by simp [results, Try.results114, go_sem, r0, r1, r2, r3]) rfl ⟨_, _, _, rfl, O8.out, B8.out⟩
    · go_simp
      refine (copyRecord_any x.A x.m x.c x.fs _ hn (ha.below BD)).mono ?_; rintro e W4 ⟨A4, n4, c4, rfl, o4, b4⟩
      try go_wp2_with fail
      replace d0 := kcell b4 d0
      replace d1 := kcell b4 d1
      replace d2 := kcell b4 d2
      replace d3 := kcell b4 d3
      replace r0 := kcell b4 r0
      replace r1 := kcell b4 r1
      replace r2 := kcell b4 r2
      replace r3 := kcell b4 r3
      replace f0 : ∀ j, W4.frozen? ⟨w.heap.size + 1, j, none⟩ = false := fun j => (b4.frozen (p := ⟨w.heap.size + 1, j, none⟩) (by show w.heap.size + 1 < _; omega)).trans (f0 j)
      have B4 := BD.trans (b4.mono BD.size)
      have hszd := hsz
      replace hsz := Nat.lt_of_lt_of_le hsz b4.size
      refine hK.out _ _ trivial (fun hHeld => ?_)
      clear hHeld hK K
      try simp only [Act.put, List.setIfInBounds_toArray, List.set_cons_zero, List.set_cons_succ]
      refine wpAnyH_ready (rs := [1]) (by kernel_rfl) (by simp) ?_
      refine AllReadyH.cons rfl (fun K hK => ?_) AllReadyH.nil
      go_simp
      refine hK.out _ _ trivial (fun hHeld => ?_)
      clear hHeld hK K
      try simp only [Act.put, List.setIfInBounds_toArray, List.set_cons_zero, List.set_cons_succ]
      refine takeD (i := 5) (d := some 8) (v := ?_) _ rfl rfl (by kernel_rfl) (by kernel_rfl) (by kernel_rfl) (fun _ _ _ h => h) (Or.inl ⟨by rfl, ?_⟩) trivial ?_
      rotate_left
      · (intro W hSw; clear hSw; go_simp; try with_reducible rfl)
      try simp only [Act.put, List.setIfInBounds_toArray, List.set_cons_zero, List.set_cons_succ]
      refine wpAnyH_ready (rs := [6]) (by kernel_rfl) (by simp) ?_
      refine AllReadyH.cons rfl (fun K hK => ?_) AllReadyH.nil
      go_simp
      refine hK.out _ _ trivial (fun hHeld => ?_)
      clear hHeld hK K
      try simp only [Act.put, List.setIfInBounds_toArray, List.set_cons_zero, List.set_cons_succ]
      refine wpAnyH_done (by kernel_rfl) ?_ _
      have O8 : Hid (((((W4.setCell ⟨w.heap.size + 1, 0, none⟩ (.int .i64 x.k)).setCell ⟨w.heap.size + 1, 1, none⟩ (.int .i64 x.n)).setCell ⟨w.heap.size + 1, 2, none⟩ (.string x.s)).setCell ⟨w.heap.size + 1, 3, none⟩ (.slice A4 n4 c4)).ownsRow w.heap.size 91 2 (.slice A4 n4 c4) n4 (fl x.fs)) := own_base (ownsRow_setCell_below (ownsRow_setCell_below (ownsRow_setCell_below (ownsRow_setCell_below o4 (a := ⟨w.heap.size + 1, 0, none⟩) (by show w.heap.size + 1 < _; omega) _) (a := ⟨w.heap.size + 1, 1, none⟩) (by show w.heap.size + 1 < _; omega) _) (a := ⟨w.heap.size + 1, 2, none⟩) (by show w.heap.size + 1 < _; omega) _) (a := ⟨w.heap.size + 1, 3, none⟩) (by show w.heap.size + 1 < _; omega) _) (by omega)
      have B8 : Hid (Below w.heap.size w ((((W4.setCell ⟨w.heap.size + 1, 0, none⟩ (.int .i64 x.k)).setCell ⟨w.heap.size + 1, 1, none⟩ (.int .i64 x.n)).setCell ⟨w.heap.size + 1, 2, none⟩ (.string x.s)).setCell ⟨w.heap.size + 1, 3, none⟩ (.slice A4 n4 c4))) := (((B4.setCell (p := ⟨w.heap.size + 1, 0, none⟩) (by simp) _).setCell (p := ⟨w.heap.size + 1, 1, none⟩) (by simp) _).setCell (p := ⟨w.heap.size + 1, 2, none⟩) (by simp) _).setCell (p := ⟨w.heap.size + 1, 3, none⟩) (by simp) _
      clear o4 b4 B4 d0 d1 d2 d3
      go_wp2
      exact bodyPost_ret (v := .agg #[.int .i64 x.k, .int .i64 x.n, .string x.s, .slice A4 n4 c4]) (by simp [results, Try.results114, go_sem, r0, r1, r2, r3]) rfl ⟨_, _, _, rfl, O8.out, B8.out⟩

set_option maxRecDepth 100000 in
set_option maxHeartbeats 4000000 in
theorem l6Item_any (x : Itm) (w : World) (hn : x.m ≤ 1099511627776) (ha : Rd w 2 x.A x.m (fl x.fs)) :
    Calls Try.prog 112 #[.agg #[.int .i64 x.k, .int .i64 x.n, .string x.s, .slice x.A x.m x.c]] w (MkIt w x.k x.n x.s x.fs) := by
  obtain ⟨V, hV⟩ : ∃ V, V = (w.alloc (.cells #[.int .i64 x.k, .int .i64 x.n, .string x.s, .slice x.A x.m x.c] 106)).alloc (.cells #[.int .i64 0, .int .i64 0, .string ⟨#[]⟩, .slice none 0 0] 106) := ⟨_, rfl⟩
  have BD : Below w.heap.size w V := by rw [hV]; exact al (al (Below.refl _ _))
  have hsz : w.heap.size + 1 < V.heap.size := by rw [hV]; simp
  have d0 : V.cell? ⟨w.heap.size, 0, none⟩ = some (.int .i64 x.k) := by rw [hV]; simp [go_sem]
  have d1 : V.cell? ⟨w.heap.size, 1, none⟩ = some (.int .i64 x.n) := by rw [hV]; simp [go_sem]
  have d2 : V.cell? ⟨w.heap.size, 2, none⟩ = some (.string x.s) := by rw [hV]; simp [go_sem]
  have d3 : V.cell? ⟨w.heap.size, 3, none⟩ = some (.slice x.A x.m x.c) := by rw [hV]; simp [go_sem]
  have r0 : V.cell? ⟨w.heap.size + 1, 0, none⟩ = some (.int .i64 0) := by rw [hV]; simp [go_sem]
  have r1 : V.cell? ⟨w.heap.size + 1, 1, none⟩ = some (.int .i64 0) := by rw [hV]; simp [go_sem]
  have r2 : V.cell? ⟨w.heap.size + 1, 2, none⟩ = some (.string ⟨#[]⟩) := by rw [hV]; simp [go_sem]
  have r3 : V.cell? ⟨w.heap.size + 1, 3, none⟩ = some (.slice none 0 0) := by rw [hV]; simp [go_sem]
  have f0 : ∀ j, V.frozen? ⟨w.heap.size + 1, j, none⟩ = false := fun j => by rw [hV]; simp [go_sem]
  go_enter Try.func112, Try.ntmps112
  go_wp2
  rw [← hV]
  clear hV
  refine wp_region_held_drew (S := fun _ => True) (by kernel_rfl) trivial (fun hHeld => ?_)
  clear hHeld
  replace d0 := (show V.drew.cell? ⟨w.heap.size, 0, none⟩ = _ from d0)
  replace d1 := (show V.drew.cell? ⟨w.heap.size, 1, none⟩ = _ from d1)
  replace d2 := (show V.drew.cell? ⟨w.heap.size, 2, none⟩ = _ from d2)
  replace d3 := (show V.drew.cell? ⟨w.heap.size, 3, none⟩ = _ from d3)
  replace r0 := (show V.drew.cell? ⟨w.heap.size + 1, 0, none⟩ = _ from r0)
  replace r1 := (show V.drew.cell? ⟨w.heap.size + 1, 1, none⟩ = _ from r1)
  replace r2 := (show V.drew.cell? ⟨w.heap.size + 1, 2, none⟩ = _ from r2)
  replace r3 := (show V.drew.cell? ⟨w.heap.size + 1, 3, none⟩ = _ from r3)
  replace f0 := (show ∀ j, V.drew.frozen? ⟨w.heap.size + 1, j, none⟩ = _ from f0)
  replace BD := (show Below w.heap.size w V.drew from BD.drew)
  replace hsz := (show w.heap.size + 1 < V.drew.heap.size from hsz)
  generalize V.drew = wd at d0 d1 d2 d3 r0 r1 r2 r3 f0 BD hsz ⊢
  refine takeD (i := 0) (d := some 3) (v := ?_) _ rfl rfl (by kernel_rfl) (by kernel_rfl) (by kernel_rfl) (fun _ _ _ h => h) (Or.inl ⟨by rfl, ?_⟩) trivial ?_
  rotate_left
  · (intro W hSw; clear hSw; go_simp; try with_reducible rfl)
  try simp only [Act.put, List.setIfInBounds_toArray, List.set_cons_zero, List.set_cons_succ]
  refine takeD (i := 2) (d := some 5) (v := ?_) _ rfl rfl (by kernel_rfl) (by kernel_rfl) (by kernel_rfl) (fun _ _ _ h => h) (Or.inl ⟨by rfl, ?_⟩) trivial ?_
  rotate_left
  · (intro W hSw; clear hSw; go_simp; try with_reducible rfl)
  try simp only [Act.put, List.setIfInBounds_toArray, List.set_cons_zero, List.set_cons_succ]
  refine wpAnyH_ready (rs := [1, 3]) (by kernel_rfl) (by simp) ?_
  refine AllReadyH.cons rfl (fun K hK => ?_) (AllReadyH.cons rfl (fun K hK => ?_) AllReadyH.nil)
  · go_simp
    refine hK.out _ _ trivial (fun hHeld => ?_)
    clear hHeld hK K
    try simp only [Act.put, List.setIfInBounds_toArray, List.set_cons_zero, List.set_cons_succ]
    refine wpAnyH_ready (rs := [3]) (by kernel_rfl) (by simp) ?_
    refine AllReadyH.cons rfl (fun K hK => ?_) AllReadyH.nil
    go_simp
    refine hK.out _ _ trivial (fun hHeld => ?_)
    clear hHeld hK K
    try simp only [Act.put, List.setIfInBounds_toArray, List.set_cons_zero, List.set_cons_succ]
    refine wpAnyH_ready (rs := [4]) (by kernel_rfl) (by simp) ?_
    refine AllReadyH.cons rfl (fun K hK => ?_) AllReadyH.nil
    go_simp
    refine (l5Copy_any x.A x.m x.c x.fs _ hn (ha.below BD)).mono ?_; rintro e W4 ⟨A4, n4, c4, rfl, o4, b4⟩
    try go_wp2_with fail
    replace d0 := kcell b4 d0
    replace d1 := kcell b4 d1
    replace d2 := kcell b4 d2
    replace d3 := kcell b4 d3
    replace r0 := kcell b4 r0
    replace r1 := kcell b4 r1
    replace r2 := kcell b4 r2
    replace r3 := kcell b4 r3
    replace f0 : ∀ j, W4.frozen? ⟨w.heap.size + 1, j, none⟩ = false := fun j => (b4.frozen (p := ⟨w.heap.size + 1, j, none⟩) (by show w.heap.size + 1 < _; omega)).trans (f0 j)
    have B4 := BD.trans (b4.mono BD.size)
    have hszd := hsz
    replace hsz := Nat.lt_of_lt_of_le hsz b4.size
    refine hK.out _ _ trivial (fun hHeld => ?_)
    clear hHeld hK K
    try simp only [Act.put, List.setIfInBounds_toArray, List.set_cons_zero, List.set_cons_succ]
    refine takeD (i := 5) (d := some 8) (v := ?_) _ rfl rfl (by kernel_rfl) (by kernel_rfl) (by kernel_rfl) (fun _ _ _ h => h) (Or.inl ⟨by rfl, ?_⟩) trivial ?_
    rotate_left
    · (intro W hSw; clear hSw; go_simp; try with_reducible rfl)
    try simp only [Act.put, List.setIfInBounds_toArray, List.set_cons_zero, List.set_cons_succ]
    refine wpAnyH_ready (rs := [6]) (by kernel_rfl) (by simp) ?_
    refine AllReadyH.cons rfl (fun K hK => ?_) AllReadyH.nil
    go_simp
    refine hK.out _ _ trivial (fun hHeld => ?_)
    clear hHeld hK K
    try simp only [Act.put, List.setIfInBounds_toArray, List.set_cons_zero, List.set_cons_succ]
    refine wpAnyH_done (by kernel_rfl) ?_ _
    have O8 : Hid (((((W4.setCell ⟨w.heap.size + 1, 0, none⟩ (.int .i64 x.k)).setCell ⟨w.heap.size + 1, 1, none⟩ (.int .i64 x.n)).setCell ⟨w.heap.size + 1, 2, none⟩ (.string x.s)).setCell ⟨w.heap.size + 1, 3, none⟩ (.slice A4 n4 c4)).ownsRow w.heap.size 91 2 (.slice A4 n4 c4) n4 (fl x.fs)) := own_base (ownsRow_setCell_below (ownsRow_setCell_below (ownsRow_setCell_below (ownsRow_setCell_below o4 (a := ⟨w.heap.size + 1, 0, none⟩) (by show w.heap.size + 1 < _; omega) _) (a := ⟨w.heap.size + 1, 1, none⟩) (by show w.heap.size + 1 < _; omega) _) (a := ⟨w.heap.size + 1, 2, none⟩) (by show w.heap.size + 1 < _; omega) _) (a := ⟨w.heap.size + 1, 3, none⟩) (by show w.heap.size + 1 < _; omega) _) (by omega)
    have B8 : Hid (Below w.heap.size w ((((W4.setCell ⟨w.heap.size + 1, 0, none⟩ (.int .i64 x.k)).setCell ⟨w.heap.size + 1, 1, none⟩ (.int .i64 x.n)).setCell ⟨w.heap.size + 1, 2, none⟩ (.string x.s)).setCell ⟨w.heap.size + 1, 3, none⟩ (.slice A4 n4 c4))) := (((B4.setCell (p := ⟨w.heap.size + 1, 0, none⟩) (by simp) _).setCell (p := ⟨w.heap.size + 1, 1, none⟩) (by simp) _).setCell (p := ⟨w.heap.size + 1, 2, none⟩) (by simp) _).setCell (p := ⟨w.heap.size + 1, 3, none⟩) (by simp) _
    clear o4 b4 B4 d0 d1 d2 d3
    go_wp2
    exact bodyPost_ret (v := .agg #[.int .i64 x.k, .int .i64 x.n, .string x.s, .slice A4 n4 c4]) (by simp [results, Try.results112, go_sem, r0, r1, r2, r3]) rfl ⟨_, _, _, rfl, O8.out, B8.out⟩
  · go_simp
    refine hK.out _ _ trivial (fun hHeld => ?_)
    clear hHeld hK K
    try simp only [Act.put, List.setIfInBounds_toArray, List.set_cons_zero, List.set_cons_succ]
    refine wpAnyH_ready (rs := [1, 4]) (by kernel_rfl) (by simp) ?_
    refine AllReadyH.cons rfl (fun K hK => ?_) (AllReadyH.cons rfl (fun K hK => ?_) AllReadyH.nil)
    · go_simp
      refine hK.out _ _ trivial (fun hHeld => ?_)
      clear hHeld hK K
      try simp only [Act.put, List.setIfInBounds_toArray, List.set_cons_zero, List.set_cons_succ]
      refine wpAnyH_ready (rs := [4]) (by kernel_rfl) (by simp) ?_
      refine AllReadyH.cons rfl (fun K hK => ?_) AllReadyH.nil
      go_simp
      refine (l5Copy_any x.A x.m x.c x.fs _ hn (ha.below BD)).mono ?_; rintro e W4 ⟨A4, n4, c4, rfl, o4, b4⟩
      try go_wp2_with fail
      replace d0 := kcell b4 d0
      replace d1 := kcell b4 d1
      replace d2 := kcell b4 d2
      replace d3 := kcell b4 d3
      replace r0 := kcell b4 r0
      replace r1 := kcell b4 r1
      replace r2 := kcell b4 r2
      replace r3 := kcell b4 r3
      replace f0 : ∀ j, W4.frozen? ⟨w.heap.size + 1, j, none⟩ = false := fun j => (b4.frozen (p := ⟨w.heap.size + 1, j, none⟩) (by show w.heap.size + 1 < _; omega)).trans (f0 j)
      have B4 := BD.trans (b4.mono BD.size)
      have hszd := hsz
      replace hsz := Nat.lt_of_lt_of_le hsz b4.size
      refine hK.out _ _ trivial (fun hHeld => ?_)
      clear hHeld hK K
      try simp only [Act.put, List.setIfInBounds_toArray, List.set_cons_zero, List.set_cons_succ]
      refine takeD (i := 5) (d := some 8) (v := ?_) _ rfl rfl (by kernel_rfl) (by kernel_rfl) (by kernel_rfl) (fun _ _ _ h => h) (Or.inl ⟨by rfl, ?_⟩) trivial ?_
      rotate_left
      · (intro W hSw; clear hSw; go_simp; try with_reducible rfl)
      try simp only [Act.put, List.setIfInBounds_toArray, List.set_cons_zero, List.set_cons_succ]
      refine wpAnyH_ready (rs := [6]) (by kernel_rfl) (by simp) ?_
      refine AllReadyH.cons rfl (fun K hK => ?_) AllReadyH.nil
      go_simp
      refine hK.out _ _ trivial (fun hHeld => ?_)
      clear hHeld hK K
      try simp only [Act.put, List.setIfInBounds_toArray, List.set_cons_zero, List.set_cons_succ]
      refine wpAnyH_done (by kernel_rfl) ?_ _
      have O8 : Hid (((((W4.setCell ⟨w.heap.size + 1, 0, none⟩ (.int .i64 x.k)).setCell ⟨w.heap.size + 1, 1, none⟩ (.int .i64 x.n)).setCell ⟨w.heap.size + 1, 2, none⟩ (.string x.s)).setCell ⟨w.heap.size + 1, 3, none⟩ (.slice A4 n4 c4)).ownsRow w.heap.size 91 2 (.slice A4 n4 c4) n4 (fl x.fs)) := own_base (ownsRow_setCell_below (ownsRow_setCell_below (ownsRow_setCell_below (ownsRow_setCell_below o4 (a := ⟨w.heap.size + 1, 0, none⟩) (by show w.heap.size + 1 < _; omega) _) (a := ⟨w.heap.size + 1, 1, none⟩) (by show w.heap.size + 1 < _; omega) _) (a := ⟨w.heap.size + 1, 2, none⟩) (by show w.heap.size + 1 < _; omega) _) (a := ⟨w.heap.size + 1, 3, none⟩) (by show w.heap.size + 1 < _; omega) _) (by omega)
      have B8 : Hid (Below w.heap.size w ((((W4.setCell ⟨w.heap.size + 1, 0, none⟩ (.int .i64 x.k)).setCell ⟨w.heap.size + 1, 1, none⟩ (.int .i64 x.n)).setCell ⟨w.heap.size + 1, 2, none⟩ (.string x.s)).setCell ⟨w.heap.size + 1, 3, none⟩ (.slice A4 n4 c4))) := (((B4.setCell (p := ⟨w.heap.size + 1, 0, none⟩) (by simp) _).setCell (p := ⟨w.heap.size + 1, 1, none⟩) (by simp) _).setCell (p := ⟨w.heap.size + 1, 2, none⟩) (by simp) _).setCell (p := ⟨w.heap.size + 1, 3, none⟩) (by simp) _
      clear o4 b4 B4 d0 d1 d2 d3
      go_wp2
      exact bodyPost_ret (v := .agg #[.int .i64 x.k, .int .i64 x.n, .string x.s, .slice A4 n4 c4]) (by simp [results, Try.results112, go_sem, r0, r1, r2, r3]) rfl ⟨_, _, _, rfl, O8.out, B8.out⟩
    · go_simp
      refine (l5Copy_any x.A x.m x.c x.fs _ hn (ha.below BD)).mono ?_; rintro e W4 ⟨A4, n4, c4, rfl, o4, b4⟩
      try go_wp2_with fail
      replace d0 := kcell b4 d0
      replace d1 := kcell b4 d1
      replace d2 := kcell b4 d2
      replace d3 := kcell b4 d3
      replace r0 := kcell b4 r0
      replace r1 := kcell b4 r1
      replace r2 := kcell b4 r2
      replace r3 := kcell b4 r3
      replace f0 : ∀ j, W4.frozen? ⟨w.heap.size + 1, j, none⟩ = false := fun j => (b4.frozen (p := ⟨w.heap.size + 1, j, none⟩) (by show w.heap.size + 1 < _; omega)).trans (f0 j)
      have B4 := BD.trans (b4.mono BD.size)
      have hszd := hsz
      replace hsz := Nat.lt_of_lt_of_le hsz b4.size
      refine hK.out _ _ trivial (fun hHeld => ?_)
      clear hHeld hK K
      try simp only [Act.put, List.setIfInBounds_toArray, List.set_cons_zero, List.set_cons_succ]
      refine wpAnyH_ready (rs := [1]) (by kernel_rfl) (by simp) ?_
      refine AllReadyH.cons rfl (fun K hK => ?_) AllReadyH.nil
      go_simp
      refine hK.out _ _ trivial (fun hHeld => ?_)
      clear hHeld hK K
      try simp only [Act.put, List.setIfInBounds_toArray, List.set_cons_zero, List.set_cons_succ]
      refine takeD (i := 5) (d := some 8) (v := ?_) _ rfl rfl (by kernel_rfl) (by kernel_rfl) (by kernel_rfl) (fun _ _ _ h => h) (Or.inl ⟨by rfl, ?_⟩) trivial ?_
      rotate_left
      · (intro W hSw; clear hSw; go_simp; try with_reducible rfl)
      try simp only [Act.put, List.setIfInBounds_toArray, List.set_cons_zero, List.set_cons_succ]
      refine wpAnyH_ready (rs := [6]) (by kernel_rfl) (by simp) ?_
      refine AllReadyH.cons rfl (fun K hK => ?_) AllReadyH.nil
      go_simp
      refine hK.out _ _ trivial (fun hHeld => ?_)
      clear hHeld hK K
      try simp only [Act.put, List.setIfInBounds_toArray, List.set_cons_zero, List.set_cons_succ]
      refine wpAnyH_done (by kernel_rfl) ?_ _
      have O8 : Hid (((((W4.setCell ⟨w.heap.size + 1, 0, none⟩ (.int .i64 x.k)).setCell ⟨w.heap.size + 1, 1, none⟩ (.int .i64 x.n)).setCell ⟨w.heap.size + 1, 2, none⟩ (.string x.s)).setCell ⟨w.heap.size + 1, 3, none⟩ (.slice A4 n4 c4)).ownsRow w.heap.size 91 2 (.slice A4 n4 c4) n4 (fl x.fs)) := own_base (ownsRow_setCell_below (ownsRow_setCell_below (ownsRow_setCell_below (ownsRow_setCell_below o4 (a := ⟨w.heap.size + 1, 0, none⟩) (by show w.heap.size + 1 < _; omega) _) (a := ⟨w.heap.size + 1, 1, none⟩) (by show w.heap.size + 1 < _; omega) _) (a := ⟨w.heap.size + 1, 2, none⟩) (by show w.heap.size + 1 < _; omega) _) (a := ⟨w.heap.size + 1, 3, none⟩) (by show w.heap.size + 1 < _; omega) _) (by omega)
      have B8 : Hid (Below w.heap.size w ((((W4.setCell ⟨w.heap.size + 1, 0, none⟩ (.int .i64 x.k)).setCell ⟨w.heap.size + 1, 1, none⟩ (.int .i64 x.n)).setCell ⟨w.heap.size + 1, 2, none⟩ (.string x.s)).setCell ⟨w.heap.size + 1, 3, none⟩ (.slice A4 n4 c4))) := (((B4.setCell (p := ⟨w.heap.size + 1, 0, none⟩) (by simp) _).setCell (p := ⟨w.heap.size + 1, 1, none⟩) (by simp) _).setCell (p := ⟨w.heap.size + 1, 2, none⟩) (by simp) _).setCell (p := ⟨w.heap.size + 1, 3, none⟩) (by simp) _
      clear o4 b4 B4 d0 d1 d2 d3
      go_wp2
      exact bodyPost_ret (v := .agg #[.int .i64 x.k, .int .i64 x.n, .string x.s, .slice A4 n4 c4]) (by simp [results, Try.results112, go_sem, r0, r1, r2, r3]) rfl ⟨_, _, _, rfl, O8.out, B8.out⟩
end Go.Proofs.Ytbbngihmjdndoaa
