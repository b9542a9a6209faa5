/-
  Proved: the contracts of the draws of three keys and of a text that may spell a key. Only what is needed of what is drawn is said. Conditions: the code reads as a list of at most 2^40 bytes.
  By an AI agent; no person has read it.
-/
import Derived.Test.YtnbhdijmbpdgoaaDoorDrawK
import Derived.Test.YtnbhdijmbpdgoaaDoorFmtK
namespace Go.Proofs.YtnbhdijmbpdgoaaDoor
open Go.RowKit
set_option linter.unusedSimpArgs false
set_option linter.unusedVariables false

theorem takeDK {P : Program} {ops : Array Oper} {Q : Exit → Act → World → Prop} {md : Region.Mode} {S : World → Prop} {i : Nat} {d : Option Tmp} {v : Value} {fuel : Nat} {listed : Array Bool} {a : Act} {w : World} (oi : Oper) (hi : ops[i]? = some oi) (hd : oi.dst = d)
    (hs : Region.noSelect ops = true) (hf : Region.free md ops listed i = true) (hr : (Region.ready md ops listed).contains i = true)
    (hQ : ∀ c a w, Q (.panic c) (a.put d v) w → Q (.panic c) a w) (hy : YieldsIf P ops S oi v a) (hS : S w)
    (h : wpAnyH P md ops Q S fuel (listed.setIfInBounds i true) (a.put d v) w) : wpAnyH P md ops Q S (fuel + 1) listed a w := by
  subst hd
  exact wpAnyH_take hi hs hf hr hQ hy hS h
theorem RB.put {W : World} {r : Nat} {x y z x' y' z' : Value} (h : RB W r x y z) : RB (((W.setCell ⟨r, 0, none⟩ x').setCell ⟨r, 1, none⟩ y').setCell ⟨r, 2, none⟩ z') r x' y' z' := by
  obtain ⟨⟨a0, a1, a2⟩, f0, f1, f2⟩ := h
  refine ⟨⟨?_, ?_, ?_⟩, ?_, ?_, ?_⟩ <;> simp [go_sem, a0, a1, a2, f0, f1, f2]
theorem RB.far {W : World} {b r : Nat} {x y z : Value} (h : RB W b x y z) (hne : r ≠ b) (x' y' z' : Value) : RB (((W.setCell ⟨r, 0, none⟩ x').setCell ⟨r, 1, none⟩ y').setCell ⟨r, 2, none⟩ z') b x y z := by
  have hb : ((((W.setCell ⟨r, 0, none⟩ x').setCell ⟨r, 1, none⟩ y').setCell ⟨r, 2, none⟩ z')).heap[b]? = W.heap[b]? := by
    rw [Below.heap_setCell _ _ _ _ (by show b ≠ r; omega), Below.heap_setCell _ _ _ _ (by show b ≠ r; omega), Below.heap_setCell _ _ _ _ (by show b ≠ r; omega)]
  have hc : ∀ o, ((((W.setCell ⟨r, 0, none⟩ x').setCell ⟨r, 1, none⟩ y').setCell ⟨r, 2, none⟩ z')).cell? ⟨b, o, none⟩ = W.cell? ⟨b, o, none⟩ := fun o => World.cell?_of_block hb
  have hf : ∀ o, ((((W.setCell ⟨r, 0, none⟩ x').setCell ⟨r, 1, none⟩ y').setCell ⟨r, 2, none⟩ z')).frozen? ⟨b, o, none⟩ = W.frozen? ⟨b, o, none⟩ := fun o => World.frozen?_of_block hb
  obtain ⟨⟨a0, a1, a2⟩, f0, f1, f2⟩ := h
  exact ⟨⟨(hc 0).trans a0, (hc 1).trans a1, (hc 2).trans a2⟩, (hf 0).trans f0, (hf 1).trans f1, (hf 2).trans f2⟩
theorem rb_of {W W1 : World} {b : Nat} {x y z : Value} (hb : Below W.heap.size W W1) (hlt : b < W.heap.size) (h : RB W b x y z) : RB W1 b x y z := by
  obtain ⟨⟨a0, a1, a2⟩, f0, f1, f2⟩ := h
  exact ⟨⟨(hb.cell (p := ⟨b, 0, none⟩) hlt).trans a0, (hb.cell (p := ⟨b, 1, none⟩) hlt).trans a1, (hb.cell (p := ⟨b, 2, none⟩) hlt).trans a2⟩, (hb.frozen (p := ⟨b, 0, none⟩) hlt).trans f0, (hb.frozen (p := ⟨b, 1, none⟩) hlt).trans f1, (hb.frozen (p := ⟨b, 2, none⟩) hlt).trans f2⟩
/-- A draw of three keys. -/
def D3K (w : World) (e : Ending) (w' : World) : Prop :=
  ∃ ka na sa kb nb sb kc nc sc, e = .returned (.tuple #[.agg #[.int .i64 ka, .int .i64 na, .string sa], .agg #[.int .i64 kb, .int .i64 nb, .string sb], .agg #[.int .i64 kc, .int .i64 nc, .string sc]]) ∧ (keyB ka na sa = true ∧ keyB kb nb sb = true ∧ keyB kc nc sc = true) ∧ Below w.heap.size w w'

set_option maxRecDepth 100000 in
set_option maxHeartbeats 20000000 in
theorem drawThreeKeys_any (A : Option Addr) (n c : Nat) (l : List UInt8) (w : World) (hn : n ≤ 1099511627776) (hr : Rd w 1 A n (l.map bv)) :
    Calls Tryd.prog 13 #[.slice A n c] w (D3K w) := by
  go_enter Tryd.func13, Tryd.ntmps13
  go_wp2_with fail
  refine (l1New_any A n c l _ hn (((hr.alloc _).alloc _).alloc _)).mono ?_
  rintro e w1 ⟨p, rfl, c1, b1, hp⟩
  have hp0 : w.heap.size + 3 ≤ p := by simp at hp; omega
  have hp1 := c1.lt
  have bel : Below w.heap.size w w1 := Below.trans (al (al (al (Below.refl _ _)))) (b1.mono (by simp; omega))
  have q0 : RB w1 w.heap.size (.int .i64 0) (.int .i64 0) (.string ⟨#[]⟩) := rb_of b1 (by simp; try omega) ⟨⟨by simp [go_sem], by simp [go_sem], by simp [go_sem]⟩, by simp [go_sem], by simp [go_sem], by simp [go_sem]⟩
  have q1 : RB w1 (w.heap.size + 1) (.int .i64 0) (.int .i64 0) (.string ⟨#[]⟩) := rb_of b1 (by simp; try omega) ⟨⟨by simp [go_sem], by simp [go_sem], by simp [go_sem]⟩, by simp [go_sem], by simp [go_sem], by simp [go_sem]⟩
  have q2 : RB w1 (w.heap.size + 1 + 1) (.int .i64 0) (.int .i64 0) (.string ⟨#[]⟩) := rb_of b1 (by simp; try omega) ⟨⟨by simp [go_sem], by simp [go_sem], by simp [go_sem]⟩, by simp [go_sem], by simp [go_sem], by simp [go_sem]⟩
  clear b1 hp
  go_wp2_with fail
  refine (l4Key_any p _ c1).mono ?_
  rintro e w2 ⟨ka, na, sa, rfl, hka, c2, g2⟩
  have hz2 := g2.size
  replace bel := below_only bel g2 bel.size (by omega)
  replace q0 := q0.grown g2 (by omega)
  replace q1 := q1.grown g2 (by omega)
  replace q2 := q2.grown g2 (by omega)
  have q6 := RB.new w2 (.int .i64 ka) (.int .i64 na) (.string sa) 23
  clear g2 c1
  go_wp2_with fail
  refine (l4Key_any p _ (c2.below (al' _))).mono ?_
  rintro e w3 ⟨kb, nb, sb, rfl, hkb, c3, g3⟩
  have hz3 : w2.heap.size + 1 ≤ w3.heap.size := by have := g3.size; simpa using this
  replace bel := below_only (bel.alloc bel.size _) g3 (by have := bel.size; simp; omega) (by omega)
  replace q0 := (q0.alloc _).grown g3 (by omega)
  replace q1 := (q1.alloc _).grown g3 (by omega)
  replace q2 := (q2.alloc _).grown g3 (by omega)
  replace q6 := q6.grown g3 (by omega)
  have q7 := RB.new w3 (.int .i64 kb) (.int .i64 nb) (.string sb) 23
  replace q0 := q0.alloc (.cells #[.int .i64 kb, .int .i64 nb, .string sb] 23)
  replace q1 := q1.alloc (.cells #[.int .i64 kb, .int .i64 nb, .string sb] 23)
  replace q2 := q2.alloc (.cells #[.int .i64 kb, .int .i64 nb, .string sb] 23)
  replace q6 := q6.alloc (.cells #[.int .i64 kb, .int .i64 nb, .string sb] 23)
  replace bel := bel.alloc bel.size (.cells #[.int .i64 kb, .int .i64 nb, .string sb] 23)
  have hcr := c3.below (al' (.cells #[.int .i64 kb, .int .i64 nb, .string sb] 23))
  clear g3 c2 c3
  go_wp2
  obtain ⟨G6, hG6⟩ : ∃ g, g = w2.heap.size := ⟨_, rfl⟩
  obtain ⟨G7, hG7⟩ : ∃ g, g = w3.heap.size := ⟨_, rfl⟩
  obtain ⟨V, hV⟩ : ∃ V, V = w3.alloc (.cells #[.int .i64 kb, .int .i64 nb, .string sb] 23) := ⟨_, rfl⟩
  rw [← hV] at q0 q1 q2 q6 q7 bel hcr ⊢
  rw [← hG6] at q6 ⊢
  rw [← hG7] at q7 ⊢
  have hG : p < G6 ∧ G6 < G7 ∧ w.heap.size + 3 ≤ G6 := by omega
  clear hV hG6 hG7 hz2 hz3 hp1
  refine wp_region_held_drew (S := fun W => RB W G6 (.int .i64 ka) (.int .i64 na) (.string sa) ∧ RB W G7 (.int .i64 kb) (.int .i64 nb) (.string sb)) (by kernel_rfl) ?_ (fun hHeld => ?_)
  · exact ⟨q6, q7⟩
  replace q0 := (show RB V.drew _ _ _ _ from q0)
  replace q1 := (show RB V.drew _ _ _ _ from q1)
  replace q2 := (show RB V.drew _ _ _ _ from q2)
  replace bel := (show Below w.heap.size w V.drew from bel.drew)
  replace hcr := (show Cur V.drew p from hcr)
  replace hHeld := (show (fun W => RB W G6 (.int .i64 ka) (.int .i64 na) (.string sa) ∧ RB W G7 (.int .i64 kb) (.int .i64 nb) (.string sb)) V.drew from hHeld)
  clear q6 q7
  generalize V.drew = wd at q0 q1 q2 bel hcr hHeld ⊢
  refine takeDK (i := 0) (d := some 14) (v := ?_) _ rfl rfl (by kernel_rfl) (by kernel_rfl) (by kernel_rfl) (fun _ _ _ h => h) (Or.inl ⟨by rfl, ?_⟩) hHeld ?_
  rotate_left
  · (intro W hSw; obtain ⟨⟨⟨ha0, ha1, ha2⟩, -⟩, ⟨⟨hb0, hb1, hb2⟩, -⟩⟩ := hSw; go_simp; try with_reducible rfl)
  try simp only [Act.put, List.setIfInBounds_toArray, List.set_cons_zero, List.set_cons_succ]
  refine takeDK (i := 1) (d := some 15) (v := ?_) _ rfl rfl (by kernel_rfl) (by kernel_rfl) (by kernel_rfl) (fun _ _ _ h => h) (Or.inl ⟨by rfl, ?_⟩) hHeld ?_
  rotate_left
  · (intro W hSw; obtain ⟨⟨⟨ha0, ha1, ha2⟩, -⟩, ⟨⟨hb0, hb1, hb2⟩, -⟩⟩ := hSw; go_simp; try with_reducible rfl)
  try simp only [Act.put, List.setIfInBounds_toArray, List.set_cons_zero, List.set_cons_succ]
  refine takeDK (i := 2) (d := some 16) (v := ?_) _ rfl rfl (by kernel_rfl) (by kernel_rfl) (by kernel_rfl) (fun _ _ _ h => h) (Or.inl ⟨by rfl, ?_⟩) hHeld ?_
  rotate_left
  · (intro W hSw; obtain ⟨⟨⟨ha0, ha1, ha2⟩, -⟩, ⟨⟨hb0, hb1, hb2⟩, -⟩⟩ := hSw; go_simp; try with_reducible rfl)
  try simp only [Act.put, List.setIfInBounds_toArray, List.set_cons_zero, List.set_cons_succ]
  refine wpAnyH_ready (rs := [3]) (by kernel_rfl) (by simp) ?_
  refine AllReadyH.cons rfl (fun K hK => ?_) AllReadyH.nil
  go_simp
  refine (l4Key_any p _ hcr).mono ?_
  rintro e Wc ⟨kc, nc, sc, rfl, hkc, cq, gq⟩
  try go_wp2_with fail
  replace q0 := q0.grown gq (by omega)
  replace q1 := q1.grown gq (by omega)
  replace q2 := q2.grown gq (by omega)
  have hcr := cq
  have bel := below_only bel gq bel.size (by omega)
  have hSc : (fun W => RB W G6 (.int .i64 ka) (.int .i64 na) (.string sa) ∧ RB W G7 (.int .i64 kb) (.int .i64 nb) (.string sb)) Wc := ⟨hHeld.1.grown gq (by omega), hHeld.2.grown gq (by omega)⟩
  clear gq cq
  refine hK.out _ _ hSc (fun _ => ?_)
  clear hK K
  try simp only [Act.put, List.setIfInBounds_toArray, List.set_cons_zero, List.set_cons_succ]
  refine wpAnyH_ready (rs := [4]) (by kernel_rfl) (by simp) ?_
  refine AllReadyH.cons rfl (fun K hK => ?_) AllReadyH.nil
  obtain ⟨⟨d0, d1, d2⟩, f0, f1, f2⟩ := q0
  go_simp
  have q0 : RB (((Wc.setCell ⟨w.heap.size, 0, none⟩ (.int .i64 ka)).setCell ⟨w.heap.size, 1, none⟩ (.int .i64 na)).setCell ⟨w.heap.size, 2, none⟩ (.string sa)) (w.heap.size) (.int .i64 ka) (.int .i64 na) (.string sa) := RB.put ⟨⟨d0, d1, d2⟩, f0, f1, f2⟩
  clear d0 d1 d2 f0 f1 f2
  replace q1 := q1.far (r := w.heap.size) (by omega) (.int .i64 ka) (.int .i64 na) (.string sa)
  replace q2 := q2.far (r := w.heap.size) (by omega) (.int .i64 ka) (.int .i64 na) (.string sa)
  have hS4 : (fun W => RB W G6 (.int .i64 ka) (.int .i64 na) (.string sa) ∧ RB W G7 (.int .i64 kb) (.int .i64 nb) (.string sb)) (((Wc.setCell ⟨w.heap.size, 0, none⟩ (.int .i64 ka)).setCell ⟨w.heap.size, 1, none⟩ (.int .i64 na)).setCell ⟨w.heap.size, 2, none⟩ (.string sa)) := ⟨hSc.1.far (r := w.heap.size) (by omega) _ _ _, hSc.2.far (r := w.heap.size) (by omega) _ _ _⟩
  have bel := ((bel.setCell (p := ⟨w.heap.size, 0, none⟩) (by show w.heap.size ≤ w.heap.size; omega) (.int .i64 ka)).setCell (p := ⟨w.heap.size, 1, none⟩) (by show w.heap.size ≤ w.heap.size; omega) (.int .i64 na)).setCell (p := ⟨w.heap.size, 2, none⟩) (by show w.heap.size ≤ w.heap.size; omega) (.string sa)
  refine hK.out _ _ hS4 (fun _ => ?_)
  clear hK K
  try simp only [Act.put, List.setIfInBounds_toArray, List.set_cons_zero, List.set_cons_succ]
  generalize hZ : (((Wc.setCell ⟨w.heap.size, 0, none⟩ (.int .i64 ka)).setCell ⟨w.heap.size, 1, none⟩ (.int .i64 na)).setCell ⟨w.heap.size, 2, none⟩ (.string sa)) = X4 at q0 q1 q2 bel hS4 ⊢
  clear hZ
  refine wpAnyH_ready (rs := [5]) (by kernel_rfl) (by simp) ?_
  refine AllReadyH.cons rfl (fun K hK => ?_) AllReadyH.nil
  obtain ⟨⟨d0, d1, d2⟩, f0, f1, f2⟩ := q1
  go_simp
  have q1 : RB (((X4.setCell ⟨w.heap.size + 1, 0, none⟩ (.int .i64 kb)).setCell ⟨w.heap.size + 1, 1, none⟩ (.int .i64 nb)).setCell ⟨w.heap.size + 1, 2, none⟩ (.string sb)) (w.heap.size + 1) (.int .i64 kb) (.int .i64 nb) (.string sb) := RB.put ⟨⟨d0, d1, d2⟩, f0, f1, f2⟩
  clear d0 d1 d2 f0 f1 f2
  replace q0 := q0.far (r := w.heap.size + 1) (by omega) (.int .i64 kb) (.int .i64 nb) (.string sb)
  replace q2 := q2.far (r := w.heap.size + 1) (by omega) (.int .i64 kb) (.int .i64 nb) (.string sb)
  have hS5 : (fun W => RB W G6 (.int .i64 ka) (.int .i64 na) (.string sa) ∧ RB W G7 (.int .i64 kb) (.int .i64 nb) (.string sb)) (((X4.setCell ⟨w.heap.size + 1, 0, none⟩ (.int .i64 kb)).setCell ⟨w.heap.size + 1, 1, none⟩ (.int .i64 nb)).setCell ⟨w.heap.size + 1, 2, none⟩ (.string sb)) := ⟨hS4.1.far (r := w.heap.size + 1) (by omega) _ _ _, hS4.2.far (r := w.heap.size + 1) (by omega) _ _ _⟩
  have bel := ((bel.setCell (p := ⟨w.heap.size + 1, 0, none⟩) (by show w.heap.size ≤ w.heap.size + 1; omega) (.int .i64 kb)).setCell (p := ⟨w.heap.size + 1, 1, none⟩) (by show w.heap.size ≤ w.heap.size + 1; omega) (.int .i64 nb)).setCell (p := ⟨w.heap.size + 1, 2, none⟩) (by show w.heap.size ≤ w.heap.size + 1; omega) (.string sb)
  refine hK.out _ _ hS5 (fun _ => ?_)
  clear hK K
  try simp only [Act.put, List.setIfInBounds_toArray, List.set_cons_zero, List.set_cons_succ]
  generalize hZ : (((X4.setCell ⟨w.heap.size + 1, 0, none⟩ (.int .i64 kb)).setCell ⟨w.heap.size + 1, 1, none⟩ (.int .i64 nb)).setCell ⟨w.heap.size + 1, 2, none⟩ (.string sb)) = X5 at q0 q1 q2 bel hS5 ⊢
  clear hZ
  refine wpAnyH_ready (rs := [6]) (by kernel_rfl) (by simp) ?_
  refine AllReadyH.cons rfl (fun K hK => ?_) AllReadyH.nil
  obtain ⟨⟨d0, d1, d2⟩, f0, f1, f2⟩ := q2
  go_simp
  have q2 : RB (((X5.setCell ⟨w.heap.size + 1 + 1, 0, none⟩ (.int .i64 kc)).setCell ⟨w.heap.size + 1 + 1, 1, none⟩ (.int .i64 nc)).setCell ⟨w.heap.size + 1 + 1, 2, none⟩ (.string sc)) (w.heap.size + 1 + 1) (.int .i64 kc) (.int .i64 nc) (.string sc) := RB.put ⟨⟨d0, d1, d2⟩, f0, f1, f2⟩
  clear d0 d1 d2 f0 f1 f2
  replace q0 := q0.far (r := w.heap.size + 1 + 1) (by omega) (.int .i64 kc) (.int .i64 nc) (.string sc)
  replace q1 := q1.far (r := w.heap.size + 1 + 1) (by omega) (.int .i64 kc) (.int .i64 nc) (.string sc)
  have hS6 : (fun W => RB W G6 (.int .i64 ka) (.int .i64 na) (.string sa) ∧ RB W G7 (.int .i64 kb) (.int .i64 nb) (.string sb)) (((X5.setCell ⟨w.heap.size + 1 + 1, 0, none⟩ (.int .i64 kc)).setCell ⟨w.heap.size + 1 + 1, 1, none⟩ (.int .i64 nc)).setCell ⟨w.heap.size + 1 + 1, 2, none⟩ (.string sc)) := ⟨hS5.1.far (r := w.heap.size + 1 + 1) (by omega) _ _ _, hS5.2.far (r := w.heap.size + 1 + 1) (by omega) _ _ _⟩
  have bel := ((bel.setCell (p := ⟨w.heap.size + 1 + 1, 0, none⟩) (by show w.heap.size ≤ w.heap.size + 1 + 1; omega) (.int .i64 kc)).setCell (p := ⟨w.heap.size + 1 + 1, 1, none⟩) (by show w.heap.size ≤ w.heap.size + 1 + 1; omega) (.int .i64 nc)).setCell (p := ⟨w.heap.size + 1 + 1, 2, none⟩) (by show w.heap.size ≤ w.heap.size + 1 + 1; omega) (.string sc)
  refine hK.out _ _ hS6 (fun _ => ?_)
  clear hK K
  try simp only [Act.put, List.setIfInBounds_toArray, List.set_cons_zero, List.set_cons_succ]
  generalize hZ : (((X5.setCell ⟨w.heap.size + 1 + 1, 0, none⟩ (.int .i64 kc)).setCell ⟨w.heap.size + 1 + 1, 1, none⟩ (.int .i64 nc)).setCell ⟨w.heap.size + 1 + 1, 2, none⟩ (.string sc)) = X6 at q0 q1 q2 bel hS6 ⊢
  clear hZ
  refine wpAnyH_done (by kernel_rfl) ?_ _
  obtain ⟨⟨d0, d1, d2⟩, -⟩ := q0
  obtain ⟨⟨d3, d4, d5⟩, -⟩ := q1
  obtain ⟨⟨d6, d7, d8⟩, -⟩ := q2
  have HB := Lib.hid bel
  clear bel
  obtain ⟨X, hX⟩ : ∃ X, X = X6 := ⟨_, rfl⟩
  rw [← hX] at d0 d1 d2 d3 d4 d5 d6 d7 d8 HB ⊢
  clear hX
  go_wp2
  exact bodyPost_ret (v := .tuple #[.agg #[.int .i64 ka, .int .i64 na, .string sa], .agg #[.int .i64 kb, .int .i64 nb, .string sb], .agg #[.int .i64 kc, .int .i64 nc, .string sc]]) (by simp [results, Tryd.results13, go_sem, d0, d1, d2, d3, d4, d5, d6, d7, d8]) rfl ⟨_, _, _, _, _, _, _, _, _, rfl, ⟨hka, hkb, hkc⟩, HB.out⟩

theorem fmtK_size (k n : Int) (s : ByteArray) (hn : -1000000000001 ≤ n ∧ n ≤ 1000000000001) (hs : s.size ≤ 13) : (fmtK k n s).size ≤ 40 := by
  have hi := itoa_size n (by omega)
  have e39 : (⟨#[39]⟩ : ByteArray).size = 1 := rfl
  have e0 : (⟨#[]⟩ : ByteArray).size = 0 := rfl
  unfold fmtK
  split
  · omega
  · split
    · omega
    · split
      · rw [catD_size]; omega
      · rw [catD_size, catD_size]; omega
def pTexts : List ByteArray := [⟨#[]⟩, ⟨#[39]⟩, ⟨#[48, 53]⟩, ⟨#[45, 48]⟩, ⟨#[53, 39]⟩, ⟨#[53, 39, 65]⟩, ⟨#[39, 39]⟩, ⟨#[45, 53, 39, 120]⟩, ⟨#[49, 48, 48, 48, 48, 48, 48, 48, 48, 48, 48, 48, 49]⟩, ⟨#[45]⟩, ⟨#[39, 97, 98, 99, 100, 101, 102, 103, 104, 105, 106, 107, 108, 109]⟩, ⟨#[53, 39, 97, 39, 98]⟩]
theorem pTexts_ok : ∀ s ∈ pTexts, s.size ≤ 40 := by decide
set_option maxRecDepth 100000 in
set_option maxHeartbeats 4000000 in
theorem drawParseKey_any (A : Option Addr) (n c : Nat) (l : List UInt8) (w : World) (hn : n ≤ 1099511627776) (hr : Rd w 1 A n (l.map bv)) :
    Calls Tryd.prog 19 #[.slice A n c] w fun e w' => ∃ s, e = .returned (.string s) ∧ s.size ≤ 40 ∧ Below w.heap.size w w' := by
  go_enter Tryd.func19, Tryd.ntmps19
  go_wp2_with fail
  refine (l1New_any A n c l _ hn hr).mono ?_
  rintro e w1 ⟨p, rfl, c1, b1, hp⟩
  go_wp2_with fail
  refine (l1Once_any p 3 _ (by omega) (by omega) c1).mono ?_
  rintro e w2 ⟨x, rfl, c2, g2⟩
  have B2 := below_only b1 g2 b1.size hp
  have hp2 := c2.lt
  clear g2 c1 b1
  cases x
  · go_wp2_with fail
    refine (l4Any_any p _ c2).mono ?_
    rintro e w3 ⟨k, nn, s, rfl, hk, c3, g3⟩
    have B3 := below_only B2 g3 B2.size hp
    unfold anyK at hk
    have hsz := fmtK_size k nn s hk.2.1 hk.2.2
    have HS := Lib.hid hsz
    clear g3 c2 hsz
    go_wp2_with fail
    refine (specFormatKey_any k nn s _ (by unfold maxLen; omega)).mono ?_
    rintro e w4 ⟨rfl, b4⟩
    have B4 := B3.trans (b4.mono B3.size)
    clear b4
    go_wp2
    go_ret
    exact ⟨_, rfl, HS.out, B4⟩
  · go_wp2_with fail
    refine (l1Str_any p _ 12 12 pTexts _ (by decide) (by decide) (rd_lit w2 _ _) (lit_ne hp2) (c2.below (al' _))).mono ?_
    rintro e w3 ⟨s, rfl, hs, c3, g3⟩
    have B3 := below_only (B2.alloc B2.size _) g3 (by have := B2.size; simp; omega) hp
    have hs2 := pTexts_ok s hs
    clear g3 hs
    go_wp2
    go_ret
    exact ⟨_, rfl, hs2, B3⟩
end Go.Proofs.YtnbhdijmbpdgoaaDoor
