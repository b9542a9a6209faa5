/-
  Proved: the law FnExactDeleteItems answers true for every input and changes nothing that was there: the program's DeleteItems returns what the reference's DeleteItems returns. Conditions: none beyond those of the row.
  By an AI agent; no person has read it.
-/
import Derived.Test.YtbbngihmjdndoaaLaw
import Derived.Test.YtbbngihmjdndoaaItD
import Derived.Test.YtbbngihmjdndoaaOpenS
import Derived.Test.YtbbngihmjdndoaaOpenK
import Derived.Test.YtbbngihmjdndoaaKeyL
import Derived.Test.YtbbngihmjdndoaaStep
namespace Go.Proofs.Ytbbngihmjdndoaa.fnExactDeleteItems
open Go.ChangeShapes Go.WideShapes Go.ChangeAt Go.RowKit
open Go.ChangeMaps (open_string)
set_option linter.unusedVariables false
theorem sz11 {w0 W W1 : World} {B : Nat} {p0 p1 p2 p3 p4 p5 p6 p7 p8 p9 p10 : Addr} {x0 x1 x2 x3 x4 x5 x6 x7 x8 x9 x10 : Value} (h : Below w0.heap.size w0 W ∧ W.cell? p0 = some x0 ∧ W.cell? p1 = some x1 ∧ W.cell? p2 = some x2 ∧ W.cell? p3 = some x3 ∧ W.cell? p4 = some x4 ∧ W.cell? p5 = some x5 ∧ W.cell? p6 = some x6 ∧ W.cell? p7 = some x7 ∧ W.cell? p8 = some x8 ∧ W.cell? p9 = some x9 ∧ W.cell? p10 = some x10) (hb0 : Below B W W1) (e : B = W.heap.size) : Below w0.heap.size w0 W1 ∧ W1.cell? p0 = some x0 ∧ W1.cell? p1 = some x1 ∧ W1.cell? p2 = some x2 ∧ W1.cell? p3 = some x3 ∧ W1.cell? p4 = some x4 ∧ W1.cell? p5 = some x5 ∧ W1.cell? p6 = some x6 ∧ W1.cell? p7 = some x7 ∧ W1.cell? p8 = some x8 ∧ W1.cell? p9 = some x9 ∧ W1.cell? p10 = some x10 := by
  subst e
  obtain ⟨h, h0, h1, h2, h3, h4, h5, h6, h7, h8, h9, h10⟩ := h
  exact ⟨h.trans (hb0.mono h.size), (hb0.cell (World.block_lt_of_cell? W _ h0)).trans h0, (hb0.cell (World.block_lt_of_cell? W _ h1)).trans h1, (hb0.cell (World.block_lt_of_cell? W _ h2)).trans h2, (hb0.cell (World.block_lt_of_cell? W _ h3)).trans h3, (hb0.cell (World.block_lt_of_cell? W _ h4)).trans h4, (hb0.cell (World.block_lt_of_cell? W _ h5)).trans h5, (hb0.cell (World.block_lt_of_cell? W _ h6)).trans h6, (hb0.cell (World.block_lt_of_cell? W _ h7)).trans h7, (hb0.cell (World.block_lt_of_cell? W _ h8)).trans h8, (hb0.cell (World.block_lt_of_cell? W _ h9)).trans h9, (hb0.cell (World.block_lt_of_cell? W _ h10)).trans h10⟩
theorem sz14 {w0 W W1 : World} {B : Nat} {p0 p1 p2 p3 p4 p5 p6 p7 p8 p9 p10 p11 p12 p13 : Addr} {x0 x1 x2 x3 x4 x5 x6 x7 x8 x9 x10 x11 x12 x13 : Value} (h : Below w0.heap.size w0 W ∧ W.cell? p0 = some x0 ∧ W.cell? p1 = some x1 ∧ W.cell? p2 = some x2 ∧ W.cell? p3 = some x3 ∧ W.cell? p4 = some x4 ∧ W.cell? p5 = some x5 ∧ W.cell? p6 = some x6 ∧ W.cell? p7 = some x7 ∧ W.cell? p8 = some x8 ∧ W.cell? p9 = some x9 ∧ W.cell? p10 = some x10 ∧ W.cell? p11 = some x11 ∧ W.cell? p12 = some x12 ∧ W.cell? p13 = some x13) (hb0 : Below B W W1) (e : B = W.heap.size) : Below w0.heap.size w0 W1 ∧ W1.cell? p0 = some x0 ∧ W1.cell? p1 = some x1 ∧ W1.cell? p2 = some x2 ∧ W1.cell? p3 = some x3 ∧ W1.cell? p4 = some x4 ∧ W1.cell? p5 = some x5 ∧ W1.cell? p6 = some x6 ∧ W1.cell? p7 = some x7 ∧ W1.cell? p8 = some x8 ∧ W1.cell? p9 = some x9 ∧ W1.cell? p10 = some x10 ∧ W1.cell? p11 = some x11 ∧ W1.cell? p12 = some x12 ∧ W1.cell? p13 = some x13 := by
  subst e
  obtain ⟨h, h0, h1, h2, h3, h4, h5, h6, h7, h8, h9, h10, h11, h12, h13⟩ := h
  exact ⟨h.trans (hb0.mono h.size), (hb0.cell (World.block_lt_of_cell? W _ h0)).trans h0, (hb0.cell (World.block_lt_of_cell? W _ h1)).trans h1, (hb0.cell (World.block_lt_of_cell? W _ h2)).trans h2, (hb0.cell (World.block_lt_of_cell? W _ h3)).trans h3, (hb0.cell (World.block_lt_of_cell? W _ h4)).trans h4, (hb0.cell (World.block_lt_of_cell? W _ h5)).trans h5, (hb0.cell (World.block_lt_of_cell? W _ h6)).trans h6, (hb0.cell (World.block_lt_of_cell? W _ h7)).trans h7, (hb0.cell (World.block_lt_of_cell? W _ h8)).trans h8, (hb0.cell (World.block_lt_of_cell? W _ h9)).trans h9, (hb0.cell (World.block_lt_of_cell? W _ h10)).trans h10, (hb0.cell (World.block_lt_of_cell? W _ h11)).trans h11, (hb0.cell (World.block_lt_of_cell? W _ h12)).trans h12, (hb0.cell (World.block_lt_of_cell? W _ h13)).trans h13⟩
theorem szB11 {w0 W W1 : World} {p0 p1 p2 p3 p4 p5 p6 p7 p8 p9 p10 : Addr} {x0 x1 x2 x3 x4 x5 x6 x7 x8 x9 x10 : Value} (h : Below w0.heap.size w0 W ∧ W.cell? p0 = some x0 ∧ W.cell? p1 = some x1 ∧ W.cell? p2 = some x2 ∧ W.cell? p3 = some x3 ∧ W.cell? p4 = some x4 ∧ W.cell? p5 = some x5 ∧ W.cell? p6 = some x6 ∧ W.cell? p7 = some x7 ∧ W.cell? p8 = some x8 ∧ W.cell? p9 = some x9 ∧ W.cell? p10 = some x10) (hb : Below w0.heap.size W W1) (l0 : p0.block < w0.heap.size) (l1 : p1.block < w0.heap.size) (l2 : p2.block < w0.heap.size) (l3 : p3.block < w0.heap.size) (l4 : p4.block < w0.heap.size) (l5 : p5.block < w0.heap.size) (l6 : p6.block < w0.heap.size) (l7 : p7.block < w0.heap.size) (l8 : p8.block < w0.heap.size) (l9 : p9.block < w0.heap.size) (l10 : p10.block < w0.heap.size) : Below w0.heap.size w0 W1 ∧ W1.cell? p0 = some x0 ∧ W1.cell? p1 = some x1 ∧ W1.cell? p2 = some x2 ∧ W1.cell? p3 = some x3 ∧ W1.cell? p4 = some x4 ∧ W1.cell? p5 = some x5 ∧ W1.cell? p6 = some x6 ∧ W1.cell? p7 = some x7 ∧ W1.cell? p8 = some x8 ∧ W1.cell? p9 = some x9 ∧ W1.cell? p10 = some x10 := by
  obtain ⟨h, h0, h1, h2, h3, h4, h5, h6, h7, h8, h9, h10⟩ := h
  exact ⟨h.trans hb, (hb.cell l0).trans h0, (hb.cell l1).trans h1, (hb.cell l2).trans h2, (hb.cell l3).trans h3, (hb.cell l4).trans h4, (hb.cell l5).trans h5, (hb.cell l6).trans h6, (hb.cell l7).trans h7, (hb.cell l8).trans h8, (hb.cell l9).trans h9, (hb.cell l10).trans h10⟩
theorem szB14 {w0 W W1 : World} {p0 p1 p2 p3 p4 p5 p6 p7 p8 p9 p10 p11 p12 p13 : Addr} {x0 x1 x2 x3 x4 x5 x6 x7 x8 x9 x10 x11 x12 x13 : Value} (h : Below w0.heap.size w0 W ∧ W.cell? p0 = some x0 ∧ W.cell? p1 = some x1 ∧ W.cell? p2 = some x2 ∧ W.cell? p3 = some x3 ∧ W.cell? p4 = some x4 ∧ W.cell? p5 = some x5 ∧ W.cell? p6 = some x6 ∧ W.cell? p7 = some x7 ∧ W.cell? p8 = some x8 ∧ W.cell? p9 = some x9 ∧ W.cell? p10 = some x10 ∧ W.cell? p11 = some x11 ∧ W.cell? p12 = some x12 ∧ W.cell? p13 = some x13) (hb : Below w0.heap.size W W1) (l0 : p0.block < w0.heap.size) (l1 : p1.block < w0.heap.size) (l2 : p2.block < w0.heap.size) (l3 : p3.block < w0.heap.size) (l4 : p4.block < w0.heap.size) (l5 : p5.block < w0.heap.size) (l6 : p6.block < w0.heap.size) (l7 : p7.block < w0.heap.size) (l8 : p8.block < w0.heap.size) (l9 : p9.block < w0.heap.size) (l10 : p10.block < w0.heap.size) (l11 : p11.block < w0.heap.size) (l12 : p12.block < w0.heap.size) (l13 : p13.block < w0.heap.size) : Below w0.heap.size w0 W1 ∧ W1.cell? p0 = some x0 ∧ W1.cell? p1 = some x1 ∧ W1.cell? p2 = some x2 ∧ W1.cell? p3 = some x3 ∧ W1.cell? p4 = some x4 ∧ W1.cell? p5 = some x5 ∧ W1.cell? p6 = some x6 ∧ W1.cell? p7 = some x7 ∧ W1.cell? p8 = some x8 ∧ W1.cell? p9 = some x9 ∧ W1.cell? p10 = some x10 ∧ W1.cell? p11 = some x11 ∧ W1.cell? p12 = some x12 ∧ W1.cell? p13 = some x13 := by
  obtain ⟨h, h0, h1, h2, h3, h4, h5, h6, h7, h8, h9, h10, h11, h12, h13⟩ := h
  exact ⟨h.trans hb, (hb.cell l0).trans h0, (hb.cell l1).trans h1, (hb.cell l2).trans h2, (hb.cell l3).trans h3, (hb.cell l4).trans h4, (hb.cell l5).trans h5, (hb.cell l6).trans h6, (hb.cell l7).trans h7, (hb.cell l8).trans h8, (hb.cell l9).trans h9, (hb.cell l10).trans h10, (hb.cell l11).trans h11, (hb.cell l12).trans h12, (hb.cell l13).trans h13⟩
theorem strs_of {l m : List Itm} (e : m.map Itm.l = l.map Itm.l) (h : ∀ x ∈ l.map Itm.l, x.2.2.1.size ≤ maxLen) : ∀ x ∈ m, x.s.size ≤ maxLen := fun x hx => h x.l (by rw [← e]; exact List.mem_map.2 ⟨x, hx, rfl⟩)
theorem sumL_filter (p : LIt → Bool) (l : List LIt) : sumL (l.filter p) ≤ sumL l := by
  induction l with
  | nil => simp
  | cons x l ih =>
    have e : sumL (x :: l) = sizeL x + sumL l := rfl
    rw [List.filter_cons, e]
    split
    · have e2 : sumL (x :: l.filter p) = sizeL x + sumL (l.filter p) := rfl
      omega
    · omega
theorem okI_del {p : LIt → Bool} {s : ByteArray} {u : Int} {L : List LIt} (h : okI L) : okI (delL p s u L) := by
  unfold delL
  split
  · exact fun x hx => h x (List.mem_filter.1 hx).1
  · exact h
theorem len_del (p : LIt → Bool) (s : ByteArray) (u : Int) (L : List LIt) : (delL p s u L).length ≤ L.length := by
  unfold delL
  split
  · exact List.length_filter_le _ _
  · exact Nat.le_refl _
theorem sum_del (p : LIt → Bool) (s : ByteArray) (u : Int) (L : List LIt) : sumL (delL p s u L) ≤ sumL L := by
  unfold delL
  split
  · exact sumL_filter _ _
  · exact Nat.le_refl _

set_option maxRecDepth 100000 in
set_option maxHeartbeats 4000000 in
theorem walk (w : World) (s0 : ByteArray) (A0 : Option Addr) (n0 c0 : Nat) (u0 : Int) (l0 : List Itm) (h0 : RdI w A0 n0 l0) (m0 : n0 ≤ maxLen) (o0 : okI (l0.map Itm.l)) (q0 : s0.size ≤ maxLen) (ru0 : i64R' u0) (ha1 hb1 : Bool) (k1 n1 : Int) (s1 : ByteArray) (k1_ n1_ : Int) (s1_ : ByteArray) (m1 : s1.size ≤ maxLen) (rk1 : -9223372036854775808 ≤ k1 ∧ k1 ≤ 9223372036854775807) (rn1 : -9223372036854775808 ≤ n1 ∧ n1 ≤ 9223372036854775807) (m1_ : s1_.size ≤ maxLen) (rk1_ : -9223372036854775808 ≤ k1_ ∧ k1_ ≤ 9223372036854775807) (rn1_ : -9223372036854775808 ≤ n1_ ∧ n1_ ≤ 9223372036854775807) :
    Calls Try.prog 17 #[.agg #[.string s0, .slice A0 n0 c0, .int .i64 u0], .agg #[.bool ha1, .bool hb1, .int .i64 k1, .int .i64 n1, .string s1, .int .i64 k1_, .int .i64 n1_, .string s1_]] w fun e w' => e = .returned (.bool true) ∧ Below w.heap.size w w' := by
  unfold maxLen at m0 q0 m1 m1_
  by_cases hb0 : (1048576 : Int) < (s0.size : Int) + n0 + sumL (l0.map Itm.l)
  · go_enter Try.func17, Try.ntmps17
    go_wp2_with fail
    refine (szStore_big s0 A0 n0 c0 u0 l0 (1048576) _ q0 m0 (by omega) (by omega) ((h0.alloc _).alloc _) o0 hb0).mono ?_
    rintro e w1 ⟨rfl, b1⟩
    go_wp2
    go_ret
    exact ⟨rfl, Below.trans (al (al (Below.refl _ _))) (b1.mono (by simp; omega))⟩
  have hs0 : (s0.size : Int) + n0 + sumL (l0.map Itm.l) ≤ 1048576 := by omega
  clear hb0
  by_cases hq1 : (1048576 - s0.size - n0 - sumL (l0.map Itm.l) : Int) < s1.size
  · go_enter Try.func17, Try.ntmps17
    go_wp2_with fail
    refine (szStore_ok s0 A0 n0 c0 u0 l0 (1048576) _ q0 m0 (by omega) (by omega) ((h0.alloc _).alloc _) o0 hs0).mono ?_
    rintro e w1 ⟨rfl, b1⟩
    have B1 : Below w.heap.size w w1 := Below.trans (al (al (Below.refl _ _))) (b1.mono (by simp; omega))
    have d00 : w1.cell? ⟨w.heap.size, 0, none⟩ = some (.string s0) := kcell b1 (by simp [go_sem])
    have d01 : w1.cell? ⟨w.heap.size, 1, none⟩ = some (.slice A0 n0 c0) := kcell b1 (by simp [go_sem])
    have d02 : w1.cell? ⟨w.heap.size, 2, none⟩ = some (.int .i64 u0) := kcell b1 (by simp [go_sem])
    have r0 : w1.cell? ⟨w.heap.size + 1, 0, none⟩ = some (.bool ha1) := kcell b1 (by simp [go_sem])
    have r1 : w1.cell? ⟨w.heap.size + 1, 1, none⟩ = some (.bool hb1) := kcell b1 (by simp [go_sem])
    have r2 : w1.cell? ⟨w.heap.size + 1, 2, none⟩ = some (.int .i64 k1) := kcell b1 (by simp [go_sem])
    have r3 : w1.cell? ⟨w.heap.size + 1, 3, none⟩ = some (.int .i64 n1) := kcell b1 (by simp [go_sem])
    have r4 : w1.cell? ⟨w.heap.size + 1, 4, none⟩ = some (.string s1) := kcell b1 (by simp [go_sem])
    have r5 : w1.cell? ⟨w.heap.size + 1, 5, none⟩ = some (.int .i64 k1_) := kcell b1 (by simp [go_sem])
    have r6 : w1.cell? ⟨w.heap.size + 1, 6, none⟩ = some (.int .i64 n1_) := kcell b1 (by simp [go_sem])
    have r7 : w1.cell? ⟨w.heap.size + 1, 7, none⟩ = some (.string s1_) := kcell b1 (by simp [go_sem])
    have hz1 : w.heap.size + 2 ≤ w1.heap.size := by have := b1.size; simp at this; omega
    clear b1
    go_wp2_with fail
    refine (szKeyRange_one ha1 hb1 k1 n1 s1 k1_ n1_ s1_ (1048576 - s0.size - n0 - sumL (l0.map Itm.l)) _ m1 m1_ (by omega) (by omega) hq1).mono ?_
    rintro e w2 ⟨rfl, b2⟩
    go_wp2
    go_ret
    exact ⟨rfl, B1.trans (b2.mono B1.size)⟩
  have hs1 : (s1.size : Int) ≤ 1048576 - s0.size - n0 - sumL (l0.map Itm.l) := by omega
  clear hq1
  by_cases hq2 : (1048576 - s0.size - n0 - sumL (l0.map Itm.l) - s1.size : Int) < s1_.size
  · go_enter Try.func17, Try.ntmps17
    go_wp2_with fail
    refine (szStore_ok s0 A0 n0 c0 u0 l0 (1048576) _ q0 m0 (by omega) (by omega) ((h0.alloc _).alloc _) o0 hs0).mono ?_
    rintro e w1 ⟨rfl, b1⟩
    have B1 : Below w.heap.size w w1 := Below.trans (al (al (Below.refl _ _))) (b1.mono (by simp; omega))
    have d00 : w1.cell? ⟨w.heap.size, 0, none⟩ = some (.string s0) := kcell b1 (by simp [go_sem])
    have d01 : w1.cell? ⟨w.heap.size, 1, none⟩ = some (.slice A0 n0 c0) := kcell b1 (by simp [go_sem])
    have d02 : w1.cell? ⟨w.heap.size, 2, none⟩ = some (.int .i64 u0) := kcell b1 (by simp [go_sem])
    have r0 : w1.cell? ⟨w.heap.size + 1, 0, none⟩ = some (.bool ha1) := kcell b1 (by simp [go_sem])
    have r1 : w1.cell? ⟨w.heap.size + 1, 1, none⟩ = some (.bool hb1) := kcell b1 (by simp [go_sem])
    have r2 : w1.cell? ⟨w.heap.size + 1, 2, none⟩ = some (.int .i64 k1) := kcell b1 (by simp [go_sem])
    have r3 : w1.cell? ⟨w.heap.size + 1, 3, none⟩ = some (.int .i64 n1) := kcell b1 (by simp [go_sem])
    have r4 : w1.cell? ⟨w.heap.size + 1, 4, none⟩ = some (.string s1) := kcell b1 (by simp [go_sem])
    have r5 : w1.cell? ⟨w.heap.size + 1, 5, none⟩ = some (.int .i64 k1_) := kcell b1 (by simp [go_sem])
    have r6 : w1.cell? ⟨w.heap.size + 1, 6, none⟩ = some (.int .i64 n1_) := kcell b1 (by simp [go_sem])
    have r7 : w1.cell? ⟨w.heap.size + 1, 7, none⟩ = some (.string s1_) := kcell b1 (by simp [go_sem])
    have hz1 : w.heap.size + 2 ≤ w1.heap.size := by have := b1.size; simp at this; omega
    clear b1
    go_wp2_with fail
    refine (szKeyRange_two ha1 hb1 k1 n1 s1 k1_ n1_ s1_ (1048576 - s0.size - n0 - sumL (l0.map Itm.l)) _ m1 m1_ (by omega) (by omega) hs1 hq2).mono ?_
    rintro e w2 ⟨rfl, b2⟩
    go_wp2
    go_ret
    exact ⟨rfl, B1.trans (b2.mono B1.size)⟩
  have hs2 : (s1_.size : Int) ≤ 1048576 - s0.size - n0 - sumL (l0.map Itm.l) - s1.size := by omega
  clear hq2
  have t0 : n0 ≤ 1099511627776 := by omega
  have v0 : ∀ x ∈ l0, x.m ≤ 1099511627776 := rdI_small h0 (by omega)
  have hn20 : n0 ≤ 1048576 := by omega
  have hsum : sumL (l0.map Itm.l) ≤ 1048576 := by omega
  have hstr : ∀ x ∈ l0.map Itm.l, x.2.2.1.size ≤ maxLen := fun x hx => (o0 x hx).2.2.1
  obtain ⟨D, hD⟩ : ∃ D, D = delL (inL ha1 hb1 k1 n1 s1 k1_ n1_ s1_) s0 u0 (l0.map Itm.l) := ⟨_, rfl⟩
  obtain ⟨Z, hZ⟩ : ∃ Z, Z = delN (inL ha1 hb1 k1 n1 s1 k1_ n1_ s1_) s0 u0 (l0.map Itm.l) := ⟨_, rfl⟩
  have oD : okI D := by rw [hD]; exact okI_del o0
  have lD : D.length ≤ 1048576 := by rw [hD]; have h1 := len_del (inL ha1 hb1 k1 n1 s1 k1_ n1_ s1_) s0 u0 (l0.map Itm.l); rw [List.length_map] at h1; have := h0.lenI; omega
  have sD : sumL D ≤ 1048576 := by rw [hD]; exact Nat.le_trans (sum_del _ _ _ _) hsum
  have HD := Lib.hid hD
  have HZ := Lib.hid hZ
  clear hD hZ
  have hZZ : (Z == Z) = true := by simp
  go_enter Try.func17, Try.ntmps17
  go_wp2_with fail
  refine (szStore_ok s0 A0 n0 c0 u0 l0 (1048576) _ q0 m0 (by omega) (by omega) ((h0.alloc _).alloc _) o0 hs0).mono ?_
  rintro e w1 ⟨rfl, b1⟩
  have B1 : Below w.heap.size w w1 := Below.trans (al (al (Below.refl _ _))) (b1.mono (by simp; omega))
  have d00 : w1.cell? ⟨w.heap.size, 0, none⟩ = some (.string s0) := kcell b1 (by simp [go_sem])
  have d01 : w1.cell? ⟨w.heap.size, 1, none⟩ = some (.slice A0 n0 c0) := kcell b1 (by simp [go_sem])
  have d02 : w1.cell? ⟨w.heap.size, 2, none⟩ = some (.int .i64 u0) := kcell b1 (by simp [go_sem])
  have r0 : w1.cell? ⟨w.heap.size + 1, 0, none⟩ = some (.bool ha1) := kcell b1 (by simp [go_sem])
  have r1 : w1.cell? ⟨w.heap.size + 1, 1, none⟩ = some (.bool hb1) := kcell b1 (by simp [go_sem])
  have r2 : w1.cell? ⟨w.heap.size + 1, 2, none⟩ = some (.int .i64 k1) := kcell b1 (by simp [go_sem])
  have r3 : w1.cell? ⟨w.heap.size + 1, 3, none⟩ = some (.int .i64 n1) := kcell b1 (by simp [go_sem])
  have r4 : w1.cell? ⟨w.heap.size + 1, 4, none⟩ = some (.string s1) := kcell b1 (by simp [go_sem])
  have r5 : w1.cell? ⟨w.heap.size + 1, 5, none⟩ = some (.int .i64 k1_) := kcell b1 (by simp [go_sem])
  have r6 : w1.cell? ⟨w.heap.size + 1, 6, none⟩ = some (.int .i64 n1_) := kcell b1 (by simp [go_sem])
  have r7 : w1.cell? ⟨w.heap.size + 1, 7, none⟩ = some (.string s1_) := kcell b1 (by simp [go_sem])
  have hz1 : w.heap.size + 2 ≤ w1.heap.size := by have := b1.size; simp at this; omega
  clear b1
  go_wp2_with fail
  refine (szKeyRange_ok ha1 hb1 k1 n1 s1 k1_ n1_ s1_ (1048576 - s0.size - n0 - sumL (l0.map Itm.l)) _ m1 m1_ (by omega) (by omega) hs1 hs2).mono ?_
  rintro e w2 ⟨rfl, b2⟩
  have B2 := B1.trans (b2.mono B1.size)
  have z2 : w1.heap.size ≤ w2.heap.size := b2.size
  replace d00 := kcell b2 d00
  replace d01 := kcell b2 d01
  replace d02 := kcell b2 d02
  replace r0 := kcell b2 r0
  replace r1 := kcell b2 r1
  replace r2 := kcell b2 r2
  replace r3 := kcell b2 r3
  replace r4 := kcell b2 r4
  replace r5 := kcell b2 r5
  replace r6 := kcell b2 r6
  replace r7 := kcell b2 r7
  clear b2
  go_wp2_with fail
  go_cut [6, 7] (fun x y wx => ∃ (g : Nat) (A : Option Addr) (n c : Nat) (lw : List Itm) (lo hi : Nat), x = .pointer (some ⟨g, 0, none⟩) ∧ y = .int .i64 Z ∧ lw.map Itm.l = D ∧ OwnI wx w2.heap.size A n c lw ∧ (wx.cell? ⟨g, 0, none⟩ = some (.string s0) ∧ wx.cell? ⟨g, 1, none⟩ = some (.slice A n c) ∧ wx.cell? ⟨g, 2, none⟩ = some (.int .i64 u0)) ∧ RgI A lw lo hi ∧ w2.heap.size ≤ lo ∧ hi ≤ wx.heap.size ∧ (g < lo ∨ hi ≤ g) ∧ w2.heap.size ≤ g ∧ g < wx.heap.size ∧ Below w2.heap.size w2 wx)
  case first =>
    refine wp_region_held_drew (S := fun W => Below w2.heap.size w2 W ∧ W.cell? ⟨w.heap.size, 0, none⟩ = some (.string s0) ∧ W.cell? ⟨w.heap.size, 1, none⟩ = some (.slice A0 n0 c0) ∧ W.cell? ⟨w.heap.size, 2, none⟩ = some (.int .i64 u0) ∧ W.cell? ⟨w.heap.size + 1, 0, none⟩ = some (.bool ha1) ∧ W.cell? ⟨w.heap.size + 1, 1, none⟩ = some (.bool hb1) ∧ W.cell? ⟨w.heap.size + 1, 2, none⟩ = some (.int .i64 k1) ∧ W.cell? ⟨w.heap.size + 1, 3, none⟩ = some (.int .i64 n1) ∧ W.cell? ⟨w.heap.size + 1, 4, none⟩ = some (.string s1) ∧ W.cell? ⟨w.heap.size + 1, 5, none⟩ = some (.int .i64 k1_) ∧ W.cell? ⟨w.heap.size + 1, 6, none⟩ = some (.int .i64 n1_) ∧ W.cell? ⟨w.heap.size + 1, 7, none⟩ = some (.string s1_)) (by kernel_rfl) ?_ (fun hHeld => ?_)
    · exact ⟨(Below.refl _ _).drew, d00, d01, d02, r0, r1, r2, r3, r4, r5, r6, r7⟩
    generalize w2.drew = wd at hHeld ⊢
    refine takeD (i := 0) (d := some 27) (v := ?_) _ rfl rfl (by kernel_rfl) (by kernel_rfl) (by kernel_rfl) (fun _ _ _ h => h) (Or.inl ⟨by rfl, ?_⟩) (by assumption) ?_
    rotate_left
    · (intro W hSw; (try dsimp only at hSw); go_simp; try with_reducible rfl)
    try simp only [Act.put, List.setIfInBounds_toArray, List.set_cons_zero, List.set_cons_succ]
    refine takeD (i := 2) (d := some 29) (v := ?_) _ rfl rfl (by kernel_rfl) (by kernel_rfl) (by kernel_rfl) (fun _ _ _ h => h) (Or.inl ⟨by rfl, ?_⟩) (by assumption) ?_
    rotate_left
    · (intro W hSw; (try dsimp only at hSw); go_simp; try with_reducible rfl)
    try simp only [Act.put, List.setIfInBounds_toArray, List.set_cons_zero, List.set_cons_succ]
    refine wpAnyH_ready (rs := [1, 8]) (by kernel_rfl) (by simp) ?_
    refine AllReadyH.cons rfl (fun K hK => ?_) (AllReadyH.cons rfl (fun K hK => ?_) AllReadyH.nil)
    · go_simp
      refine (toStore_any s0 A0 n0 c0 u0 l0 _ t0 v0 (h0.below (B2.trans (hHeld.1.mono B2.size)))).mono ?_; rintro e U1 ⟨AX, NX, CX, LX, rfl, eX, oX, hb⟩
      try go_wp2_with fail
      refine hK.out _ _ ?_ (fun hHeld => ?_)
      · try dsimp only
        first | assumption | (refine sz11 ?_ hb rfl; assumption)
      clear hK K
      try simp only [Act.put, List.setIfInBounds_toArray, List.set_cons_zero, List.set_cons_succ]
      refine wpAnyH_ready (rs := [3, 8]) (by kernel_rfl) (by simp) ?_
      refine AllReadyH.cons rfl (fun K hK => ?_) (AllReadyH.cons rfl (fun K hK => ?_) AllReadyH.nil)
      · go_simp
        refine (toKeyRange_any ha1 hb1 k1 n1 s1 k1_ n1_ s1_ _).mono ?_; rintro e U3 ⟨rfl, hb⟩
        try go_wp2_with fail
        replace oX := oX.below hb
        refine hK.out _ _ ?_ (fun hHeld => ?_)
        · try dsimp only
          first | assumption | (refine sz11 ?_ hb rfl; assumption)
        clear hK K
        try simp only [Act.put, List.setIfInBounds_toArray, List.set_cons_zero, List.set_cons_succ]
        refine wpAnyH_ready (rs := [4, 8]) (by kernel_rfl) (by simp) ?_
        refine AllReadyH.cons rfl (fun K hK => ?_) (AllReadyH.cons rfl (fun K hK => ?_) AllReadyH.nil)
        · go_simp
          have hZS := hHeld.1.size
          have hc := specDeleteItems_any s0 AX NX CX u0 LX ha1 hb1 k1 n1 s1 k1_ n1_ s1_ U3 q0 (rdI_n oX.rd h0 eX ▸ hn20) (rdI_small oX.rd (eX ▸ hsum)) (strs_of eX hstr) m1 m1_ (by rw [eX]; exact o0) oX.rd
          rw [eX, ← HD.out, ← HZ.out] at hc
          refine hc.mono ?_; rintro e U4 ⟨AS, NS, CS, LS, rfl, eS, os, hb⟩
          try go_wp2_with fail
          clear hc oX
          have RS := OwnI.rng os
          refine hK.out _ _ ?_ (fun hHeld => ?_)
          · try dsimp only
            first | assumption | (refine sz11 ?_ hb rfl; assumption)
          clear hK K
          try simp only [Act.put, List.setIfInBounds_toArray, List.set_cons_zero, List.set_cons_succ]
          refine takeD (i := 5) (d := some 26) (v := ?_) _ rfl rfl (by kernel_rfl) (by kernel_rfl) (by kernel_rfl) (fun _ _ _ h => h) (Or.inl ⟨by rfl, ?_⟩) (by assumption) ?_
          rotate_left
          · (intro W hSw; (try dsimp only at hSw); go_simp; try with_reducible rfl)
          try simp only [Act.put, List.setIfInBounds_toArray, List.set_cons_zero, List.set_cons_succ]
          refine takeD (i := 6) (d := some 32) (v := ?_) _ rfl rfl (by kernel_rfl) (by kernel_rfl) (by kernel_rfl) (fun _ _ _ h => h) (Or.inl ⟨by rfl, ?_⟩) (by assumption) ?_
          rotate_left
          · (intro W hSw; (try dsimp only at hSw); go_simp; try with_reducible rfl)
          try simp only [Act.put, List.setIfInBounds_toArray, List.set_cons_zero, List.set_cons_succ]
          refine takeD (i := 7) (d := some 33) (v := ?_) _ rfl rfl (by kernel_rfl) (by kernel_rfl) (by kernel_rfl) (fun _ _ _ h => h) (Or.inl ⟨by rfl, ?_⟩) (by assumption) ?_
          rotate_left
          · (intro W hSw; (try dsimp only at hSw); go_simp; try with_reducible rfl)
          try simp only [Act.put, List.setIfInBounds_toArray, List.set_cons_zero, List.set_cons_succ]
          refine wpAnyH_ready (rs := [8]) (by kernel_rfl) (by simp) ?_
          refine AllReadyH.cons rfl (fun K hK => ?_) AllReadyH.nil
          go_simp
          have hb : Below U4.heap.size U4 (U4.alloc (.cells #[.string ⟨#[]⟩, .slice none 0 0, .int .i64 0] 52)) := al (Below.refl _ _)
          have e0 : (U4.alloc (.cells #[.string ⟨#[]⟩, .slice none 0 0, .int .i64 0] 52)).cell? ⟨U4.heap.size, 0, none⟩ = some (.string ⟨#[]⟩) := by simp
          have e1 : (U4.alloc (.cells #[.string ⟨#[]⟩, .slice none 0 0, .int .i64 0] 52)).cell? ⟨U4.heap.size, 1, none⟩ = some (.slice none 0 0) := by simp
          have e2 : (U4.alloc (.cells #[.string ⟨#[]⟩, .slice none 0 0, .int .i64 0] 52)).cell? ⟨U4.heap.size, 2, none⟩ = some (.int .i64 0) := by simp
          have fG : ∀ j, (U4.alloc (.cells #[.string ⟨#[]⟩, .slice none 0 0, .int .i64 0] 52)).frozen? ⟨U4.heap.size, j, none⟩ = false := fun j => by simp [go_sem]
          have hG : U4.heap.size < (U4.alloc (.cells #[.string ⟨#[]⟩, .slice none 0 0, .int .i64 0] 52)).heap.size := by simp
          have hG0 : w2.heap.size ≤ U4.heap.size := hHeld.1.size
          refine hK.out _ _ ?_ (fun hHeld => ?_)
          · try dsimp only
            first | assumption | (refine sz11 ?_ hb rfl; assumption)
          clear hK K
          try simp only [Act.put, List.setIfInBounds_toArray, List.set_cons_zero, List.set_cons_succ]
          refine wpAnyH_ready (rs := [9]) (by kernel_rfl) (by simp) ?_
          refine AllReadyH.cons rfl (fun K hK => ?_) AllReadyH.nil
          go_simp
          have hb : Below U4.heap.size U4 (U4.alloc (.cells #[.string s0, .slice AS NS CS, .int .i64 u0] 52)) := al (Below.refl _ _)
          refine hK.out _ _ ?_ (fun hHeld => ?_)
          · try dsimp only
            first | assumption | (refine sz11 ?_ hb rfl; assumption)
          clear hK K
          try simp only [Act.put, List.setIfInBounds_toArray, List.set_cons_zero, List.set_cons_succ]
          refine takeD (i := 10) (d := some 7) (v := ?_) _ rfl rfl (by kernel_rfl) (by kernel_rfl) (by kernel_rfl) (fun _ _ _ h => h) (Or.inl ⟨by rfl, ?_⟩) (by assumption) ?_
          rotate_left
          · (intro W hSw; (try dsimp only at hSw); go_simp; try with_reducible rfl)
          try simp only [Act.put, List.setIfInBounds_toArray, List.set_cons_zero, List.set_cons_succ]
          refine wpAnyH_done (by kernel_rfl) ?_ _
          go_wp2_with fail
          go_meet
          exact ⟨_, AS, NS, CS, LS, _, _, rfl, rfl, eS, (os.below (al (Below.refl _ _))).base hZS, ⟨by simp, by simp, by simp⟩, RS, hZS, by simp, .inr (Nat.le_refl _), hG0, by simp, hHeld.1⟩
        · go_simp
          have hb : Below U3.heap.size U3 (U3.alloc (.cells #[.string ⟨#[]⟩, .slice none 0 0, .int .i64 0] 52)) := al (Below.refl _ _)
          replace oX := oX.below hb
          have e0 : (U3.alloc (.cells #[.string ⟨#[]⟩, .slice none 0 0, .int .i64 0] 52)).cell? ⟨U3.heap.size, 0, none⟩ = some (.string ⟨#[]⟩) := by simp
          have e1 : (U3.alloc (.cells #[.string ⟨#[]⟩, .slice none 0 0, .int .i64 0] 52)).cell? ⟨U3.heap.size, 1, none⟩ = some (.slice none 0 0) := by simp
          have e2 : (U3.alloc (.cells #[.string ⟨#[]⟩, .slice none 0 0, .int .i64 0] 52)).cell? ⟨U3.heap.size, 2, none⟩ = some (.int .i64 0) := by simp
          have fG : ∀ j, (U3.alloc (.cells #[.string ⟨#[]⟩, .slice none 0 0, .int .i64 0] 52)).frozen? ⟨U3.heap.size, j, none⟩ = false := fun j => by simp [go_sem]
          have hG : U3.heap.size < (U3.alloc (.cells #[.string ⟨#[]⟩, .slice none 0 0, .int .i64 0] 52)).heap.size := by simp
          have hG0 : w2.heap.size ≤ U3.heap.size := hHeld.1.size
          refine hK.out _ _ ?_ (fun hHeld => ?_)
          · try dsimp only
            first | assumption | (refine sz11 ?_ hb rfl; assumption)
          clear hK K
          try simp only [Act.put, List.setIfInBounds_toArray, List.set_cons_zero, List.set_cons_succ]
          refine wpAnyH_ready (rs := [4]) (by kernel_rfl) (by simp) ?_
          refine AllReadyH.cons rfl (fun K hK => ?_) AllReadyH.nil
          go_simp
          have hGS := hG
          have hZS := hHeld.1.size
          have hc := specDeleteItems_any s0 AX NX CX u0 LX ha1 hb1 k1 n1 s1 k1_ n1_ s1_ (U3.alloc (.cells #[.string ⟨#[]⟩, .slice none 0 0, .int .i64 0] 52)) q0 (rdI_n oX.rd h0 eX ▸ hn20) (rdI_small oX.rd (eX ▸ hsum)) (strs_of eX hstr) m1 m1_ (by rw [eX]; exact o0) oX.rd
          rw [eX, ← HD.out, ← HZ.out] at hc
          refine hc.mono ?_; rintro e U4 ⟨AS, NS, CS, LS, rfl, eS, os, hb⟩
          try go_wp2_with fail
          clear hc oX
          replace e0 := kcell hb e0
          replace e1 := kcell hb e1
          replace e2 := kcell hb e2
          replace fG : ∀ j, U4.frozen? ⟨U3.heap.size, j, none⟩ = false := fun j => (hb.frozen (p := ⟨U3.heap.size, j, none⟩) hG).trans (fG j)
          replace hG := Nat.lt_of_lt_of_le hG hb.size
          have RS := OwnI.rng os
          refine hK.out _ _ ?_ (fun hHeld => ?_)
          · try dsimp only
            first | assumption | (refine sz11 ?_ hb rfl; assumption)
          clear hK K
          try simp only [Act.put, List.setIfInBounds_toArray, List.set_cons_zero, List.set_cons_succ]
          refine takeD (i := 5) (d := some 26) (v := ?_) _ rfl rfl (by kernel_rfl) (by kernel_rfl) (by kernel_rfl) (fun _ _ _ h => h) (Or.inl ⟨by rfl, ?_⟩) (by assumption) ?_
          rotate_left
          · (intro W hSw; (try dsimp only at hSw); go_simp; try with_reducible rfl)
          try simp only [Act.put, List.setIfInBounds_toArray, List.set_cons_zero, List.set_cons_succ]
          refine takeD (i := 6) (d := some 32) (v := ?_) _ rfl rfl (by kernel_rfl) (by kernel_rfl) (by kernel_rfl) (fun _ _ _ h => h) (Or.inl ⟨by rfl, ?_⟩) (by assumption) ?_
          rotate_left
          · (intro W hSw; (try dsimp only at hSw); go_simp; try with_reducible rfl)
          try simp only [Act.put, List.setIfInBounds_toArray, List.set_cons_zero, List.set_cons_succ]
          refine takeD (i := 7) (d := some 33) (v := ?_) _ rfl rfl (by kernel_rfl) (by kernel_rfl) (by kernel_rfl) (fun _ _ _ h => h) (Or.inl ⟨by rfl, ?_⟩) (by assumption) ?_
          rotate_left
          · (intro W hSw; (try dsimp only at hSw); go_simp; try with_reducible rfl)
          try simp only [Act.put, List.setIfInBounds_toArray, List.set_cons_zero, List.set_cons_succ]
          refine wpAnyH_ready (rs := [9]) (by kernel_rfl) (by simp) ?_
          refine AllReadyH.cons rfl (fun K hK => ?_) AllReadyH.nil
          go_simp
          have hb : Below w2.heap.size U4 (((U4.setCell ⟨U3.heap.size, 0, none⟩ (.string s0)).setCell ⟨U3.heap.size, 1, none⟩ (.slice AS NS CS)).setCell ⟨U3.heap.size, 2, none⟩ (.int .i64 u0)) := (((Below.refl _ _).setCell (p := ⟨U3.heap.size, 0, none⟩) hG0 _).setCell (p := ⟨U3.heap.size, 1, none⟩) hG0 _).setCell (p := ⟨U3.heap.size, 2, none⟩) hG0 _
          refine hK.out _ _ ?_ (fun hHeld => ?_)
          · try dsimp only
            exact szB11 hHeld hb (by show w.heap.size < _; omega) (by show w.heap.size < _; omega) (by show w.heap.size < _; omega) (by show w.heap.size + 1 < _; omega) (by show w.heap.size + 1 < _; omega) (by show w.heap.size + 1 < _; omega) (by show w.heap.size + 1 < _; omega) (by show w.heap.size + 1 < _; omega) (by show w.heap.size + 1 < _; omega) (by show w.heap.size + 1 < _; omega) (by show w.heap.size + 1 < _; omega)
          clear hK K
          try simp only [Act.put, List.setIfInBounds_toArray, List.set_cons_zero, List.set_cons_succ]
          refine takeD (i := 10) (d := some 7) (v := ?_) _ rfl rfl (by kernel_rfl) (by kernel_rfl) (by kernel_rfl) (fun _ _ _ h => h) (Or.inl ⟨by rfl, ?_⟩) (by assumption) ?_
          rotate_left
          · (intro W hSw; (try dsimp only at hSw); go_simp; try with_reducible rfl)
          try simp only [Act.put, List.setIfInBounds_toArray, List.set_cons_zero, List.set_cons_succ]
          refine wpAnyH_done (by kernel_rfl) ?_ _
          go_wp2_with fail
          go_meet
          exact ⟨_, AS, NS, CS, LS, _, _, rfl, rfl, eS, (OwnI.setB (OwnI.setB (OwnI.setB os (a := ⟨U3.heap.size, 0, none⟩) hGS _) (a := ⟨U3.heap.size, 1, none⟩) hGS _) (a := ⟨U3.heap.size, 2, none⟩) hGS _).base hZS, ⟨by simp [go_sem, e0], by simp [go_sem, e1], by simp [go_sem, e2]⟩, RS, hZS, by simp, .inl hGS, hG0, by simpa using hG, hHeld.1⟩
      · go_simp
        have hb : Below U1.heap.size U1 (U1.alloc (.cells #[.string ⟨#[]⟩, .slice none 0 0, .int .i64 0] 52)) := al (Below.refl _ _)
        replace oX := oX.below hb
        have e0 : (U1.alloc (.cells #[.string ⟨#[]⟩, .slice none 0 0, .int .i64 0] 52)).cell? ⟨U1.heap.size, 0, none⟩ = some (.string ⟨#[]⟩) := by simp
        have e1 : (U1.alloc (.cells #[.string ⟨#[]⟩, .slice none 0 0, .int .i64 0] 52)).cell? ⟨U1.heap.size, 1, none⟩ = some (.slice none 0 0) := by simp
        have e2 : (U1.alloc (.cells #[.string ⟨#[]⟩, .slice none 0 0, .int .i64 0] 52)).cell? ⟨U1.heap.size, 2, none⟩ = some (.int .i64 0) := by simp
        have fG : ∀ j, (U1.alloc (.cells #[.string ⟨#[]⟩, .slice none 0 0, .int .i64 0] 52)).frozen? ⟨U1.heap.size, j, none⟩ = false := fun j => by simp [go_sem]
        have hG : U1.heap.size < (U1.alloc (.cells #[.string ⟨#[]⟩, .slice none 0 0, .int .i64 0] 52)).heap.size := by simp
        have hG0 : w2.heap.size ≤ U1.heap.size := hHeld.1.size
        refine hK.out _ _ ?_ (fun hHeld => ?_)
        · try dsimp only
          first | assumption | (refine sz11 ?_ hb rfl; assumption)
        clear hK K
        try simp only [Act.put, List.setIfInBounds_toArray, List.set_cons_zero, List.set_cons_succ]
        refine wpAnyH_ready (rs := [3]) (by kernel_rfl) (by simp) ?_
        refine AllReadyH.cons rfl (fun K hK => ?_) AllReadyH.nil
        go_simp
        refine (toKeyRange_any ha1 hb1 k1 n1 s1 k1_ n1_ s1_ _).mono ?_; rintro e U3 ⟨rfl, hb⟩
        try go_wp2_with fail
        replace oX := oX.below hb
        replace e0 := kcell hb e0
        replace e1 := kcell hb e1
        replace e2 := kcell hb e2
        replace fG : ∀ j, U3.frozen? ⟨U1.heap.size, j, none⟩ = false := fun j => (hb.frozen (p := ⟨U1.heap.size, j, none⟩) hG).trans (fG j)
        replace hG := Nat.lt_of_lt_of_le hG hb.size
        refine hK.out _ _ ?_ (fun hHeld => ?_)
        · try dsimp only
          first | assumption | (refine sz11 ?_ hb rfl; assumption)
        clear hK K
        try simp only [Act.put, List.setIfInBounds_toArray, List.set_cons_zero, List.set_cons_succ]
        refine wpAnyH_ready (rs := [4]) (by kernel_rfl) (by simp) ?_
        refine AllReadyH.cons rfl (fun K hK => ?_) AllReadyH.nil
        go_simp
        have hGS := hG
        have hZS := hHeld.1.size
        have hc := specDeleteItems_any s0 AX NX CX u0 LX ha1 hb1 k1 n1 s1 k1_ n1_ s1_ U3 q0 (rdI_n oX.rd h0 eX ▸ hn20) (rdI_small oX.rd (eX ▸ hsum)) (strs_of eX hstr) m1 m1_ (by rw [eX]; exact o0) oX.rd
        rw [eX, ← HD.out, ← HZ.out] at hc
        refine hc.mono ?_; rintro e U4 ⟨AS, NS, CS, LS, rfl, eS, os, hb⟩
        try go_wp2_with fail
        clear hc oX
        replace e0 := kcell hb e0
        replace e1 := kcell hb e1
        replace e2 := kcell hb e2
        replace fG : ∀ j, U4.frozen? ⟨U1.heap.size, j, none⟩ = false := fun j => (hb.frozen (p := ⟨U1.heap.size, j, none⟩) hG).trans (fG j)
        replace hG := Nat.lt_of_lt_of_le hG hb.size
        have RS := OwnI.rng os
        refine hK.out _ _ ?_ (fun hHeld => ?_)
        · try dsimp only
          first | assumption | (refine sz11 ?_ hb rfl; assumption)
        clear hK K
        try simp only [Act.put, List.setIfInBounds_toArray, List.set_cons_zero, List.set_cons_succ]
        refine takeD (i := 5) (d := some 26) (v := ?_) _ rfl rfl (by kernel_rfl) (by kernel_rfl) (by kernel_rfl) (fun _ _ _ h => h) (Or.inl ⟨by rfl, ?_⟩) (by assumption) ?_
        rotate_left
        · (intro W hSw; (try dsimp only at hSw); go_simp; try with_reducible rfl)
        try simp only [Act.put, List.setIfInBounds_toArray, List.set_cons_zero, List.set_cons_succ]
        refine takeD (i := 6) (d := some 32) (v := ?_) _ rfl rfl (by kernel_rfl) (by kernel_rfl) (by kernel_rfl) (fun _ _ _ h => h) (Or.inl ⟨by rfl, ?_⟩) (by assumption) ?_
        rotate_left
        · (intro W hSw; (try dsimp only at hSw); go_simp; try with_reducible rfl)
        try simp only [Act.put, List.setIfInBounds_toArray, List.set_cons_zero, List.set_cons_succ]
        refine takeD (i := 7) (d := some 33) (v := ?_) _ rfl rfl (by kernel_rfl) (by kernel_rfl) (by kernel_rfl) (fun _ _ _ h => h) (Or.inl ⟨by rfl, ?_⟩) (by assumption) ?_
        rotate_left
        · (intro W hSw; (try dsimp only at hSw); go_simp; try with_reducible rfl)
        try simp only [Act.put, List.setIfInBounds_toArray, List.set_cons_zero, List.set_cons_succ]
        refine wpAnyH_ready (rs := [9]) (by kernel_rfl) (by simp) ?_
        refine AllReadyH.cons rfl (fun K hK => ?_) AllReadyH.nil
        go_simp
        have hb : Below w2.heap.size U4 (((U4.setCell ⟨U1.heap.size, 0, none⟩ (.string s0)).setCell ⟨U1.heap.size, 1, none⟩ (.slice AS NS CS)).setCell ⟨U1.heap.size, 2, none⟩ (.int .i64 u0)) := (((Below.refl _ _).setCell (p := ⟨U1.heap.size, 0, none⟩) hG0 _).setCell (p := ⟨U1.heap.size, 1, none⟩) hG0 _).setCell (p := ⟨U1.heap.size, 2, none⟩) hG0 _
        refine hK.out _ _ ?_ (fun hHeld => ?_)
        · try dsimp only
          exact szB11 hHeld hb (by show w.heap.size < _; omega) (by show w.heap.size < _; omega) (by show w.heap.size < _; omega) (by show w.heap.size + 1 < _; omega) (by show w.heap.size + 1 < _; omega) (by show w.heap.size + 1 < _; omega) (by show w.heap.size + 1 < _; omega) (by show w.heap.size + 1 < _; omega) (by show w.heap.size + 1 < _; omega) (by show w.heap.size + 1 < _; omega) (by show w.heap.size + 1 < _; omega)
        clear hK K
        try simp only [Act.put, List.setIfInBounds_toArray, List.set_cons_zero, List.set_cons_succ]
        refine takeD (i := 10) (d := some 7) (v := ?_) _ rfl rfl (by kernel_rfl) (by kernel_rfl) (by kernel_rfl) (fun _ _ _ h => h) (Or.inl ⟨by rfl, ?_⟩) (by assumption) ?_
        rotate_left
        · (intro W hSw; (try dsimp only at hSw); go_simp; try with_reducible rfl)
        try simp only [Act.put, List.setIfInBounds_toArray, List.set_cons_zero, List.set_cons_succ]
        refine wpAnyH_done (by kernel_rfl) ?_ _
        go_wp2_with fail
        go_meet
        exact ⟨_, AS, NS, CS, LS, _, _, rfl, rfl, eS, (OwnI.setB (OwnI.setB (OwnI.setB os (a := ⟨U1.heap.size, 0, none⟩) hGS _) (a := ⟨U1.heap.size, 1, none⟩) hGS _) (a := ⟨U1.heap.size, 2, none⟩) hGS _).base hZS, ⟨by simp [go_sem, e0], by simp [go_sem, e1], by simp [go_sem, e2]⟩, RS, hZS, by simp, .inl hGS, hG0, by simpa using hG, hHeld.1⟩
    · go_simp
      have hb : Below wd.heap.size wd (wd.alloc (.cells #[.string ⟨#[]⟩, .slice none 0 0, .int .i64 0] 52)) := al (Below.refl _ _)
      have e0 : (wd.alloc (.cells #[.string ⟨#[]⟩, .slice none 0 0, .int .i64 0] 52)).cell? ⟨wd.heap.size, 0, none⟩ = some (.string ⟨#[]⟩) := by simp
      have e1 : (wd.alloc (.cells #[.string ⟨#[]⟩, .slice none 0 0, .int .i64 0] 52)).cell? ⟨wd.heap.size, 1, none⟩ = some (.slice none 0 0) := by simp
      have e2 : (wd.alloc (.cells #[.string ⟨#[]⟩, .slice none 0 0, .int .i64 0] 52)).cell? ⟨wd.heap.size, 2, none⟩ = some (.int .i64 0) := by simp
      have fG : ∀ j, (wd.alloc (.cells #[.string ⟨#[]⟩, .slice none 0 0, .int .i64 0] 52)).frozen? ⟨wd.heap.size, j, none⟩ = false := fun j => by simp [go_sem]
      have hG : wd.heap.size < (wd.alloc (.cells #[.string ⟨#[]⟩, .slice none 0 0, .int .i64 0] 52)).heap.size := by simp
      have hG0 : w2.heap.size ≤ wd.heap.size := hHeld.1.size
      refine hK.out _ _ ?_ (fun hHeld => ?_)
      · try dsimp only
        first | assumption | (refine sz11 ?_ hb rfl; assumption)
      clear hK K
      try simp only [Act.put, List.setIfInBounds_toArray, List.set_cons_zero, List.set_cons_succ]
      refine wpAnyH_ready (rs := [1]) (by kernel_rfl) (by simp) ?_
      refine AllReadyH.cons rfl (fun K hK => ?_) AllReadyH.nil
      go_simp
      refine (toStore_any s0 A0 n0 c0 u0 l0 _ t0 v0 (h0.below (B2.trans (hHeld.1.mono B2.size)))).mono ?_; rintro e U1 ⟨AX, NX, CX, LX, rfl, eX, oX, hb⟩
      try go_wp2_with fail
      replace e0 := kcell hb e0
      replace e1 := kcell hb e1
      replace e2 := kcell hb e2
      replace fG : ∀ j, U1.frozen? ⟨wd.heap.size, j, none⟩ = false := fun j => (hb.frozen (p := ⟨wd.heap.size, j, none⟩) hG).trans (fG j)
      replace hG := Nat.lt_of_lt_of_le hG hb.size
      refine hK.out _ _ ?_ (fun hHeld => ?_)
      · try dsimp only
        first | assumption | (refine sz11 ?_ hb rfl; assumption)
      clear hK K
      try simp only [Act.put, List.setIfInBounds_toArray, List.set_cons_zero, List.set_cons_succ]
      refine wpAnyH_ready (rs := [3]) (by kernel_rfl) (by simp) ?_
      refine AllReadyH.cons rfl (fun K hK => ?_) AllReadyH.nil
      go_simp
      refine (toKeyRange_any ha1 hb1 k1 n1 s1 k1_ n1_ s1_ _).mono ?_; rintro e U3 ⟨rfl, hb⟩
      try go_wp2_with fail
      replace oX := oX.below hb
      replace e0 := kcell hb e0
      replace e1 := kcell hb e1
      replace e2 := kcell hb e2
      replace fG : ∀ j, U3.frozen? ⟨wd.heap.size, j, none⟩ = false := fun j => (hb.frozen (p := ⟨wd.heap.size, j, none⟩) hG).trans (fG j)
      replace hG := Nat.lt_of_lt_of_le hG hb.size
      refine hK.out _ _ ?_ (fun hHeld => ?_)
      · try dsimp only
        first | assumption | (refine sz11 ?_ hb rfl; assumption)
      clear hK K
      try simp only [Act.put, List.setIfInBounds_toArray, List.set_cons_zero, List.set_cons_succ]
      refine wpAnyH_ready (rs := [4]) (by kernel_rfl) (by simp) ?_
      refine AllReadyH.cons rfl (fun K hK => ?_) AllReadyH.nil
      go_simp
      have hGS := hG
      have hZS := hHeld.1.size
      have hc := specDeleteItems_any s0 AX NX CX u0 LX ha1 hb1 k1 n1 s1 k1_ n1_ s1_ U3 q0 (rdI_n oX.rd h0 eX ▸ hn20) (rdI_small oX.rd (eX ▸ hsum)) (strs_of eX hstr) m1 m1_ (by rw [eX]; exact o0) oX.rd
      rw [eX, ← HD.out, ← HZ.out] at hc
      refine hc.mono ?_; rintro e U4 ⟨AS, NS, CS, LS, rfl, eS, os, hb⟩
      try go_wp2_with fail
      clear hc oX
      replace e0 := kcell hb e0
      replace e1 := kcell hb e1
      replace e2 := kcell hb e2
      replace fG : ∀ j, U4.frozen? ⟨wd.heap.size, j, none⟩ = false := fun j => (hb.frozen (p := ⟨wd.heap.size, j, none⟩) hG).trans (fG j)
      replace hG := Nat.lt_of_lt_of_le hG hb.size
      have RS := OwnI.rng os
      refine hK.out _ _ ?_ (fun hHeld => ?_)
      · try dsimp only
        first | assumption | (refine sz11 ?_ hb rfl; assumption)
      clear hK K
      try simp only [Act.put, List.setIfInBounds_toArray, List.set_cons_zero, List.set_cons_succ]
      refine takeD (i := 5) (d := some 26) (v := ?_) _ rfl rfl (by kernel_rfl) (by kernel_rfl) (by kernel_rfl) (fun _ _ _ h => h) (Or.inl ⟨by rfl, ?_⟩) (by assumption) ?_
      rotate_left
      · (intro W hSw; (try dsimp only at hSw); go_simp; try with_reducible rfl)
      try simp only [Act.put, List.setIfInBounds_toArray, List.set_cons_zero, List.set_cons_succ]
      refine takeD (i := 6) (d := some 32) (v := ?_) _ rfl rfl (by kernel_rfl) (by kernel_rfl) (by kernel_rfl) (fun _ _ _ h => h) (Or.inl ⟨by rfl, ?_⟩) (by assumption) ?_
      rotate_left
      · (intro W hSw; (try dsimp only at hSw); go_simp; try with_reducible rfl)
      try simp only [Act.put, List.setIfInBounds_toArray, List.set_cons_zero, List.set_cons_succ]
      refine takeD (i := 7) (d := some 33) (v := ?_) _ rfl rfl (by kernel_rfl) (by kernel_rfl) (by kernel_rfl) (fun _ _ _ h => h) (Or.inl ⟨by rfl, ?_⟩) (by assumption) ?_
      rotate_left
      · (intro W hSw; (try dsimp only at hSw); go_simp; try with_reducible rfl)
      try simp only [Act.put, List.setIfInBounds_toArray, List.set_cons_zero, List.set_cons_succ]
      refine wpAnyH_ready (rs := [9]) (by kernel_rfl) (by simp) ?_
      refine AllReadyH.cons rfl (fun K hK => ?_) AllReadyH.nil
      go_simp
      have hb : Below w2.heap.size U4 (((U4.setCell ⟨wd.heap.size, 0, none⟩ (.string s0)).setCell ⟨wd.heap.size, 1, none⟩ (.slice AS NS CS)).setCell ⟨wd.heap.size, 2, none⟩ (.int .i64 u0)) := (((Below.refl _ _).setCell (p := ⟨wd.heap.size, 0, none⟩) hG0 _).setCell (p := ⟨wd.heap.size, 1, none⟩) hG0 _).setCell (p := ⟨wd.heap.size, 2, none⟩) hG0 _
      refine hK.out _ _ ?_ (fun hHeld => ?_)
      · try dsimp only
        exact szB11 hHeld hb (by show w.heap.size < _; omega) (by show w.heap.size < _; omega) (by show w.heap.size < _; omega) (by show w.heap.size + 1 < _; omega) (by show w.heap.size + 1 < _; omega) (by show w.heap.size + 1 < _; omega) (by show w.heap.size + 1 < _; omega) (by show w.heap.size + 1 < _; omega) (by show w.heap.size + 1 < _; omega) (by show w.heap.size + 1 < _; omega) (by show w.heap.size + 1 < _; omega)
      clear hK K
      try simp only [Act.put, List.setIfInBounds_toArray, List.set_cons_zero, List.set_cons_succ]
      refine takeD (i := 10) (d := some 7) (v := ?_) _ rfl rfl (by kernel_rfl) (by kernel_rfl) (by kernel_rfl) (fun _ _ _ h => h) (Or.inl ⟨by rfl, ?_⟩) (by assumption) ?_
      rotate_left
      · (intro W hSw; (try dsimp only at hSw); go_simp; try with_reducible rfl)
      try simp only [Act.put, List.setIfInBounds_toArray, List.set_cons_zero, List.set_cons_succ]
      refine wpAnyH_done (by kernel_rfl) ?_ _
      go_wp2_with fail
      go_meet
      exact ⟨_, AS, NS, CS, LS, _, _, rfl, rfl, eS, (OwnI.setB (OwnI.setB (OwnI.setB os (a := ⟨wd.heap.size, 0, none⟩) hGS _) (a := ⟨wd.heap.size, 1, none⟩) hGS _) (a := ⟨wd.heap.size, 2, none⟩) hGS _).base hZS, ⟨by simp [go_sem, e0], by simp [go_sem, e1], by simp [go_sem, e2]⟩, RS, hZS, by simp, .inl hGS, hG0, by simpa using hG, hHeld.1⟩
  case rest =>
  obtain ⟨gy, A3, n3, c3, l3, lo3, hi3, rfl, rfl, e3, o3, ⟨y0, y1, y2⟩, R3_, hlo3, hhi3, hgd3, hge3, hgl3, b3⟩ := hcut
  obtain ⟨w3, hw3⟩ : ∃ x, x = wc := ⟨_, rfl⟩
  rw [← hw3] at o3 y0 y1 y2 hhi3 hgl3 b3 ⊢
  clear hw3
  have R3 := Lib.hid R3_
  clear R3_
  have B3 : Below w.heap.size w w3 := B2.trans (b3.mono B2.size)
  have zw3 : w2.heap.size ≤ w3.heap.size := b3.size
  replace d00 := kcell b3 d00
  replace d01 := kcell b3 d01
  replace d02 := kcell b3 d02
  replace r0 := kcell b3 r0
  replace r1 := kcell b3 r1
  replace r2 := kcell b3 r2
  replace r3 := kcell b3 r3
  replace r4 := kcell b3 r4
  replace r5 := kcell b3 r5
  replace r6 := kcell b3 r6
  replace r7 := kcell b3 r7
  clear b3
  go_wp2_with fail
  refine (toStore_any s0 A0 n0 c0 u0 l0 _ t0 v0 (h0.below B3)).mono ?_
  rintro e w4 ⟨A4, n4, c4, l4, rfl, e4, o4, bw4⟩
  have B4 : Below w.heap.size w w4 := B3.trans (bw4.mono B3.size)
  have zw4 : w3.heap.size ≤ w4.heap.size := bw4.size
  replace o3 := o3.below bw4
  replace d00 := kcell bw4 d00
  replace d01 := kcell bw4 d01
  replace d02 := kcell bw4 d02
  replace r0 := kcell bw4 r0
  replace r1 := kcell bw4 r1
  replace r2 := kcell bw4 r2
  replace r3 := kcell bw4 r3
  replace r4 := kcell bw4 r4
  replace r5 := kcell bw4 r5
  replace r6 := kcell bw4 r6
  replace r7 := kcell bw4 r7
  replace y0 := kcell bw4 y0
  replace y1 := kcell bw4 y1
  replace y2 := kcell bw4 y2
  clear bw4
  have R4 := Lib.hid (OwnI.rng o4)
  obtain ⟨w5, hw5⟩ : ∃ W, W = w4.alloc (.cells #[.string s0, .slice A4 n4 c4, .int .i64 u0] 52) := ⟨_, rfl⟩
  have b5 : Below w4.heap.size w4 w5 := by rw [hw5]; exact al (Below.refl _ _)
  have z5 : w4.heap.size + 1 ≤ w5.heap.size := by rw [hw5]; simp
  have B5 : Below w.heap.size w w5 := B4.trans (b5.mono B4.size)
  go_wp2_with fail
  rw [← hw5]
  have x00 : w5.cell? ⟨w4.heap.size, 0, none⟩ = some (.string s0) := by rw [hw5]; simp
  have x01 : w5.cell? ⟨w4.heap.size, 1, none⟩ = some (.slice A4 n4 c4) := by rw [hw5]; simp
  have x02 : w5.cell? ⟨w4.heap.size, 2, none⟩ = some (.int .i64 u0) := by rw [hw5]; simp
  replace d00 := kcell b5 d00
  replace d01 := kcell b5 d01
  replace d02 := kcell b5 d02
  replace r0 := kcell b5 r0
  replace r1 := kcell b5 r1
  replace r2 := kcell b5 r2
  replace r3 := kcell b5 r3
  replace r4 := kcell b5 r4
  replace r5 := kcell b5 r5
  replace r6 := kcell b5 r6
  replace r7 := kcell b5 r7
  replace y0 := kcell b5 y0
  replace y1 := kcell b5 y1
  replace y2 := kcell b5 y2
  replace o3 := o3.below b5
  replace o4 := o4.below b5
  clear hw5 b5
  go_wp2_with fail
  go_cut [9, 10] (fun x y wx => ∃ (g : Nat) (A : Option Addr) (n c : Nat) (lw : List Itm) (lo hi : Nat), x = .pointer (some ⟨g, 0, none⟩) ∧ y = .int .i64 Z ∧ lw.map Itm.l = D ∧ OwnI wx w5.heap.size A n c lw ∧ (wx.cell? ⟨g, 0, none⟩ = some (.string s0) ∧ wx.cell? ⟨g, 1, none⟩ = some (.slice A n c) ∧ wx.cell? ⟨g, 2, none⟩ = some (.int .i64 u0)) ∧ RgI A lw lo hi ∧ w5.heap.size ≤ lo ∧ hi ≤ wx.heap.size ∧ (g < lo ∨ hi ≤ g) ∧ w5.heap.size ≤ g ∧ g < wx.heap.size ∧ Below w5.heap.size w5 wx)
  case first =>
    refine wp_region_held_drew (S := fun W => Below w5.heap.size w5 W ∧ W.cell? ⟨w.heap.size, 0, none⟩ = some (.string s0) ∧ W.cell? ⟨w.heap.size, 1, none⟩ = some (.slice A0 n0 c0) ∧ W.cell? ⟨w.heap.size, 2, none⟩ = some (.int .i64 u0) ∧ W.cell? ⟨w.heap.size + 1, 0, none⟩ = some (.bool ha1) ∧ W.cell? ⟨w.heap.size + 1, 1, none⟩ = some (.bool hb1) ∧ W.cell? ⟨w.heap.size + 1, 2, none⟩ = some (.int .i64 k1) ∧ W.cell? ⟨w.heap.size + 1, 3, none⟩ = some (.int .i64 n1) ∧ W.cell? ⟨w.heap.size + 1, 4, none⟩ = some (.string s1) ∧ W.cell? ⟨w.heap.size + 1, 5, none⟩ = some (.int .i64 k1_) ∧ W.cell? ⟨w.heap.size + 1, 6, none⟩ = some (.int .i64 n1_) ∧ W.cell? ⟨w.heap.size + 1, 7, none⟩ = some (.string s1_) ∧ W.cell? ⟨w4.heap.size, 0, none⟩ = some (.string s0) ∧ W.cell? ⟨w4.heap.size, 1, none⟩ = some (.slice A4 n4 c4) ∧ W.cell? ⟨w4.heap.size, 2, none⟩ = some (.int .i64 u0)) (by kernel_rfl) ?_ (fun hHeld => ?_)
    · exact ⟨(Below.refl _ _).drew, d00, d01, d02, r0, r1, r2, r3, r4, r5, r6, r7, x00, x01, x02⟩
    generalize w5.drew = wd at hHeld ⊢
    refine takeD (i := 0) (d := some 37) (v := ?_) _ rfl rfl (by kernel_rfl) (by kernel_rfl) (by kernel_rfl) (fun _ _ _ h => h) (Or.inl ⟨by rfl, ?_⟩) (by assumption) ?_
    rotate_left
    · (intro W hSw; (try dsimp only at hSw); go_simp; try with_reducible rfl)
    try simp only [Act.put, List.setIfInBounds_toArray, List.set_cons_zero, List.set_cons_succ]
    refine takeD (i := 1) (d := some 38) (v := ?_) _ rfl rfl (by kernel_rfl) (by kernel_rfl) (by kernel_rfl) (fun _ _ _ h => h) (Or.inl ⟨by rfl, ?_⟩) (by assumption) ?_
    rotate_left
    · (intro W hSw; (try dsimp only at hSw); go_simp; try with_reducible rfl)
    try simp only [Act.put, List.setIfInBounds_toArray, List.set_cons_zero, List.set_cons_succ]
    refine wpAnyH_ready (rs := [2, 7]) (by kernel_rfl) (by simp) ?_
    refine AllReadyH.cons rfl (fun K hK => ?_) (AllReadyH.cons rfl (fun K hK => ?_) AllReadyH.nil)
    · go_simp
      refine (toKeyRange_any ha1 hb1 k1 n1 s1 k1_ n1_ s1_ _).mono ?_; rintro e U2 ⟨rfl, hb⟩
      try go_wp2_with fail
      refine hK.out _ _ ?_ (fun hHeld => ?_)
      · try dsimp only
        first | assumption | (refine sz14 ?_ hb rfl; assumption)
      clear hK K
      try simp only [Act.put, List.setIfInBounds_toArray, List.set_cons_zero, List.set_cons_succ]
      refine wpAnyH_ready (rs := [3, 7]) (by kernel_rfl) (by simp) ?_
      refine AllReadyH.cons rfl (fun K hK => ?_) (AllReadyH.cons rfl (fun K hK => ?_) AllReadyH.nil)
      · have oX := o4.below hHeld.1
        go_simp
        have hZS := hHeld.1.size
        have hc := implDeleteItems_any s0 A4 n4 c4 u0 l4 ha1 hb1 k1 n1 s1 k1_ n1_ s1_ U2 q0 (rdI_n oX.rd h0 e4 ▸ hn20) (rdI_small oX.rd (e4 ▸ hsum)) (strs_of e4 hstr) m1 m1_ (by rw [e4]; exact o0) oX.rd
        rw [e4, ← HD.out, ← HZ.out] at hc
        refine hc.mono ?_; rintro e U3 ⟨AS, NS, CS, LS, rfl, eS, os, hb⟩
        try go_wp2_with fail
        clear hc oX
        have RS := OwnI.rng os
        refine hK.out _ _ ?_ (fun hHeld => ?_)
        · try dsimp only
          first | assumption | (refine sz14 ?_ hb rfl; assumption)
        clear hK K
        try simp only [Act.put, List.setIfInBounds_toArray, List.set_cons_zero, List.set_cons_succ]
        refine takeD (i := 4) (d := some 36) (v := ?_) _ rfl rfl (by kernel_rfl) (by kernel_rfl) (by kernel_rfl) (fun _ _ _ h => h) (Or.inl ⟨by rfl, ?_⟩) (by assumption) ?_
        rotate_left
        · (intro W hSw; (try dsimp only at hSw); go_simp; try with_reducible rfl)
        try simp only [Act.put, List.setIfInBounds_toArray, List.set_cons_zero, List.set_cons_succ]
        refine takeD (i := 5) (d := some 41) (v := ?_) _ rfl rfl (by kernel_rfl) (by kernel_rfl) (by kernel_rfl) (fun _ _ _ h => h) (Or.inl ⟨by rfl, ?_⟩) (by assumption) ?_
        rotate_left
        · (intro W hSw; (try dsimp only at hSw); go_simp; try with_reducible rfl)
        try simp only [Act.put, List.setIfInBounds_toArray, List.set_cons_zero, List.set_cons_succ]
        refine takeD (i := 6) (d := some 42) (v := ?_) _ rfl rfl (by kernel_rfl) (by kernel_rfl) (by kernel_rfl) (fun _ _ _ h => h) (Or.inl ⟨by rfl, ?_⟩) (by assumption) ?_
        rotate_left
        · (intro W hSw; (try dsimp only at hSw); go_simp; try with_reducible rfl)
        try simp only [Act.put, List.setIfInBounds_toArray, List.set_cons_zero, List.set_cons_succ]
        refine wpAnyH_ready (rs := [7]) (by kernel_rfl) (by simp) ?_
        refine AllReadyH.cons rfl (fun K hK => ?_) AllReadyH.nil
        go_simp
        have hb : Below U3.heap.size U3 (U3.alloc (.cells #[.string ⟨#[]⟩, .slice none 0 0, .int .i64 0] 52)) := al (Below.refl _ _)
        have e0 : (U3.alloc (.cells #[.string ⟨#[]⟩, .slice none 0 0, .int .i64 0] 52)).cell? ⟨U3.heap.size, 0, none⟩ = some (.string ⟨#[]⟩) := by simp
        have e1 : (U3.alloc (.cells #[.string ⟨#[]⟩, .slice none 0 0, .int .i64 0] 52)).cell? ⟨U3.heap.size, 1, none⟩ = some (.slice none 0 0) := by simp
        have e2 : (U3.alloc (.cells #[.string ⟨#[]⟩, .slice none 0 0, .int .i64 0] 52)).cell? ⟨U3.heap.size, 2, none⟩ = some (.int .i64 0) := by simp
        have fG : ∀ j, (U3.alloc (.cells #[.string ⟨#[]⟩, .slice none 0 0, .int .i64 0] 52)).frozen? ⟨U3.heap.size, j, none⟩ = false := fun j => by simp [go_sem]
        have hG : U3.heap.size < (U3.alloc (.cells #[.string ⟨#[]⟩, .slice none 0 0, .int .i64 0] 52)).heap.size := by simp
        have hG0 : w5.heap.size ≤ U3.heap.size := hHeld.1.size
        refine hK.out _ _ ?_ (fun hHeld => ?_)
        · try dsimp only
          first | assumption | (refine sz14 ?_ hb rfl; assumption)
        clear hK K
        try simp only [Act.put, List.setIfInBounds_toArray, List.set_cons_zero, List.set_cons_succ]
        refine wpAnyH_ready (rs := [8]) (by kernel_rfl) (by simp) ?_
        refine AllReadyH.cons rfl (fun K hK => ?_) AllReadyH.nil
        go_simp
        have hb : Below U3.heap.size U3 (U3.alloc (.cells #[.string s0, .slice AS NS CS, .int .i64 u0] 52)) := al (Below.refl _ _)
        refine hK.out _ _ ?_ (fun hHeld => ?_)
        · try dsimp only
          first | assumption | (refine sz14 ?_ hb rfl; assumption)
        clear hK K
        try simp only [Act.put, List.setIfInBounds_toArray, List.set_cons_zero, List.set_cons_succ]
        refine takeD (i := 9) (d := some 10) (v := ?_) _ rfl rfl (by kernel_rfl) (by kernel_rfl) (by kernel_rfl) (fun _ _ _ h => h) (Or.inl ⟨by rfl, ?_⟩) (by assumption) ?_
        rotate_left
        · (intro W hSw; (try dsimp only at hSw); go_simp; try with_reducible rfl)
        try simp only [Act.put, List.setIfInBounds_toArray, List.set_cons_zero, List.set_cons_succ]
        refine wpAnyH_done (by kernel_rfl) ?_ _
        go_wp2_with fail
        go_meet
        exact ⟨_, AS, NS, CS, LS, _, _, rfl, rfl, eS, (os.below (al (Below.refl _ _))).base hZS, ⟨by simp, by simp, by simp⟩, RS, hZS, by simp, .inr (Nat.le_refl _), hG0, by simp, hHeld.1⟩
      · go_simp
        have hb : Below U2.heap.size U2 (U2.alloc (.cells #[.string ⟨#[]⟩, .slice none 0 0, .int .i64 0] 52)) := al (Below.refl _ _)
        have e0 : (U2.alloc (.cells #[.string ⟨#[]⟩, .slice none 0 0, .int .i64 0] 52)).cell? ⟨U2.heap.size, 0, none⟩ = some (.string ⟨#[]⟩) := by simp
        have e1 : (U2.alloc (.cells #[.string ⟨#[]⟩, .slice none 0 0, .int .i64 0] 52)).cell? ⟨U2.heap.size, 1, none⟩ = some (.slice none 0 0) := by simp
        have e2 : (U2.alloc (.cells #[.string ⟨#[]⟩, .slice none 0 0, .int .i64 0] 52)).cell? ⟨U2.heap.size, 2, none⟩ = some (.int .i64 0) := by simp
        have fG : ∀ j, (U2.alloc (.cells #[.string ⟨#[]⟩, .slice none 0 0, .int .i64 0] 52)).frozen? ⟨U2.heap.size, j, none⟩ = false := fun j => by simp [go_sem]
        have hG : U2.heap.size < (U2.alloc (.cells #[.string ⟨#[]⟩, .slice none 0 0, .int .i64 0] 52)).heap.size := by simp
        have hG0 : w5.heap.size ≤ U2.heap.size := hHeld.1.size
        refine hK.out _ _ ?_ (fun hHeld => ?_)
        · try dsimp only
          first | assumption | (refine sz14 ?_ hb rfl; assumption)
        clear hK K
        try simp only [Act.put, List.setIfInBounds_toArray, List.set_cons_zero, List.set_cons_succ]
        refine wpAnyH_ready (rs := [3]) (by kernel_rfl) (by simp) ?_
        refine AllReadyH.cons rfl (fun K hK => ?_) AllReadyH.nil
        have oX := o4.below hHeld.1
        go_simp
        have hGS := hG
        have hZS := hHeld.1.size
        have hc := implDeleteItems_any s0 A4 n4 c4 u0 l4 ha1 hb1 k1 n1 s1 k1_ n1_ s1_ (U2.alloc (.cells #[.string ⟨#[]⟩, .slice none 0 0, .int .i64 0] 52)) q0 (rdI_n oX.rd h0 e4 ▸ hn20) (rdI_small oX.rd (e4 ▸ hsum)) (strs_of e4 hstr) m1 m1_ (by rw [e4]; exact o0) oX.rd
        rw [e4, ← HD.out, ← HZ.out] at hc
        refine hc.mono ?_; rintro e U3 ⟨AS, NS, CS, LS, rfl, eS, os, hb⟩
        try go_wp2_with fail
        clear hc oX
        replace e0 := kcell hb e0
        replace e1 := kcell hb e1
        replace e2 := kcell hb e2
        replace fG : ∀ j, U3.frozen? ⟨U2.heap.size, j, none⟩ = false := fun j => (hb.frozen (p := ⟨U2.heap.size, j, none⟩) hG).trans (fG j)
        replace hG := Nat.lt_of_lt_of_le hG hb.size
        have RS := OwnI.rng os
        refine hK.out _ _ ?_ (fun hHeld => ?_)
        · try dsimp only
          first | assumption | (refine sz14 ?_ hb rfl; assumption)
        clear hK K
        try simp only [Act.put, List.setIfInBounds_toArray, List.set_cons_zero, List.set_cons_succ]
        refine takeD (i := 4) (d := some 36) (v := ?_) _ rfl rfl (by kernel_rfl) (by kernel_rfl) (by kernel_rfl) (fun _ _ _ h => h) (Or.inl ⟨by rfl, ?_⟩) (by assumption) ?_
        rotate_left
        · (intro W hSw; (try dsimp only at hSw); go_simp; try with_reducible rfl)
        try simp only [Act.put, List.setIfInBounds_toArray, List.set_cons_zero, List.set_cons_succ]
        refine takeD (i := 5) (d := some 41) (v := ?_) _ rfl rfl (by kernel_rfl) (by kernel_rfl) (by kernel_rfl) (fun _ _ _ h => h) (Or.inl ⟨by rfl, ?_⟩) (by assumption) ?_
        rotate_left
        · (intro W hSw; (try dsimp only at hSw); go_simp; try with_reducible rfl)
        try simp only [Act.put, List.setIfInBounds_toArray, List.set_cons_zero, List.set_cons_succ]
        refine takeD (i := 6) (d := some 42) (v := ?_) _ rfl rfl (by kernel_rfl) (by kernel_rfl) (by kernel_rfl) (fun _ _ _ h => h) (Or.inl ⟨by rfl, ?_⟩) (by assumption) ?_
        rotate_left
        · (intro W hSw; (try dsimp only at hSw); go_simp; try with_reducible rfl)
        try simp only [Act.put, List.setIfInBounds_toArray, List.set_cons_zero, List.set_cons_succ]
        refine wpAnyH_ready (rs := [8]) (by kernel_rfl) (by simp) ?_
        refine AllReadyH.cons rfl (fun K hK => ?_) AllReadyH.nil
        go_simp
        have hb : Below w5.heap.size U3 (((U3.setCell ⟨U2.heap.size, 0, none⟩ (.string s0)).setCell ⟨U2.heap.size, 1, none⟩ (.slice AS NS CS)).setCell ⟨U2.heap.size, 2, none⟩ (.int .i64 u0)) := (((Below.refl _ _).setCell (p := ⟨U2.heap.size, 0, none⟩) hG0 _).setCell (p := ⟨U2.heap.size, 1, none⟩) hG0 _).setCell (p := ⟨U2.heap.size, 2, none⟩) hG0 _
        refine hK.out _ _ ?_ (fun hHeld => ?_)
        · try dsimp only
          exact szB14 hHeld hb (by show w.heap.size < _; omega) (by show w.heap.size < _; omega) (by show w.heap.size < _; omega) (by show w.heap.size + 1 < _; omega) (by show w.heap.size + 1 < _; omega) (by show w.heap.size + 1 < _; omega) (by show w.heap.size + 1 < _; omega) (by show w.heap.size + 1 < _; omega) (by show w.heap.size + 1 < _; omega) (by show w.heap.size + 1 < _; omega) (by show w.heap.size + 1 < _; omega) (by show w4.heap.size < _; omega) (by show w4.heap.size < _; omega) (by show w4.heap.size < _; omega)
        clear hK K
        try simp only [Act.put, List.setIfInBounds_toArray, List.set_cons_zero, List.set_cons_succ]
        refine takeD (i := 9) (d := some 10) (v := ?_) _ rfl rfl (by kernel_rfl) (by kernel_rfl) (by kernel_rfl) (fun _ _ _ h => h) (Or.inl ⟨by rfl, ?_⟩) (by assumption) ?_
        rotate_left
        · (intro W hSw; (try dsimp only at hSw); go_simp; try with_reducible rfl)
        try simp only [Act.put, List.setIfInBounds_toArray, List.set_cons_zero, List.set_cons_succ]
        refine wpAnyH_done (by kernel_rfl) ?_ _
        go_wp2_with fail
        go_meet
        exact ⟨_, AS, NS, CS, LS, _, _, rfl, rfl, eS, (OwnI.setB (OwnI.setB (OwnI.setB os (a := ⟨U2.heap.size, 0, none⟩) hGS _) (a := ⟨U2.heap.size, 1, none⟩) hGS _) (a := ⟨U2.heap.size, 2, none⟩) hGS _).base hZS, ⟨by simp [go_sem, e0], by simp [go_sem, e1], by simp [go_sem, e2]⟩, RS, hZS, by simp, .inl hGS, hG0, by simpa using hG, hHeld.1⟩
    · go_simp
      have hb : Below wd.heap.size wd (wd.alloc (.cells #[.string ⟨#[]⟩, .slice none 0 0, .int .i64 0] 52)) := al (Below.refl _ _)
      have e0 : (wd.alloc (.cells #[.string ⟨#[]⟩, .slice none 0 0, .int .i64 0] 52)).cell? ⟨wd.heap.size, 0, none⟩ = some (.string ⟨#[]⟩) := by simp
      have e1 : (wd.alloc (.cells #[.string ⟨#[]⟩, .slice none 0 0, .int .i64 0] 52)).cell? ⟨wd.heap.size, 1, none⟩ = some (.slice none 0 0) := by simp
      have e2 : (wd.alloc (.cells #[.string ⟨#[]⟩, .slice none 0 0, .int .i64 0] 52)).cell? ⟨wd.heap.size, 2, none⟩ = some (.int .i64 0) := by simp
      have fG : ∀ j, (wd.alloc (.cells #[.string ⟨#[]⟩, .slice none 0 0, .int .i64 0] 52)).frozen? ⟨wd.heap.size, j, none⟩ = false := fun j => by simp [go_sem]
      have hG : wd.heap.size < (wd.alloc (.cells #[.string ⟨#[]⟩, .slice none 0 0, .int .i64 0] 52)).heap.size := by simp
      have hG0 : w5.heap.size ≤ wd.heap.size := hHeld.1.size
      refine hK.out _ _ ?_ (fun hHeld => ?_)
      · try dsimp only
        first | assumption | (refine sz14 ?_ hb rfl; assumption)
      clear hK K
      try simp only [Act.put, List.setIfInBounds_toArray, List.set_cons_zero, List.set_cons_succ]
      refine wpAnyH_ready (rs := [2]) (by kernel_rfl) (by simp) ?_
      refine AllReadyH.cons rfl (fun K hK => ?_) AllReadyH.nil
      go_simp
      refine (toKeyRange_any ha1 hb1 k1 n1 s1 k1_ n1_ s1_ _).mono ?_; rintro e U2 ⟨rfl, hb⟩
      try go_wp2_with fail
      replace e0 := kcell hb e0
      replace e1 := kcell hb e1
      replace e2 := kcell hb e2
      replace fG : ∀ j, U2.frozen? ⟨wd.heap.size, j, none⟩ = false := fun j => (hb.frozen (p := ⟨wd.heap.size, j, none⟩) hG).trans (fG j)
      replace hG := Nat.lt_of_lt_of_le hG hb.size
      refine hK.out _ _ ?_ (fun hHeld => ?_)
      · try dsimp only
        first | assumption | (refine sz14 ?_ hb rfl; assumption)
      clear hK K
      try simp only [Act.put, List.setIfInBounds_toArray, List.set_cons_zero, List.set_cons_succ]
      refine wpAnyH_ready (rs := [3]) (by kernel_rfl) (by simp) ?_
      refine AllReadyH.cons rfl (fun K hK => ?_) AllReadyH.nil
      have oX := o4.below hHeld.1
      go_simp
      have hGS := hG
      have hZS := hHeld.1.size
      have hc := implDeleteItems_any s0 A4 n4 c4 u0 l4 ha1 hb1 k1 n1 s1 k1_ n1_ s1_ U2 q0 (rdI_n oX.rd h0 e4 ▸ hn20) (rdI_small oX.rd (e4 ▸ hsum)) (strs_of e4 hstr) m1 m1_ (by rw [e4]; exact o0) oX.rd
      rw [e4, ← HD.out, ← HZ.out] at hc
      refine hc.mono ?_; rintro e U3 ⟨AS, NS, CS, LS, rfl, eS, os, hb⟩
      try go_wp2_with fail
      clear hc oX
      replace e0 := kcell hb e0
      replace e1 := kcell hb e1
      replace e2 := kcell hb e2
      replace fG : ∀ j, U3.frozen? ⟨wd.heap.size, j, none⟩ = false := fun j => (hb.frozen (p := ⟨wd.heap.size, j, none⟩) hG).trans (fG j)
      replace hG := Nat.lt_of_lt_of_le hG hb.size
      have RS := OwnI.rng os
      refine hK.out _ _ ?_ (fun hHeld => ?_)
      · try dsimp only
        first | assumption | (refine sz14 ?_ hb rfl; assumption)
      clear hK K
      try simp only [Act.put, List.setIfInBounds_toArray, List.set_cons_zero, List.set_cons_succ]
      refine takeD (i := 4) (d := some 36) (v := ?_) _ rfl rfl (by kernel_rfl) (by kernel_rfl) (by kernel_rfl) (fun _ _ _ h => h) (Or.inl ⟨by rfl, ?_⟩) (by assumption) ?_
      rotate_left
      · (intro W hSw; (try dsimp only at hSw); go_simp; try with_reducible rfl)
      try simp only [Act.put, List.setIfInBounds_toArray, List.set_cons_zero, List.set_cons_succ]
      refine takeD (i := 5) (d := some 41) (v := ?_) _ rfl rfl (by kernel_rfl) (by kernel_rfl) (by kernel_rfl) (fun _ _ _ h => h) (Or.inl ⟨by rfl, ?_⟩) (by assumption) ?_
      rotate_left
      · (intro W hSw; (try dsimp only at hSw); go_simp; try with_reducible rfl)
      try simp only [Act.put, List.setIfInBounds_toArray, List.set_cons_zero, List.set_cons_succ]
      refine takeD (i := 6) (d := some 42) (v := ?_) _ rfl rfl (by kernel_rfl) (by kernel_rfl) (by kernel_rfl) (fun _ _ _ h => h) (Or.inl ⟨by rfl, ?_⟩) (by assumption) ?_
      rotate_left
      · (intro W hSw; (try dsimp only at hSw); go_simp; try with_reducible rfl)
      try simp only [Act.put, List.setIfInBounds_toArray, List.set_cons_zero, List.set_cons_succ]
      refine wpAnyH_ready (rs := [8]) (by kernel_rfl) (by simp) ?_
      refine AllReadyH.cons rfl (fun K hK => ?_) AllReadyH.nil
      go_simp
      have hb : Below w5.heap.size U3 (((U3.setCell ⟨wd.heap.size, 0, none⟩ (.string s0)).setCell ⟨wd.heap.size, 1, none⟩ (.slice AS NS CS)).setCell ⟨wd.heap.size, 2, none⟩ (.int .i64 u0)) := (((Below.refl _ _).setCell (p := ⟨wd.heap.size, 0, none⟩) hG0 _).setCell (p := ⟨wd.heap.size, 1, none⟩) hG0 _).setCell (p := ⟨wd.heap.size, 2, none⟩) hG0 _
      refine hK.out _ _ ?_ (fun hHeld => ?_)
      · try dsimp only
        exact szB14 hHeld hb (by show w.heap.size < _; omega) (by show w.heap.size < _; omega) (by show w.heap.size < _; omega) (by show w.heap.size + 1 < _; omega) (by show w.heap.size + 1 < _; omega) (by show w.heap.size + 1 < _; omega) (by show w.heap.size + 1 < _; omega) (by show w.heap.size + 1 < _; omega) (by show w.heap.size + 1 < _; omega) (by show w.heap.size + 1 < _; omega) (by show w.heap.size + 1 < _; omega) (by show w4.heap.size < _; omega) (by show w4.heap.size < _; omega) (by show w4.heap.size < _; omega)
      clear hK K
      try simp only [Act.put, List.setIfInBounds_toArray, List.set_cons_zero, List.set_cons_succ]
      refine takeD (i := 9) (d := some 10) (v := ?_) _ rfl rfl (by kernel_rfl) (by kernel_rfl) (by kernel_rfl) (fun _ _ _ h => h) (Or.inl ⟨by rfl, ?_⟩) (by assumption) ?_
      rotate_left
      · (intro W hSw; (try dsimp only at hSw); go_simp; try with_reducible rfl)
      try simp only [Act.put, List.setIfInBounds_toArray, List.set_cons_zero, List.set_cons_succ]
      refine wpAnyH_done (by kernel_rfl) ?_ _
      go_wp2_with fail
      go_meet
      exact ⟨_, AS, NS, CS, LS, _, _, rfl, rfl, eS, (OwnI.setB (OwnI.setB (OwnI.setB os (a := ⟨wd.heap.size, 0, none⟩) hGS _) (a := ⟨wd.heap.size, 1, none⟩) hGS _) (a := ⟨wd.heap.size, 2, none⟩) hGS _).base hZS, ⟨by simp [go_sem, e0], by simp [go_sem, e1], by simp [go_sem, e2]⟩, RS, hZS, by simp, .inl hGS, hG0, by simpa using hG, hHeld.1⟩
  case rest =>
  obtain ⟨gjj, A6, n6, c6, l6, lo6, hi6, rfl, rfl, e6, o6, ⟨jj0, jj1, jj2⟩, R6_, hlo6, hhi6, hgd6, hge6, hgl6, b6⟩ := hcut
  obtain ⟨w6, hw6⟩ : ∃ x, x = wc := ⟨_, rfl⟩
  rw [← hw6] at o6 jj0 jj1 jj2 hhi6 hgl6 b6 ⊢
  clear hw6
  have R6 := Lib.hid R6_
  clear R6_
  replace y0 := kcell b6 y0
  replace y1 := kcell b6 y1
  replace y2 := kcell b6 y2
  have B6 : Below w.heap.size w w6 := B5.trans (b6.mono B5.size)
  have zw6 : w5.heap.size ≤ w6.heap.size := b6.size
  replace o3 := o3.below b6
  replace o4 := o4.below b6
  replace d00 := kcell b6 d00
  replace d01 := kcell b6 d01
  replace d02 := kcell b6 d02
  replace r0 := kcell b6 r0
  replace r1 := kcell b6 r1
  replace r2 := kcell b6 r2
  replace r3 := kcell b6 r3
  replace r4 := kcell b6 r4
  replace r5 := kcell b6 r5
  replace r6 := kcell b6 r6
  replace r7 := kcell b6 r7
  replace x00 := kcell b6 x00
  replace x01 := kcell b6 x01
  replace x02 := kcell b6 x02
  clear b6
  have y3_ : n3 ≤ maxLen := by have q := o3.rd.lenI; have q2 := congrArg List.length e3; rw [List.length_map] at q2; unfold maxLen; omega
  have y6 : n6 ≤ maxLen := by have q := o6.rd.lenI; have q2 := congrArg List.length e6; rw [List.length_map] at q2; unfold maxLen; omega
  have x6 := rdI_m o6.rd e6 oD
  go_wp2_with fail
  refine (eqStore_same s0 u0 A6 A3 n6 n3 c6 c3 l6 l3 _ y6 x6 (e6.trans e3.symm) o6.rd o3.rd).mono ?_
  rintro e w7 ⟨rfl, bw7⟩
  have B7 : Below w.heap.size w w7 := B6.trans (bw7.mono B6.size)
  have zw7 : w6.heap.size ≤ w7.heap.size := bw7.size
  replace o3 := o3.below bw7
  replace o4 := o4.below bw7
  replace o6 := o6.below bw7
  replace d00 := kcell bw7 d00
  replace d01 := kcell bw7 d01
  replace d02 := kcell bw7 d02
  replace r0 := kcell bw7 r0
  replace r1 := kcell bw7 r1
  replace r2 := kcell bw7 r2
  replace r3 := kcell bw7 r3
  replace r4 := kcell bw7 r4
  replace r5 := kcell bw7 r5
  replace r6 := kcell bw7 r6
  replace r7 := kcell bw7 r7
  replace y0 := kcell bw7 y0
  replace y1 := kcell bw7 y1
  replace y2 := kcell bw7 y2
  replace x00 := kcell bw7 x00
  replace x01 := kcell bw7 x01
  replace x02 := kcell bw7 x02
  replace jj0 := kcell bw7 jj0
  replace jj1 := kcell bw7 jj1
  replace jj2 := kcell bw7 jj2
  clear bw7
  have nx0 : n4 ≤ maxLen := by have q := rdI_n o4.rd h0 e4; unfold maxLen; omega
  have mx0 := rdI_m o4.rd e4 o0
  go_wp2
  go_region_held3 (fun W => Below w7.heap.size w7 W ∧ W.cell? ⟨w.heap.size, 0, none⟩ = some (.string s0) ∧ W.cell? ⟨w.heap.size, 1, none⟩ = some (.slice A0 n0 c0) ∧ W.cell? ⟨w.heap.size, 2, none⟩ = some (.int .i64 u0) ∧ W.cell? ⟨w.heap.size + 1, 0, none⟩ = some (.bool ha1) ∧ W.cell? ⟨w.heap.size + 1, 1, none⟩ = some (.bool hb1) ∧ W.cell? ⟨w.heap.size + 1, 2, none⟩ = some (.int .i64 k1) ∧ W.cell? ⟨w.heap.size + 1, 3, none⟩ = some (.int .i64 n1) ∧ W.cell? ⟨w.heap.size + 1, 4, none⟩ = some (.string s1) ∧ W.cell? ⟨w.heap.size + 1, 5, none⟩ = some (.int .i64 k1_) ∧ W.cell? ⟨w.heap.size + 1, 6, none⟩ = some (.int .i64 n1_) ∧ W.cell? ⟨w.heap.size + 1, 7, none⟩ = some (.string s1_) ∧ W.cell? ⟨w4.heap.size, 0, none⟩ = some (.string s0) ∧ W.cell? ⟨w4.heap.size, 1, none⟩ = some (.slice A4 n4 c4) ∧ W.cell? ⟨w4.heap.size, 2, none⟩ = some (.int .i64 u0))
    (first | assumption | (refine sz14 ?_ hb rfl; assumption) | exact ⟨(Below.refl _ _).drew, d00, d01, d02, r0, r1, r2, r3, r4, r5, r6, r7, x00, x01, x02⟩)
    (first
      | (go_at_call 37; refine (toStore_any s0 A0 n0 c0 u0 l0 _ t0 v0 (h0.below (B7.trans ((And.left ‹Below w7.heap.size w7 _ ∧ _›).mono B7.size)))).mono ?_; rintro e Wz ⟨Az, nz, cz, lz, rfl, ez, oz, hb⟩)
      | (go_at_call 40; refine (eqStore_same s0 u0 A4 _ n4 _ c4 _ l4 _ _ nx0 mx0 ?_ (RdI.below o4.rd (And.left ‹Below w7.heap.size w7 _ ∧ _›)) (OwnI.rd ‹_›)).mono ?_; exact e4.trans (Eq.symm (by assumption)); rintro e w8 ⟨rfl, hb⟩))
  obtain ⟨bw8, d00, d01, d02, r0, r1, r2, r3, r4, r5, r6, r7, x00, x01, x02⟩ := ‹Below w7.heap.size w7 w8 ∧ _›
  have B8 := B7.trans (bw8.mono B7.size)
  have zw8 : w7.heap.size ≤ w8.heap.size := bw8.size
  replace o3 := o3.below bw8
  replace o4 := o4.below bw8
  replace o6 := o6.below bw8
  replace y0 := kcell bw8 y0
  replace y1 := kcell bw8 y1
  replace y2 := kcell bw8 y2
  replace jj0 := kcell bw8 jj0
  replace jj1 := kcell bw8 jj1
  replace jj2 := kcell bw8 jj2
  clear bw8
  obtain ⟨e0, he0⟩ : ∃ q, q = mkN 1 l4 := ⟨_, rfl⟩
  have He0 := Lib.hid he0
  have le0 : e0 ≤ 1099511627776 := by have q := mkN_le l4 1 (fun x hx => (o4.rd.2 x hx).lenF); rw [e4] at q; have q2 := o4.rd.lenI; have q3 := rdI_n o4.rd h0 e4; omega
  have pe0 : 0 < e0 := by have q := mkN_ge l4 1; omega
  have ie0 : ¬ ((e0 : Nat) : Int) < 0 := by omega
  have nn4 : n4 ≤ 1099511627776 := by have q3 := rdI_n o4.rd h0 e4; omega
  clear he0
  go_wp2_with fail
  refine (markStore_q s0 u0 A4 n4 c4 _ 1 e0 w3.heap.size w4.heap.size l4 _ (by omega) He0.out le0 nn4 o4 R4.out).mono ?_
  rintro e w9 ⟨rfl, o4m, bw9⟩
  have B9 : Below w.heap.size w w9 := B8.trans (bw9.toBelow (by omega) B8.size)
  have zw9 : w8.heap.size ≤ w9.heap.size := bw9.size
  replace o3 := o3.mid bw9 R3.out (by omega)
  replace o6 := o6.mid bw9 R6.out (by omega)
  replace d00 := bw9.cell d00 (by omega)
  replace d01 := bw9.cell d01 (by omega)
  replace d02 := bw9.cell d02 (by omega)
  replace r0 := bw9.cell r0 (by omega)
  replace r1 := bw9.cell r1 (by omega)
  replace r2 := bw9.cell r2 (by omega)
  replace r3 := bw9.cell r3 (by omega)
  replace r4 := bw9.cell r4 (by omega)
  replace r5 := bw9.cell r5 (by omega)
  replace r6 := bw9.cell r6 (by omega)
  replace r7 := bw9.cell r7 (by omega)
  replace y0 := bw9.cell y0 (by omega)
  replace y1 := bw9.cell y1 (by omega)
  replace y2 := bw9.cell y2 (by omega)
  replace jj0 := bw9.cell jj0 (by omega)
  replace jj1 := bw9.cell jj1 (by omega)
  replace jj2 := bw9.cell jj2 (by omega)
  clear bw9
  clear o4 o4m mx0
  clear x00 x01 x02
  go_wp2_with fail
  refine (eqStore_same s0 u0 A6 A3 n6 n3 c6 c3 l6 l3 _ y6 x6 (e6.trans e3.symm) o6.rd o3.rd).mono ?_
  rintro e w10 ⟨rfl, bw10⟩
  have B10 : Below w.heap.size w w10 := B9.trans (bw10.mono B9.size)
  have zw10 : w9.heap.size ≤ w10.heap.size := bw10.size
  replace o3 := o3.below bw10
  replace o6 := o6.below bw10
  replace d00 := kcell bw10 d00
  replace d01 := kcell bw10 d01
  replace d02 := kcell bw10 d02
  replace r0 := kcell bw10 r0
  replace r1 := kcell bw10 r1
  replace r2 := kcell bw10 r2
  replace r3 := kcell bw10 r3
  replace r4 := kcell bw10 r4
  replace r5 := kcell bw10 r5
  replace r6 := kcell bw10 r6
  replace r7 := kcell bw10 r7
  replace y0 := kcell bw10 y0
  replace y1 := kcell bw10 y1
  replace y2 := kcell bw10 y2
  replace jj0 := kcell bw10 jj0
  replace jj1 := kcell bw10 jj1
  replace jj2 := kcell bw10 jj2
  clear bw10
  obtain ⟨eg, heg⟩ : ∃ q, q = mkN 1 l6 := ⟨_, rfl⟩
  have Heg := Lib.hid heg
  have leg : eg ≤ 1099511627776 := by have q := mkN_le l6 1 (fun x hx => (o6.rd.2 x hx).lenF); rw [e6] at q; have q2 := o6.rd.lenI; have q3 := congrArg List.length e6; rw [List.length_map] at q3; omega
  have peg : 0 < eg := by have q := mkN_ge l6 1; omega
  have ieg : ¬ ((eg : Nat) : Int) < 0 := by omega
  have nn6 : n6 ≤ 1099511627776 := by unfold maxLen at y6; have q2 := o6.rd.lenI; have q3 := congrArg List.length e6; rw [List.length_map] at q3; omega
  clear heg ie0
  go_wp2_with fail
  refine (markStore_q s0 u0 A6 n6 c6 _ 1 eg lo6 hi6 l6 _ (by omega) Heg.out leg nn6 o6 R6.out).mono ?_
  rintro e w11 ⟨rfl, o6m, bw11⟩
  have B11 : Below w.heap.size w w11 := B10.trans (bw11.toBelow (by omega) B10.size)
  have zw11 : w10.heap.size ≤ w11.heap.size := bw11.size
  replace o3 := o3.mid bw11 R3.out (by omega)
  replace d00 := bw11.cell d00 (by omega)
  replace d01 := bw11.cell d01 (by omega)
  replace d02 := bw11.cell d02 (by omega)
  replace r0 := bw11.cell r0 (by omega)
  replace r1 := bw11.cell r1 (by omega)
  replace r2 := bw11.cell r2 (by omega)
  replace r3 := bw11.cell r3 (by omega)
  replace r4 := bw11.cell r4 (by omega)
  replace r5 := bw11.cell r5 (by omega)
  replace r6 := bw11.cell r6 (by omega)
  replace r7 := bw11.cell r7 (by omega)
  replace y0 := bw11.cell y0 (by omega)
  replace y1 := bw11.cell y1 (by omega)
  replace y2 := bw11.cell y2 (by omega)
  replace jj0 := bw11.cell jj0 (by omega)
  replace jj1 := bw11.cell jj1 (by omega)
  replace jj2 := bw11.cell jj2 (by omega)
  clear bw11
  clear o6 x6
  go_wp2_with fail
  refine (heldStore_q s0 u0 A6 n6 c6 1 eg l6 _ (by omega) Heg.out leg nn6 o6m.rd).mono ?_
  rintro e w12 ⟨rfl, bw12⟩
  have B12 : Below w.heap.size w w12 := B11.trans (bw12.mono B11.size)
  have zw12 : w11.heap.size ≤ w12.heap.size := bw12.size
  replace o3 := o3.below bw12
  replace o6m := o6m.below bw12
  replace d00 := kcell bw12 d00
  replace d01 := kcell bw12 d01
  replace d02 := kcell bw12 d02
  replace r0 := kcell bw12 r0
  replace r1 := kcell bw12 r1
  replace r2 := kcell bw12 r2
  replace r3 := kcell bw12 r3
  replace r4 := kcell bw12 r4
  replace r5 := kcell bw12 r5
  replace r6 := kcell bw12 r6
  replace r7 := kcell bw12 r7
  replace y0 := kcell bw12 y0
  replace y1 := kcell bw12 y1
  replace y2 := kcell bw12 y2
  replace jj0 := kcell bw12 jj0
  replace jj1 := kcell bw12 jj1
  replace jj2 := kcell bw12 jj2
  clear bw12
  go_wp2_with fail
  go_cut [14, 15] (fun x y wx => ∃ (g : Nat) (A : Option Addr) (n c : Nat) (lw : List Itm) (lo hi : Nat), x = .pointer (some ⟨g, 0, none⟩) ∧ y = .int .i64 Z ∧ lw.map Itm.l = D ∧ OwnI wx w12.heap.size A n c lw ∧ (wx.cell? ⟨g, 0, none⟩ = some (.string s0) ∧ wx.cell? ⟨g, 1, none⟩ = some (.slice A n c) ∧ wx.cell? ⟨g, 2, none⟩ = some (.int .i64 u0)) ∧ RgI A lw lo hi ∧ w12.heap.size ≤ lo ∧ hi ≤ wx.heap.size ∧ (g < lo ∨ hi ≤ g) ∧ w12.heap.size ≤ g ∧ g < wx.heap.size ∧ Below w12.heap.size w12 wx)
  case first =>
    refine wp_region_held_drew (S := fun W => Below w12.heap.size w12 W ∧ W.cell? ⟨w.heap.size, 0, none⟩ = some (.string s0) ∧ W.cell? ⟨w.heap.size, 1, none⟩ = some (.slice A0 n0 c0) ∧ W.cell? ⟨w.heap.size, 2, none⟩ = some (.int .i64 u0) ∧ W.cell? ⟨w.heap.size + 1, 0, none⟩ = some (.bool ha1) ∧ W.cell? ⟨w.heap.size + 1, 1, none⟩ = some (.bool hb1) ∧ W.cell? ⟨w.heap.size + 1, 2, none⟩ = some (.int .i64 k1) ∧ W.cell? ⟨w.heap.size + 1, 3, none⟩ = some (.int .i64 n1) ∧ W.cell? ⟨w.heap.size + 1, 4, none⟩ = some (.string s1) ∧ W.cell? ⟨w.heap.size + 1, 5, none⟩ = some (.int .i64 k1_) ∧ W.cell? ⟨w.heap.size + 1, 6, none⟩ = some (.int .i64 n1_) ∧ W.cell? ⟨w.heap.size + 1, 7, none⟩ = some (.string s1_)) (by kernel_rfl) ?_ (fun hHeld => ?_)
    · exact ⟨(Below.refl _ _).drew, d00, d01, d02, r0, r1, r2, r3, r4, r5, r6, r7⟩
    generalize w12.drew = wd at hHeld ⊢
    refine takeD (i := 0) (d := some 85) (v := ?_) _ rfl rfl (by kernel_rfl) (by kernel_rfl) (by kernel_rfl) (fun _ _ _ h => h) (Or.inl ⟨by rfl, ?_⟩) (by assumption) ?_
    rotate_left
    · (intro W hSw; (try dsimp only at hSw); go_simp; try with_reducible rfl)
    try simp only [Act.put, List.setIfInBounds_toArray, List.set_cons_zero, List.set_cons_succ]
    refine takeD (i := 2) (d := some 87) (v := ?_) _ rfl rfl (by kernel_rfl) (by kernel_rfl) (by kernel_rfl) (fun _ _ _ h => h) (Or.inl ⟨by rfl, ?_⟩) (by assumption) ?_
    rotate_left
    · (intro W hSw; (try dsimp only at hSw); go_simp; try with_reducible rfl)
    try simp only [Act.put, List.setIfInBounds_toArray, List.set_cons_zero, List.set_cons_succ]
    refine wpAnyH_ready (rs := [1, 8]) (by kernel_rfl) (by simp) ?_
    refine AllReadyH.cons rfl (fun K hK => ?_) (AllReadyH.cons rfl (fun K hK => ?_) AllReadyH.nil)
    · go_simp
      refine (toStore_any s0 A0 n0 c0 u0 l0 _ t0 v0 (h0.below (B12.trans (hHeld.1.mono B12.size)))).mono ?_; rintro e U1 ⟨AX, NX, CX, LX, rfl, eX, oX, hb⟩
      try go_wp2_with fail
      refine hK.out _ _ ?_ (fun hHeld => ?_)
      · try dsimp only
        first | assumption | (refine sz11 ?_ hb rfl; assumption)
      clear hK K
      try simp only [Act.put, List.setIfInBounds_toArray, List.set_cons_zero, List.set_cons_succ]
      refine wpAnyH_ready (rs := [3, 8]) (by kernel_rfl) (by simp) ?_
      refine AllReadyH.cons rfl (fun K hK => ?_) (AllReadyH.cons rfl (fun K hK => ?_) AllReadyH.nil)
      · go_simp
        refine (toKeyRange_any ha1 hb1 k1 n1 s1 k1_ n1_ s1_ _).mono ?_; rintro e U3 ⟨rfl, hb⟩
        try go_wp2_with fail
        replace oX := oX.below hb
        refine hK.out _ _ ?_ (fun hHeld => ?_)
        · try dsimp only
          first | assumption | (refine sz11 ?_ hb rfl; assumption)
        clear hK K
        try simp only [Act.put, List.setIfInBounds_toArray, List.set_cons_zero, List.set_cons_succ]
        refine wpAnyH_ready (rs := [4, 8]) (by kernel_rfl) (by simp) ?_
        refine AllReadyH.cons rfl (fun K hK => ?_) (AllReadyH.cons rfl (fun K hK => ?_) AllReadyH.nil)
        · go_simp
          have hZS := hHeld.1.size
          have hc := implDeleteItems_any s0 AX NX CX u0 LX ha1 hb1 k1 n1 s1 k1_ n1_ s1_ U3 q0 (rdI_n oX.rd h0 eX ▸ hn20) (rdI_small oX.rd (eX ▸ hsum)) (strs_of eX hstr) m1 m1_ (by rw [eX]; exact o0) oX.rd
          rw [eX, ← HD.out, ← HZ.out] at hc
          refine hc.mono ?_; rintro e U4 ⟨AS, NS, CS, LS, rfl, eS, os, hb⟩
          try go_wp2_with fail
          clear hc oX
          have RS := OwnI.rng os
          refine hK.out _ _ ?_ (fun hHeld => ?_)
          · try dsimp only
            first | assumption | (refine sz11 ?_ hb rfl; assumption)
          clear hK K
          try simp only [Act.put, List.setIfInBounds_toArray, List.set_cons_zero, List.set_cons_succ]
          refine takeD (i := 5) (d := some 84) (v := ?_) _ rfl rfl (by kernel_rfl) (by kernel_rfl) (by kernel_rfl) (fun _ _ _ h => h) (Or.inl ⟨by rfl, ?_⟩) (by assumption) ?_
          rotate_left
          · (intro W hSw; (try dsimp only at hSw); go_simp; try with_reducible rfl)
          try simp only [Act.put, List.setIfInBounds_toArray, List.set_cons_zero, List.set_cons_succ]
          refine takeD (i := 6) (d := some 90) (v := ?_) _ rfl rfl (by kernel_rfl) (by kernel_rfl) (by kernel_rfl) (fun _ _ _ h => h) (Or.inl ⟨by rfl, ?_⟩) (by assumption) ?_
          rotate_left
          · (intro W hSw; (try dsimp only at hSw); go_simp; try with_reducible rfl)
          try simp only [Act.put, List.setIfInBounds_toArray, List.set_cons_zero, List.set_cons_succ]
          refine takeD (i := 7) (d := some 91) (v := ?_) _ rfl rfl (by kernel_rfl) (by kernel_rfl) (by kernel_rfl) (fun _ _ _ h => h) (Or.inl ⟨by rfl, ?_⟩) (by assumption) ?_
          rotate_left
          · (intro W hSw; (try dsimp only at hSw); go_simp; try with_reducible rfl)
          try simp only [Act.put, List.setIfInBounds_toArray, List.set_cons_zero, List.set_cons_succ]
          refine wpAnyH_ready (rs := [8]) (by kernel_rfl) (by simp) ?_
          refine AllReadyH.cons rfl (fun K hK => ?_) AllReadyH.nil
          go_simp
          have hb : Below U4.heap.size U4 (U4.alloc (.cells #[.string ⟨#[]⟩, .slice none 0 0, .int .i64 0] 52)) := al (Below.refl _ _)
          have e0 : (U4.alloc (.cells #[.string ⟨#[]⟩, .slice none 0 0, .int .i64 0] 52)).cell? ⟨U4.heap.size, 0, none⟩ = some (.string ⟨#[]⟩) := by simp
          have e1 : (U4.alloc (.cells #[.string ⟨#[]⟩, .slice none 0 0, .int .i64 0] 52)).cell? ⟨U4.heap.size, 1, none⟩ = some (.slice none 0 0) := by simp
          have e2 : (U4.alloc (.cells #[.string ⟨#[]⟩, .slice none 0 0, .int .i64 0] 52)).cell? ⟨U4.heap.size, 2, none⟩ = some (.int .i64 0) := by simp
          have fG : ∀ j, (U4.alloc (.cells #[.string ⟨#[]⟩, .slice none 0 0, .int .i64 0] 52)).frozen? ⟨U4.heap.size, j, none⟩ = false := fun j => by simp [go_sem]
          have hG : U4.heap.size < (U4.alloc (.cells #[.string ⟨#[]⟩, .slice none 0 0, .int .i64 0] 52)).heap.size := by simp
          have hG0 : w12.heap.size ≤ U4.heap.size := hHeld.1.size
          refine hK.out _ _ ?_ (fun hHeld => ?_)
          · try dsimp only
            first | assumption | (refine sz11 ?_ hb rfl; assumption)
          clear hK K
          try simp only [Act.put, List.setIfInBounds_toArray, List.set_cons_zero, List.set_cons_succ]
          refine wpAnyH_ready (rs := [9]) (by kernel_rfl) (by simp) ?_
          refine AllReadyH.cons rfl (fun K hK => ?_) AllReadyH.nil
          go_simp
          have hb : Below U4.heap.size U4 (U4.alloc (.cells #[.string s0, .slice AS NS CS, .int .i64 u0] 52)) := al (Below.refl _ _)
          refine hK.out _ _ ?_ (fun hHeld => ?_)
          · try dsimp only
            first | assumption | (refine sz11 ?_ hb rfl; assumption)
          clear hK K
          try simp only [Act.put, List.setIfInBounds_toArray, List.set_cons_zero, List.set_cons_succ]
          refine takeD (i := 10) (d := some 15) (v := ?_) _ rfl rfl (by kernel_rfl) (by kernel_rfl) (by kernel_rfl) (fun _ _ _ h => h) (Or.inl ⟨by rfl, ?_⟩) (by assumption) ?_
          rotate_left
          · (intro W hSw; (try dsimp only at hSw); go_simp; try with_reducible rfl)
          try simp only [Act.put, List.setIfInBounds_toArray, List.set_cons_zero, List.set_cons_succ]
          refine wpAnyH_done (by kernel_rfl) ?_ _
          go_wp2_with fail
          go_meet
          exact ⟨_, AS, NS, CS, LS, _, _, rfl, rfl, eS, (os.below (al (Below.refl _ _))).base hZS, ⟨by simp, by simp, by simp⟩, RS, hZS, by simp, .inr (Nat.le_refl _), hG0, by simp, hHeld.1⟩
        · go_simp
          have hb : Below U3.heap.size U3 (U3.alloc (.cells #[.string ⟨#[]⟩, .slice none 0 0, .int .i64 0] 52)) := al (Below.refl _ _)
          replace oX := oX.below hb
          have e0 : (U3.alloc (.cells #[.string ⟨#[]⟩, .slice none 0 0, .int .i64 0] 52)).cell? ⟨U3.heap.size, 0, none⟩ = some (.string ⟨#[]⟩) := by simp
          have e1 : (U3.alloc (.cells #[.string ⟨#[]⟩, .slice none 0 0, .int .i64 0] 52)).cell? ⟨U3.heap.size, 1, none⟩ = some (.slice none 0 0) := by simp
          have e2 : (U3.alloc (.cells #[.string ⟨#[]⟩, .slice none 0 0, .int .i64 0] 52)).cell? ⟨U3.heap.size, 2, none⟩ = some (.int .i64 0) := by simp
          have fG : ∀ j, (U3.alloc (.cells #[.string ⟨#[]⟩, .slice none 0 0, .int .i64 0] 52)).frozen? ⟨U3.heap.size, j, none⟩ = false := fun j => by simp [go_sem]
          have hG : U3.heap.size < (U3.alloc (.cells #[.string ⟨#[]⟩, .slice none 0 0, .int .i64 0] 52)).heap.size := by simp
          have hG0 : w12.heap.size ≤ U3.heap.size := hHeld.1.size
          refine hK.out _ _ ?_ (fun hHeld => ?_)
          · try dsimp only
            first | assumption | (refine sz11 ?_ hb rfl; assumption)
          clear hK K
          try simp only [Act.put, List.setIfInBounds_toArray, List.set_cons_zero, List.set_cons_succ]
          refine wpAnyH_ready (rs := [4]) (by kernel_rfl) (by simp) ?_
          refine AllReadyH.cons rfl (fun K hK => ?_) AllReadyH.nil
          go_simp
          have hGS := hG
          have hZS := hHeld.1.size
          have hc := implDeleteItems_any s0 AX NX CX u0 LX ha1 hb1 k1 n1 s1 k1_ n1_ s1_ (U3.alloc (.cells #[.string ⟨#[]⟩, .slice none 0 0, .int .i64 0] 52)) q0 (rdI_n oX.rd h0 eX ▸ hn20) (rdI_small oX.rd (eX ▸ hsum)) (strs_of eX hstr) m1 m1_ (by rw [eX]; exact o0) oX.rd
          rw [eX, ← HD.out, ← HZ.out] at hc
          refine hc.mono ?_; rintro e U4 ⟨AS, NS, CS, LS, rfl, eS, os, hb⟩
          try go_wp2_with fail
          clear hc oX
          replace e0 := kcell hb e0
          replace e1 := kcell hb e1
          replace e2 := kcell hb e2
          replace fG : ∀ j, U4.frozen? ⟨U3.heap.size, j, none⟩ = false := fun j => (hb.frozen (p := ⟨U3.heap.size, j, none⟩) hG).trans (fG j)
          replace hG := Nat.lt_of_lt_of_le hG hb.size
          have RS := OwnI.rng os
          refine hK.out _ _ ?_ (fun hHeld => ?_)
          · try dsimp only
            first | assumption | (refine sz11 ?_ hb rfl; assumption)
          clear hK K
          try simp only [Act.put, List.setIfInBounds_toArray, List.set_cons_zero, List.set_cons_succ]
          refine takeD (i := 5) (d := some 84) (v := ?_) _ rfl rfl (by kernel_rfl) (by kernel_rfl) (by kernel_rfl) (fun _ _ _ h => h) (Or.inl ⟨by rfl, ?_⟩) (by assumption) ?_
          rotate_left
          · (intro W hSw; (try dsimp only at hSw); go_simp; try with_reducible rfl)
          try simp only [Act.put, List.setIfInBounds_toArray, List.set_cons_zero, List.set_cons_succ]
          refine takeD (i := 6) (d := some 90) (v := ?_) _ rfl rfl (by kernel_rfl) (by kernel_rfl) (by kernel_rfl) (fun _ _ _ h => h) (Or.inl ⟨by rfl, ?_⟩) (by assumption) ?_
          rotate_left
          · (intro W hSw; (try dsimp only at hSw); go_simp; try with_reducible rfl)
          try simp only [Act.put, List.setIfInBounds_toArray, List.set_cons_zero, List.set_cons_succ]
          refine takeD (i := 7) (d := some 91) (v := ?_) _ rfl rfl (by kernel_rfl) (by kernel_rfl) (by kernel_rfl) (fun _ _ _ h => h) (Or.inl ⟨by rfl, ?_⟩) (by assumption) ?_
          rotate_left
          · (intro W hSw; (try dsimp only at hSw); go_simp; try with_reducible rfl)
          try simp only [Act.put, List.setIfInBounds_toArray, List.set_cons_zero, List.set_cons_succ]
          refine wpAnyH_ready (rs := [9]) (by kernel_rfl) (by simp) ?_
          refine AllReadyH.cons rfl (fun K hK => ?_) AllReadyH.nil
          go_simp
          have hb : Below w12.heap.size U4 (((U4.setCell ⟨U3.heap.size, 0, none⟩ (.string s0)).setCell ⟨U3.heap.size, 1, none⟩ (.slice AS NS CS)).setCell ⟨U3.heap.size, 2, none⟩ (.int .i64 u0)) := (((Below.refl _ _).setCell (p := ⟨U3.heap.size, 0, none⟩) hG0 _).setCell (p := ⟨U3.heap.size, 1, none⟩) hG0 _).setCell (p := ⟨U3.heap.size, 2, none⟩) hG0 _
          refine hK.out _ _ ?_ (fun hHeld => ?_)
          · try dsimp only
            exact szB11 hHeld hb (by show w.heap.size < _; omega) (by show w.heap.size < _; omega) (by show w.heap.size < _; omega) (by show w.heap.size + 1 < _; omega) (by show w.heap.size + 1 < _; omega) (by show w.heap.size + 1 < _; omega) (by show w.heap.size + 1 < _; omega) (by show w.heap.size + 1 < _; omega) (by show w.heap.size + 1 < _; omega) (by show w.heap.size + 1 < _; omega) (by show w.heap.size + 1 < _; omega)
          clear hK K
          try simp only [Act.put, List.setIfInBounds_toArray, List.set_cons_zero, List.set_cons_succ]
          refine takeD (i := 10) (d := some 15) (v := ?_) _ rfl rfl (by kernel_rfl) (by kernel_rfl) (by kernel_rfl) (fun _ _ _ h => h) (Or.inl ⟨by rfl, ?_⟩) (by assumption) ?_
          rotate_left
          · (intro W hSw; (try dsimp only at hSw); go_simp; try with_reducible rfl)
          try simp only [Act.put, List.setIfInBounds_toArray, List.set_cons_zero, List.set_cons_succ]
          refine wpAnyH_done (by kernel_rfl) ?_ _
          go_wp2_with fail
          go_meet
          exact ⟨_, AS, NS, CS, LS, _, _, rfl, rfl, eS, (OwnI.setB (OwnI.setB (OwnI.setB os (a := ⟨U3.heap.size, 0, none⟩) hGS _) (a := ⟨U3.heap.size, 1, none⟩) hGS _) (a := ⟨U3.heap.size, 2, none⟩) hGS _).base hZS, ⟨by simp [go_sem, e0], by simp [go_sem, e1], by simp [go_sem, e2]⟩, RS, hZS, by simp, .inl hGS, hG0, by simpa using hG, hHeld.1⟩
      · go_simp
        have hb : Below U1.heap.size U1 (U1.alloc (.cells #[.string ⟨#[]⟩, .slice none 0 0, .int .i64 0] 52)) := al (Below.refl _ _)
        replace oX := oX.below hb
        have e0 : (U1.alloc (.cells #[.string ⟨#[]⟩, .slice none 0 0, .int .i64 0] 52)).cell? ⟨U1.heap.size, 0, none⟩ = some (.string ⟨#[]⟩) := by simp
        have e1 : (U1.alloc (.cells #[.string ⟨#[]⟩, .slice none 0 0, .int .i64 0] 52)).cell? ⟨U1.heap.size, 1, none⟩ = some (.slice none 0 0) := by simp
        have e2 : (U1.alloc (.cells #[.string ⟨#[]⟩, .slice none 0 0, .int .i64 0] 52)).cell? ⟨U1.heap.size, 2, none⟩ = some (.int .i64 0) := by simp
        have fG : ∀ j, (U1.alloc (.cells #[.string ⟨#[]⟩, .slice none 0 0, .int .i64 0] 52)).frozen? ⟨U1.heap.size, j, none⟩ = false := fun j => by simp [go_sem]
        have hG : U1.heap.size < (U1.alloc (.cells #[.string ⟨#[]⟩, .slice none 0 0, .int .i64 0] 52)).heap.size := by simp
        have hG0 : w12.heap.size ≤ U1.heap.size := hHeld.1.size
        refine hK.out _ _ ?_ (fun hHeld => ?_)
        · try dsimp only
          first | assumption | (refine sz11 ?_ hb rfl; assumption)
        clear hK K
        try simp only [Act.put, List.setIfInBounds_toArray, List.set_cons_zero, List.set_cons_succ]
        refine wpAnyH_ready (rs := [3]) (by kernel_rfl) (by simp) ?_
        refine AllReadyH.cons rfl (fun K hK => ?_) AllReadyH.nil
        go_simp
        refine (toKeyRange_any ha1 hb1 k1 n1 s1 k1_ n1_ s1_ _).mono ?_; rintro e U3 ⟨rfl, hb⟩
        try go_wp2_with fail
        replace oX := oX.below hb
        replace e0 := kcell hb e0
        replace e1 := kcell hb e1
        replace e2 := kcell hb e2
        replace fG : ∀ j, U3.frozen? ⟨U1.heap.size, j, none⟩ = false := fun j => (hb.frozen (p := ⟨U1.heap.size, j, none⟩) hG).trans (fG j)
        replace hG := Nat.lt_of_lt_of_le hG hb.size
        refine hK.out _ _ ?_ (fun hHeld => ?_)
        · try dsimp only
          first | assumption | (refine sz11 ?_ hb rfl; assumption)
        clear hK K
        try simp only [Act.put, List.setIfInBounds_toArray, List.set_cons_zero, List.set_cons_succ]
        refine wpAnyH_ready (rs := [4]) (by kernel_rfl) (by simp) ?_
        refine AllReadyH.cons rfl (fun K hK => ?_) AllReadyH.nil
        go_simp
        have hGS := hG
        have hZS := hHeld.1.size
        have hc := implDeleteItems_any s0 AX NX CX u0 LX ha1 hb1 k1 n1 s1 k1_ n1_ s1_ U3 q0 (rdI_n oX.rd h0 eX ▸ hn20) (rdI_small oX.rd (eX ▸ hsum)) (strs_of eX hstr) m1 m1_ (by rw [eX]; exact o0) oX.rd
        rw [eX, ← HD.out, ← HZ.out] at hc
        refine hc.mono ?_; rintro e U4 ⟨AS, NS, CS, LS, rfl, eS, os, hb⟩
        try go_wp2_with fail
        clear hc oX
        replace e0 := kcell hb e0
        replace e1 := kcell hb e1
        replace e2 := kcell hb e2
        replace fG : ∀ j, U4.frozen? ⟨U1.heap.size, j, none⟩ = false := fun j => (hb.frozen (p := ⟨U1.heap.size, j, none⟩) hG).trans (fG j)
        replace hG := Nat.lt_of_lt_of_le hG hb.size
        have RS := OwnI.rng os
        refine hK.out _ _ ?_ (fun hHeld => ?_)
        · try dsimp only
          first | assumption | (refine sz11 ?_ hb rfl; assumption)
        clear hK K
        try simp only [Act.put, List.setIfInBounds_toArray, List.set_cons_zero, List.set_cons_succ]
        refine takeD (i := 5) (d := some 84) (v := ?_) _ rfl rfl (by kernel_rfl) (by kernel_rfl) (by kernel_rfl) (fun _ _ _ h => h) (Or.inl ⟨by rfl, ?_⟩) (by assumption) ?_
        rotate_left
        · (intro W hSw; (try dsimp only at hSw); go_simp; try with_reducible rfl)
        try simp only [Act.put, List.setIfInBounds_toArray, List.set_cons_zero, List.set_cons_succ]
        refine takeD (i := 6) (d := some 90) (v := ?_) _ rfl rfl (by kernel_rfl) (by kernel_rfl) (by kernel_rfl) (fun _ _ _ h => h) (Or.inl ⟨by rfl, ?_⟩) (by assumption) ?_
        rotate_left
        · (intro W hSw; (try dsimp only at hSw); go_simp; try with_reducible rfl)
        try simp only [Act.put, List.setIfInBounds_toArray, List.set_cons_zero, List.set_cons_succ]
        refine takeD (i := 7) (d := some 91) (v := ?_) _ rfl rfl (by kernel_rfl) (by kernel_rfl) (by kernel_rfl) (fun _ _ _ h => h) (Or.inl ⟨by rfl, ?_⟩) (by assumption) ?_
        rotate_left
        · (intro W hSw; (try dsimp only at hSw); go_simp; try with_reducible rfl)
        try simp only [Act.put, List.setIfInBounds_toArray, List.set_cons_zero, List.set_cons_succ]
        refine wpAnyH_ready (rs := [9]) (by kernel_rfl) (by simp) ?_
        refine AllReadyH.cons rfl (fun K hK => ?_) AllReadyH.nil
        go_simp
        have hb : Below w12.heap.size U4 (((U4.setCell ⟨U1.heap.size, 0, none⟩ (.string s0)).setCell ⟨U1.heap.size, 1, none⟩ (.slice AS NS CS)).setCell ⟨U1.heap.size, 2, none⟩ (.int .i64 u0)) := (((Below.refl _ _).setCell (p := ⟨U1.heap.size, 0, none⟩) hG0 _).setCell (p := ⟨U1.heap.size, 1, none⟩) hG0 _).setCell (p := ⟨U1.heap.size, 2, none⟩) hG0 _
        refine hK.out _ _ ?_ (fun hHeld => ?_)
        · try dsimp only
          exact szB11 hHeld hb (by show w.heap.size < _; omega) (by show w.heap.size < _; omega) (by show w.heap.size < _; omega) (by show w.heap.size + 1 < _; omega) (by show w.heap.size + 1 < _; omega) (by show w.heap.size + 1 < _; omega) (by show w.heap.size + 1 < _; omega) (by show w.heap.size + 1 < _; omega) (by show w.heap.size + 1 < _; omega) (by show w.heap.size + 1 < _; omega) (by show w.heap.size + 1 < _; omega)
        clear hK K
        try simp only [Act.put, List.setIfInBounds_toArray, List.set_cons_zero, List.set_cons_succ]
        refine takeD (i := 10) (d := some 15) (v := ?_) _ rfl rfl (by kernel_rfl) (by kernel_rfl) (by kernel_rfl) (fun _ _ _ h => h) (Or.inl ⟨by rfl, ?_⟩) (by assumption) ?_
        rotate_left
        · (intro W hSw; (try dsimp only at hSw); go_simp; try with_reducible rfl)
        try simp only [Act.put, List.setIfInBounds_toArray, List.set_cons_zero, List.set_cons_succ]
        refine wpAnyH_done (by kernel_rfl) ?_ _
        go_wp2_with fail
        go_meet
        exact ⟨_, AS, NS, CS, LS, _, _, rfl, rfl, eS, (OwnI.setB (OwnI.setB (OwnI.setB os (a := ⟨U1.heap.size, 0, none⟩) hGS _) (a := ⟨U1.heap.size, 1, none⟩) hGS _) (a := ⟨U1.heap.size, 2, none⟩) hGS _).base hZS, ⟨by simp [go_sem, e0], by simp [go_sem, e1], by simp [go_sem, e2]⟩, RS, hZS, by simp, .inl hGS, hG0, by simpa using hG, hHeld.1⟩
    · go_simp
      have hb : Below wd.heap.size wd (wd.alloc (.cells #[.string ⟨#[]⟩, .slice none 0 0, .int .i64 0] 52)) := al (Below.refl _ _)
      have e0 : (wd.alloc (.cells #[.string ⟨#[]⟩, .slice none 0 0, .int .i64 0] 52)).cell? ⟨wd.heap.size, 0, none⟩ = some (.string ⟨#[]⟩) := by simp
      have e1 : (wd.alloc (.cells #[.string ⟨#[]⟩, .slice none 0 0, .int .i64 0] 52)).cell? ⟨wd.heap.size, 1, none⟩ = some (.slice none 0 0) := by simp
      have e2 : (wd.alloc (.cells #[.string ⟨#[]⟩, .slice none 0 0, .int .i64 0] 52)).cell? ⟨wd.heap.size, 2, none⟩ = some (.int .i64 0) := by simp
      have fG : ∀ j, (wd.alloc (.cells #[.string ⟨#[]⟩, .slice none 0 0, .int .i64 0] 52)).frozen? ⟨wd.heap.size, j, none⟩ = false := fun j => by simp [go_sem]
      have hG : wd.heap.size < (wd.alloc (.cells #[.string ⟨#[]⟩, .slice none 0 0, .int .i64 0] 52)).heap.size := by simp
      have hG0 : w12.heap.size ≤ wd.heap.size := hHeld.1.size
      refine hK.out _ _ ?_ (fun hHeld => ?_)
      · try dsimp only
        first | assumption | (refine sz11 ?_ hb rfl; assumption)
      clear hK K
      try simp only [Act.put, List.setIfInBounds_toArray, List.set_cons_zero, List.set_cons_succ]
      refine wpAnyH_ready (rs := [1]) (by kernel_rfl) (by simp) ?_
      refine AllReadyH.cons rfl (fun K hK => ?_) AllReadyH.nil
      go_simp
      refine (toStore_any s0 A0 n0 c0 u0 l0 _ t0 v0 (h0.below (B12.trans (hHeld.1.mono B12.size)))).mono ?_; rintro e U1 ⟨AX, NX, CX, LX, rfl, eX, oX, hb⟩
      try go_wp2_with fail
      replace e0 := kcell hb e0
      replace e1 := kcell hb e1
      replace e2 := kcell hb e2
      replace fG : ∀ j, U1.frozen? ⟨wd.heap.size, j, none⟩ = false := fun j => (hb.frozen (p := ⟨wd.heap.size, j, none⟩) hG).trans (fG j)
      replace hG := Nat.lt_of_lt_of_le hG hb.size
      refine hK.out _ _ ?_ (fun hHeld => ?_)
      · try dsimp only
        first | assumption | (refine sz11 ?_ hb rfl; assumption)
      clear hK K
      try simp only [Act.put, List.setIfInBounds_toArray, List.set_cons_zero, List.set_cons_succ]
      refine wpAnyH_ready (rs := [3]) (by kernel_rfl) (by simp) ?_
      refine AllReadyH.cons rfl (fun K hK => ?_) AllReadyH.nil
      go_simp
      refine (toKeyRange_any ha1 hb1 k1 n1 s1 k1_ n1_ s1_ _).mono ?_; rintro e U3 ⟨rfl, hb⟩
      try go_wp2_with fail
      replace oX := oX.below hb
      replace e0 := kcell hb e0
      replace e1 := kcell hb e1
      replace e2 := kcell hb e2
      replace fG : ∀ j, U3.frozen? ⟨wd.heap.size, j, none⟩ = false := fun j => (hb.frozen (p := ⟨wd.heap.size, j, none⟩) hG).trans (fG j)
      replace hG := Nat.lt_of_lt_of_le hG hb.size
      refine hK.out _ _ ?_ (fun hHeld => ?_)
      · try dsimp only
        first | assumption | (refine sz11 ?_ hb rfl; assumption)
      clear hK K
      try simp only [Act.put, List.setIfInBounds_toArray, List.set_cons_zero, List.set_cons_succ]
      refine wpAnyH_ready (rs := [4]) (by kernel_rfl) (by simp) ?_
      refine AllReadyH.cons rfl (fun K hK => ?_) AllReadyH.nil
      go_simp
      have hGS := hG
      have hZS := hHeld.1.size
      have hc := implDeleteItems_any s0 AX NX CX u0 LX ha1 hb1 k1 n1 s1 k1_ n1_ s1_ U3 q0 (rdI_n oX.rd h0 eX ▸ hn20) (rdI_small oX.rd (eX ▸ hsum)) (strs_of eX hstr) m1 m1_ (by rw [eX]; exact o0) oX.rd
      rw [eX, ← HD.out, ← HZ.out] at hc
      refine hc.mono ?_; rintro e U4 ⟨AS, NS, CS, LS, rfl, eS, os, hb⟩
      try go_wp2_with fail
      clear hc oX
      replace e0 := kcell hb e0
      replace e1 := kcell hb e1
      replace e2 := kcell hb e2
      replace fG : ∀ j, U4.frozen? ⟨wd.heap.size, j, none⟩ = false := fun j => (hb.frozen (p := ⟨wd.heap.size, j, none⟩) hG).trans (fG j)
      replace hG := Nat.lt_of_lt_of_le hG hb.size
      have RS := OwnI.rng os
      refine hK.out _ _ ?_ (fun hHeld => ?_)
      · try dsimp only
        first | assumption | (refine sz11 ?_ hb rfl; assumption)
      clear hK K
      try simp only [Act.put, List.setIfInBounds_toArray, List.set_cons_zero, List.set_cons_succ]
      refine takeD (i := 5) (d := some 84) (v := ?_) _ rfl rfl (by kernel_rfl) (by kernel_rfl) (by kernel_rfl) (fun _ _ _ h => h) (Or.inl ⟨by rfl, ?_⟩) (by assumption) ?_
      rotate_left
      · (intro W hSw; (try dsimp only at hSw); go_simp; try with_reducible rfl)
      try simp only [Act.put, List.setIfInBounds_toArray, List.set_cons_zero, List.set_cons_succ]
      refine takeD (i := 6) (d := some 90) (v := ?_) _ rfl rfl (by kernel_rfl) (by kernel_rfl) (by kernel_rfl) (fun _ _ _ h => h) (Or.inl ⟨by rfl, ?_⟩) (by assumption) ?_
      rotate_left
      · (intro W hSw; (try dsimp only at hSw); go_simp; try with_reducible rfl)
      try simp only [Act.put, List.setIfInBounds_toArray, List.set_cons_zero, List.set_cons_succ]
      refine takeD (i := 7) (d := some 91) (v := ?_) _ rfl rfl (by kernel_rfl) (by kernel_rfl) (by kernel_rfl) (fun _ _ _ h => h) (Or.inl ⟨by rfl, ?_⟩) (by assumption) ?_
      rotate_left
      · (intro W hSw; (try dsimp only at hSw); go_simp; try with_reducible rfl)
      try simp only [Act.put, List.setIfInBounds_toArray, List.set_cons_zero, List.set_cons_succ]
      refine wpAnyH_ready (rs := [9]) (by kernel_rfl) (by simp) ?_
      refine AllReadyH.cons rfl (fun K hK => ?_) AllReadyH.nil
      go_simp
      have hb : Below w12.heap.size U4 (((U4.setCell ⟨wd.heap.size, 0, none⟩ (.string s0)).setCell ⟨wd.heap.size, 1, none⟩ (.slice AS NS CS)).setCell ⟨wd.heap.size, 2, none⟩ (.int .i64 u0)) := (((Below.refl _ _).setCell (p := ⟨wd.heap.size, 0, none⟩) hG0 _).setCell (p := ⟨wd.heap.size, 1, none⟩) hG0 _).setCell (p := ⟨wd.heap.size, 2, none⟩) hG0 _
      refine hK.out _ _ ?_ (fun hHeld => ?_)
      · try dsimp only
        exact szB11 hHeld hb (by show w.heap.size < _; omega) (by show w.heap.size < _; omega) (by show w.heap.size < _; omega) (by show w.heap.size + 1 < _; omega) (by show w.heap.size + 1 < _; omega) (by show w.heap.size + 1 < _; omega) (by show w.heap.size + 1 < _; omega) (by show w.heap.size + 1 < _; omega) (by show w.heap.size + 1 < _; omega) (by show w.heap.size + 1 < _; omega) (by show w.heap.size + 1 < _; omega)
      clear hK K
      try simp only [Act.put, List.setIfInBounds_toArray, List.set_cons_zero, List.set_cons_succ]
      refine takeD (i := 10) (d := some 15) (v := ?_) _ rfl rfl (by kernel_rfl) (by kernel_rfl) (by kernel_rfl) (fun _ _ _ h => h) (Or.inl ⟨by rfl, ?_⟩) (by assumption) ?_
      rotate_left
      · (intro W hSw; (try dsimp only at hSw); go_simp; try with_reducible rfl)
      try simp only [Act.put, List.setIfInBounds_toArray, List.set_cons_zero, List.set_cons_succ]
      refine wpAnyH_done (by kernel_rfl) ?_ _
      go_wp2_with fail
      go_meet
      exact ⟨_, AS, NS, CS, LS, _, _, rfl, rfl, eS, (OwnI.setB (OwnI.setB (OwnI.setB os (a := ⟨wd.heap.size, 0, none⟩) hGS _) (a := ⟨wd.heap.size, 1, none⟩) hGS _) (a := ⟨wd.heap.size, 2, none⟩) hGS _).base hZS, ⟨by simp [go_sem, e0], by simp [go_sem, e1], by simp [go_sem, e2]⟩, RS, hZS, by simp, .inl hGS, hG0, by simpa using hG, hHeld.1⟩
  case rest =>
  obtain ⟨gpp, A13, n13, c13, l13, lo13, hi13, rfl, rfl, e13, o13, ⟨pp0, pp1, pp2⟩, R13_, hlo13, hhi13, hgd13, hge13, hgl13, b13⟩ := hcut
  obtain ⟨w13, hw13⟩ : ∃ x, x = wc := ⟨_, rfl⟩
  rw [← hw13] at o13 pp0 pp1 pp2 hhi13 hgl13 b13 ⊢
  clear hw13
  have R13 := Lib.hid R13_
  clear R13_
  replace y0 := kcell b13 y0
  replace y1 := kcell b13 y1
  replace y2 := kcell b13 y2
  replace jj0 := kcell b13 jj0
  replace jj1 := kcell b13 jj1
  replace jj2 := kcell b13 jj2
  have B13 : Below w.heap.size w w13 := B12.trans (b13.mono B12.size)
  have zw13 : w12.heap.size ≤ w13.heap.size := b13.size
  replace o3 := o3.below b13
  replace o6m := o6m.below b13
  replace d00 := kcell b13 d00
  replace d01 := kcell b13 d01
  replace d02 := kcell b13 d02
  replace r0 := kcell b13 r0
  replace r1 := kcell b13 r1
  replace r2 := kcell b13 r2
  replace r3 := kcell b13 r3
  replace r4 := kcell b13 r4
  replace r5 := kcell b13 r5
  replace r6 := kcell b13 r6
  replace r7 := kcell b13 r7
  clear b13
  have y13 : n13 ≤ maxLen := by have q := o13.rd.lenI; have q2 := congrArg List.length e13; rw [List.length_map] at q2; unfold maxLen; omega
  have x13 := rdI_m o13.rd e13 oD
  go_wp2_with fail
  refine (eqStore_same s0 u0 A13 A3 n13 n3 c13 c3 l13 l3 _ y13 x13 (e13.trans e3.symm) o13.rd o3.rd).mono ?_
  rintro e w14 ⟨rfl, bw14⟩
  have B14 : Below w.heap.size w w14 := B13.trans (bw14.mono B13.size)
  have zw14 : w13.heap.size ≤ w14.heap.size := bw14.size
  replace o6m := o6m.below bw14
  replace jj0 := kcell bw14 jj0
  replace jj1 := kcell bw14 jj1
  replace jj2 := kcell bw14 jj2
  clear bw14
  go_wp2_with fail
  refine (heldStore_q s0 u0 A6 n6 c6 1 eg l6 _ (by omega) Heg.out leg nn6 o6m.rd).mono ?_
  rintro e w15 ⟨rfl, bw15⟩
  have B15 : Below w.heap.size w w15 := B14.trans (bw15.mono B14.size)
  have zw15 : w14.heap.size ≤ w15.heap.size := bw15.size
  clear bw15
  go_wp2
  go_ret
  exact ⟨rfl, B15⟩

set_option maxRecDepth 100000 in
theorem lifted (os : Os) (started : os.Started) (H : Type) (enc : TypeId × Value → H) :
    ReturnsInHanded {} Try.checked os 17 .any (Rows.fnExactDeleteItemsSpec.pre6 enc Try.prog Try.f17 Rows.fnExactDeleteItemsRow.domain false) (Rows.fnExactDeleteItemsSpec.post enc Try.prog Try.f17 false true false false) := by
  refine returnsInHanded_of_change (C := Try.checked) own started (by kernel_rfl) Try.func17
    (ChangeSpec.witness6 (enc := enc) (C := Try.checked) false ⟨#[], #[.agg #[.string ⟨#[]⟩, .slice none 0 0, .int .i64 0], .agg #[.bool false, .bool false, .int .i64 0, .int .i64 0, .string ⟨#[]⟩, .int .i64 0, .int .i64 0, .string ⟨#[]⟩]], []⟩ 8 (by kernel_rfl) (by kernel_rfl) (by kernel_rfl) (by kernel_rfl)) ?_
  intro W base args ds gs before hval0 hW hcnd _
  have hval : ∀ (j : Nat) t v, Try.f17.params[j]? = some t → args[j]? = some v → Value.okWide Try.prog W .any base t v := hval0
  have hW' := hW
  obtain ⟨p, q, hA0, hV, rfl, hfz, hnd⟩ := hW
  have hA : DataW.TrodAll enc Try.prog W 0 (fun _ => true) true Try.f17.params.toList args.toList ds p := hA0
  rw [Try.params17] at hA hval
  obtain ⟨v0, vs0, d0, ds0, p0, q0, hargs, rfl, rfl, h0, z0⟩ := trodAll_cons hA
  obtain ⟨v1, vs1, d1, ds1, p1, q1, rfl, rfl, rfl, h1, z1⟩ := trodAll_cons z0
  obtain ⟨rfl, rfl, rfl⟩ := trodAll_nil z1
  obtain rfl : args = #[v0, v1] := by cases args; simp_all
  obtain ⟨rfl, rfl⟩ := trodVars_none hV
  obtain ⟨s0, A0, n0, c0, u0, l0, rfl, k0, m0, o0, q0, ru0⟩ := open_store (hval 0 44 v0 rfl rfl) h0
  obtain ⟨ha1, hb1, k1, n1, s1, k1_, n1_, s1_, rfl, ⟨rk1, rn1, m1⟩, rk1_, rn1_, m1_⟩ := open_range (hval 1 72 v1 rfl rfl) h1
  clear hA0 hval0
  exact (walk W s0 A0 n0 c0 u0 l0 k0 m0 o0 q0 ru0 ha1 hb1 k1 n1 s1 k1_ n1_ s1_ m1 rk1 rn1 m1_ rk1_ rn1_).mono fun e W' ⟨he, hb⟩ => ⟨_, he, law_post laidOut (by kernel_rfl) (tb := 4) rfl Try.underlying4 rfl hW' rfl hb⟩

theorem proved : Rows.FnExactDeleteItemsSaid :=
  OpenClaim.holds_of_wide 17 Try.f17 rfl rfl rfl rfl rfl rfl rfl ⟨rfl, rfl, rfl, rfl, rfl⟩ rfl rfl rfl rfl rfl (by kernel_rfl) Try.func17 (joined_of (by kernel_rfl))
    (of_decide_eq_true (by kernel_rfl)) (by unfold Func.isWrapper; first | (rw [if_pos (by decide +kernel)]; kernel_rfl) | (rw [if_neg (by decide +kernel)]; exact ⟨rfl, rfl⟩))
    (fun os started H enc _ => lifted os started H enc)
#print axioms proved
end Go.Proofs.Ytbbngihmjdndoaa.fnExactDeleteItems
