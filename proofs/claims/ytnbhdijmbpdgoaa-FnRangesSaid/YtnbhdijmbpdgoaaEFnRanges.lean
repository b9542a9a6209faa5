/-
  Proved: the law FnRanges answers true for every input and changes nothing that was there: a key is in a range exactly if it is not beyond one of the bounds. Conditions: none beyond those of the row.
  By an AI agent; no person has read it.
-/
import Derived.Test.YtnbhdijmbpdgoaaLaw
import Derived.Test.YtnbhdijmbpdgoaaDrawR
import Derived.Test.YtnbhdijmbpdgoaaDrawB
import Derived.Test.YtnbhdijmbpdgoaaKeyD
import Derived.Test.YtnbhdijmbpdgoaaKeyR
import Derived.Test.YtnbhdijmbpdgoaaSame
import Derived.Test.YtnbhdijmbpdgoaaHeld
namespace Go.Proofs.Ytnbhdijmbpdgoaa.fnRanges
open Go.ChangeShapes Go.WideShapes Go.ChangeAt Go.RowKit
open Go.ChangeMaps (open_string)
set_option linter.unusedVariables false
theorem takeD {P : Program} {ops : Array Oper} {Q : Exit → Act → World → Prop} {md : Region.Mode} {S : World → Prop} {i : Nat} {d : Option Tmp} {v : Value} {fuel : Nat} {listed : Array Bool} {a : Act} {w : World} (oi : Oper) (hi : ops[i]? = some oi) (hd : oi.dst = d)
    (hs : Region.noSelect ops = true) (hf : Region.free md ops listed i = true) (hr : (Region.ready md ops listed).contains i = true)
    (hQ : ∀ c a w, Q (.panic c) (a.put d v) w → Q (.panic c) a w) (hy : YieldsIf P ops S oi v a) (hS : S w)
    (h : wpAnyH P md ops Q S fuel (listed.setIfInBounds i true) (a.put d v) w) : wpAnyH P md ops Q S (fuel + 1) listed a w := by
  subst hd
  exact wpAnyH_take hi hs hf hr hQ hy hS h
theorem ks_stepB {w0 W W1 : World} {B nn : Nat} {A : Option Addr} {l : List Value} {p0 p1 p2 p3 p4 p5 p6 p7 p8 p9 p10 : Addr} {x0 x1 x2 x3 x4 x5 x6 x7 x8 x9 x10 : Value} (h : Below w0.heap.size w0 W ∧ W.cell? p0 = some x0 ∧ W.cell? p1 = some x1 ∧ W.cell? p2 = some x2 ∧ W.cell? p3 = some x3 ∧ W.cell? p4 = some x4 ∧ W.cell? p5 = some x5 ∧ W.cell? p6 = some x6 ∧ W.cell? p7 = some x7 ∧ W.cell? p8 = some x8 ∧ W.cell? p9 = some x9 ∧ W.cell? p10 = some x10 ∧ Rd W 1 A nn l) (hb0 : Below B W W1) (e : B = W.heap.size) : Below w0.heap.size w0 W1 ∧ W1.cell? p0 = some x0 ∧ W1.cell? p1 = some x1 ∧ W1.cell? p2 = some x2 ∧ W1.cell? p3 = some x3 ∧ W1.cell? p4 = some x4 ∧ W1.cell? p5 = some x5 ∧ W1.cell? p6 = some x6 ∧ W1.cell? p7 = some x7 ∧ W1.cell? p8 = some x8 ∧ W1.cell? p9 = some x9 ∧ W1.cell? p10 = some x10 ∧ Rd W1 1 A nn l := by
  have hb : Below W.heap.size W W1 := e ▸ hb0
  exact ⟨h.1.trans (hb.mono h.1.size), (hb.cell (World.block_lt_of_cell? W _ h.2.1)).trans h.2.1, (hb.cell (World.block_lt_of_cell? W _ h.2.2.1)).trans h.2.2.1, (hb.cell (World.block_lt_of_cell? W _ h.2.2.2.1)).trans h.2.2.2.1, (hb.cell (World.block_lt_of_cell? W _ h.2.2.2.2.1)).trans h.2.2.2.2.1, (hb.cell (World.block_lt_of_cell? W _ h.2.2.2.2.2.1)).trans h.2.2.2.2.2.1, (hb.cell (World.block_lt_of_cell? W _ h.2.2.2.2.2.2.1)).trans h.2.2.2.2.2.2.1, (hb.cell (World.block_lt_of_cell? W _ h.2.2.2.2.2.2.2.1)).trans h.2.2.2.2.2.2.2.1, (hb.cell (World.block_lt_of_cell? W _ h.2.2.2.2.2.2.2.2.1)).trans h.2.2.2.2.2.2.2.2.1, (hb.cell (World.block_lt_of_cell? W _ h.2.2.2.2.2.2.2.2.2.1)).trans h.2.2.2.2.2.2.2.2.2.1, (hb.cell (World.block_lt_of_cell? W _ h.2.2.2.2.2.2.2.2.2.2.1)).trans h.2.2.2.2.2.2.2.2.2.2.1, (hb.cell (World.block_lt_of_cell? W _ h.2.2.2.2.2.2.2.2.2.2.2.1)).trans h.2.2.2.2.2.2.2.2.2.2.2.1, h.2.2.2.2.2.2.2.2.2.2.2.2.below hb⟩
theorem ks_step {w0 W W1 : World} {B nn : Nat} {A : Option Addr} {l : List Value} {p0 p1 p2 p3 p4 p5 p6 p7 p8 p9 p10 p11 p12 p13 : Addr} {x0 x1 x2 x3 x4 x5 x6 x7 x8 x9 x10 x11 x12 x13 : Value} (h : Below w0.heap.size w0 W ∧ W.cell? p0 = some x0 ∧ W.cell? p1 = some x1 ∧ W.cell? p2 = some x2 ∧ W.cell? p3 = some x3 ∧ W.cell? p4 = some x4 ∧ W.cell? p5 = some x5 ∧ W.cell? p6 = some x6 ∧ W.cell? p7 = some x7 ∧ W.cell? p8 = some x8 ∧ W.cell? p9 = some x9 ∧ W.cell? p10 = some x10 ∧ W.cell? p11 = some x11 ∧ W.cell? p12 = some x12 ∧ W.cell? p13 = some x13 ∧ Rd W 1 A nn l) (hb0 : Below B W W1) (e : B = W.heap.size) : Below w0.heap.size w0 W1 ∧ W1.cell? p0 = some x0 ∧ W1.cell? p1 = some x1 ∧ W1.cell? p2 = some x2 ∧ W1.cell? p3 = some x3 ∧ W1.cell? p4 = some x4 ∧ W1.cell? p5 = some x5 ∧ W1.cell? p6 = some x6 ∧ W1.cell? p7 = some x7 ∧ W1.cell? p8 = some x8 ∧ W1.cell? p9 = some x9 ∧ W1.cell? p10 = some x10 ∧ W1.cell? p11 = some x11 ∧ W1.cell? p12 = some x12 ∧ W1.cell? p13 = some x13 ∧ Rd W1 1 A nn l := by
  have hb : Below W.heap.size W W1 := e ▸ hb0
  exact ⟨h.1.trans (hb.mono h.1.size), (hb.cell (World.block_lt_of_cell? W _ h.2.1)).trans h.2.1, (hb.cell (World.block_lt_of_cell? W _ h.2.2.1)).trans h.2.2.1, (hb.cell (World.block_lt_of_cell? W _ h.2.2.2.1)).trans h.2.2.2.1, (hb.cell (World.block_lt_of_cell? W _ h.2.2.2.2.1)).trans h.2.2.2.2.1, (hb.cell (World.block_lt_of_cell? W _ h.2.2.2.2.2.1)).trans h.2.2.2.2.2.1, (hb.cell (World.block_lt_of_cell? W _ h.2.2.2.2.2.2.1)).trans h.2.2.2.2.2.2.1, (hb.cell (World.block_lt_of_cell? W _ h.2.2.2.2.2.2.2.1)).trans h.2.2.2.2.2.2.2.1, (hb.cell (World.block_lt_of_cell? W _ h.2.2.2.2.2.2.2.2.1)).trans h.2.2.2.2.2.2.2.2.1, (hb.cell (World.block_lt_of_cell? W _ h.2.2.2.2.2.2.2.2.2.1)).trans h.2.2.2.2.2.2.2.2.2.1, (hb.cell (World.block_lt_of_cell? W _ h.2.2.2.2.2.2.2.2.2.2.1)).trans h.2.2.2.2.2.2.2.2.2.2.1, (hb.cell (World.block_lt_of_cell? W _ h.2.2.2.2.2.2.2.2.2.2.2.1)).trans h.2.2.2.2.2.2.2.2.2.2.2.1, (hb.cell (World.block_lt_of_cell? W _ h.2.2.2.2.2.2.2.2.2.2.2.2.1)).trans h.2.2.2.2.2.2.2.2.2.2.2.2.1, (hb.cell (World.block_lt_of_cell? W _ h.2.2.2.2.2.2.2.2.2.2.2.2.2.1)).trans h.2.2.2.2.2.2.2.2.2.2.2.2.2.1, (hb.cell (World.block_lt_of_cell? W _ h.2.2.2.2.2.2.2.2.2.2.2.2.2.2.1)).trans h.2.2.2.2.2.2.2.2.2.2.2.2.2.2.1, h.2.2.2.2.2.2.2.2.2.2.2.2.2.2.2.below hb⟩
theorem ks_rd {w0 W : World} {nn : Nat} {A : Option Addr} {l : List Value} {p0 p1 p2 p3 p4 p5 p6 p7 p8 p9 p10 p11 p12 p13 : Addr} {x0 x1 x2 x3 x4 x5 x6 x7 x8 x9 x10 x11 x12 x13 : Value} (h : Below w0.heap.size w0 W ∧ W.cell? p0 = some x0 ∧ W.cell? p1 = some x1 ∧ W.cell? p2 = some x2 ∧ W.cell? p3 = some x3 ∧ W.cell? p4 = some x4 ∧ W.cell? p5 = some x5 ∧ W.cell? p6 = some x6 ∧ W.cell? p7 = some x7 ∧ W.cell? p8 = some x8 ∧ W.cell? p9 = some x9 ∧ W.cell? p10 = some x10 ∧ W.cell? p11 = some x11 ∧ W.cell? p12 = some x12 ∧ W.cell? p13 = some x13 ∧ Rd W 1 A nn l) : Rd W 1 A nn l := h.2.2.2.2.2.2.2.2.2.2.2.2.2.2.2

set_option maxRecDepth 100000 in
set_option maxHeartbeats 4000000 in
theorem walk (w : World) (A0 : Option Addr) (n0 c0 : Nat) (l0 : List UInt8) (h0 : Rd w 1 A0 n0 (l0.map bv)) (m0 : n0 ≤ maxLen) :
    Calls Try.prog 8 #[.slice A0 n0 c0] w fun e w' => e = .returned (.bool true) ∧ Below w.heap.size w w' := by
  unfold maxLen at m0
  by_cases hb0 : (1048576 : Int) < (n0 : Int)
  · go_enter Try.func8, Try.ntmps8
    go_wp2_with fail
    refine (big_any A0 n0 c0 true _ (by omega) (decide_eq_true hb0).symm).mono ?_
    rintro e w1 ⟨rfl, rfl⟩
    go_wp2
    go_ret
    exact ⟨rfl, Below.refl _ _⟩
  have hn0 : n0 ≤ 1048576 := by omega
  go_enter Try.func8, Try.ntmps8
  go_wp2_with fail
  refine (big_any A0 n0 c0 false _ (by omega) (decide_eq_false (by omega)).symm).mono ?_
  rintro e w0 ⟨rfl, rfl⟩
  go_wp2_with fail
  refine (drawInRangeOf_any A0 n0 c0 l0 _ (by omega) h0).mono ?_
  rintro e w1 ⟨k, n, s, a, b, k1, q1, s1, k2, q2, s2, rfl, ⟨hv0, hv1, hv2⟩, B1⟩
  unfold anyK at hv0 hv1 hv2
  have hx1 := ((h0.below B1).alloc (.cells #[.int .i64 k, .int .i64 n, .string s] 26)).alloc (.cells #[.bool a, .bool b, .int .i64 k1, .int .i64 q1, .string s1, .int .i64 k2, .int .i64 q2, .string s2] 40)
  have BA : Below w1.heap.size w1 ((w1.alloc (.cells #[.int .i64 k, .int .i64 n, .string s] 26)).alloc (.cells #[.bool a, .bool b, .int .i64 k1, .int .i64 q1, .string s1, .int .i64 k2, .int .i64 q2, .string s2] 40)) := al (al (Below.refl _ _))
  go_wp2_with fail
  refine (drawDecodeKey_any A0 n0 c0 l0 _ (by omega) hx1).mono ?_
  rintro e w2 ⟨A2, n2, c2, l2, rfl, o2, hl2, b2⟩
  have c0_ : w2.cell? ⟨w1.heap.size, 0, none⟩ = some (.int .i64 k) := kcell b2 (by simp)
  have c1_ : w2.cell? ⟨w1.heap.size, 1, none⟩ = some (.int .i64 n) := kcell b2 (by simp)
  have c2_ : w2.cell? ⟨w1.heap.size, 2, none⟩ = some (.string s) := kcell b2 (by simp)
  have c3_ : w2.cell? ⟨w1.heap.size + 1, 0, none⟩ = some (.bool a) := kcell b2 (by simp)
  have c4_ : w2.cell? ⟨w1.heap.size + 1, 1, none⟩ = some (.bool b) := kcell b2 (by simp)
  have c5_ : w2.cell? ⟨w1.heap.size + 1, 2, none⟩ = some (.int .i64 k1) := kcell b2 (by simp)
  have c6_ : w2.cell? ⟨w1.heap.size + 1, 3, none⟩ = some (.int .i64 q1) := kcell b2 (by simp)
  have c7_ : w2.cell? ⟨w1.heap.size + 1, 4, none⟩ = some (.string s1) := kcell b2 (by simp)
  have c8_ : w2.cell? ⟨w1.heap.size + 1, 5, none⟩ = some (.int .i64 k2) := kcell b2 (by simp)
  have c9_ : w2.cell? ⟨w1.heap.size + 1, 6, none⟩ = some (.int .i64 q2) := kcell b2 (by simp)
  have c10_ : w2.cell? ⟨w1.heap.size + 1, 7, none⟩ = some (.string s2) := kcell b2 (by simp)
  have B2 := B1.trans ((BA.trans (b2.mono (by simp; omega))).mono B1.size)
  have hz2 : w1.heap.size + 1 < w2.heap.size := by have := b2.size; simp at this; omega
  have x2 := Rd.of_own o2
  have cp2 := own_cap o2
  have HL2 := Lib.hid (own_lenB o2)
  have q2' : n2 ≤ 20 := by have := HL2.out; omega
  clear b2 BA hx1 o2
  obtain ⟨xk, xn, xs, bo, ht⟩ : ∃ xk xn xs bo, dkT (decK l2) = (xk, xn, xs, bo) := ⟨_, _, _, _, rfl⟩
  have HT := Lib.hid ht
  have hxs := dkT_size ht
  clear ht
  go_wp2_with fail
  refine (implDecodeKey_t A2 n2 c2 l2 xk xn xs bo _ (by omega) cp2.1 cp2.2 x2 HT.out).mono ?_
  rintro e w3 ⟨rfl, b3⟩
  have B3 := B2.trans (b3.mono B2.size)
  have x3 := (x2.below b3).alloc (.cells #[.int .i64 xk, .int .i64 xn, .string xs] 26)
  have hz3 : w1.heap.size + 1 < w3.heap.size := Nat.lt_of_lt_of_le hz2 b3.size
  replace c0_ := kcell (al' (.cells #[.int .i64 xk, .int .i64 xn, .string xs] 26)) (kcell b3 c0_)
  replace c1_ := kcell (al' (.cells #[.int .i64 xk, .int .i64 xn, .string xs] 26)) (kcell b3 c1_)
  replace c2_ := kcell (al' (.cells #[.int .i64 xk, .int .i64 xn, .string xs] 26)) (kcell b3 c2_)
  replace c3_ := kcell (al' (.cells #[.int .i64 xk, .int .i64 xn, .string xs] 26)) (kcell b3 c3_)
  replace c4_ := kcell (al' (.cells #[.int .i64 xk, .int .i64 xn, .string xs] 26)) (kcell b3 c4_)
  replace c5_ := kcell (al' (.cells #[.int .i64 xk, .int .i64 xn, .string xs] 26)) (kcell b3 c5_)
  replace c6_ := kcell (al' (.cells #[.int .i64 xk, .int .i64 xn, .string xs] 26)) (kcell b3 c6_)
  replace c7_ := kcell (al' (.cells #[.int .i64 xk, .int .i64 xn, .string xs] 26)) (kcell b3 c7_)
  replace c8_ := kcell (al' (.cells #[.int .i64 xk, .int .i64 xn, .string xs] 26)) (kcell b3 c8_)
  replace c9_ := kcell (al' (.cells #[.int .i64 xk, .int .i64 xn, .string xs] 26)) (kcell b3 c9_)
  replace c10_ := kcell (al' (.cells #[.int .i64 xk, .int .i64 xn, .string xs] 26)) (kcell b3 c10_)
  have B3' := B3.alloc B3.size (.cells #[.int .i64 xk, .int .i64 xn, .string xs] 26)
  clear b3 x2 B3
  obtain ⟨r0, hr0⟩ : ∃ r0, r0 = keyB k n s := ⟨_, rfl⟩
  have H1 : Hid (r0 = inRF k n s false false 0 0 ⟨#[]⟩ 0 0 ⟨#[]⟩) := by rw [hr0]; show _ = (keyB k n s && _); simp
  have H2 : Hid (r0 = inRF k n s true true k n s k n s) := by
    rw [hr0]
    show _ = (keyB k n s && _)
    rw [cmpK_self]
    cases keyB k n s <;> rfl
  obtain ⟨r1, hr1⟩ : ∃ r1, r1 = inRF k n s a b k1 q1 s1 k2 q2 s2 := ⟨_, rfl⟩
  have HR0 := Lib.hid hr0
  have HR1 := Lib.hid hr1
  clear hr0 hr1
  have m0' : s.size ≤ maxLen := by unfold maxLen; omega
  have m1' : s1.size ≤ maxLen := by unfold maxLen; omega
  have m2' : s2.size ≤ maxLen := by unfold maxLen; omega
  have m3' : xs.size ≤ maxLen := by unfold maxLen; omega
  have mz : (⟨#[]⟩ : ByteArray).size ≤ maxLen := Nat.zero_le _
  go_wp2_with fail
  refine (implInRangeOf_any k n s false false 0 0 ⟨#[]⟩ 0 0 ⟨#[]⟩ r0 _ m0' mz mz H1.out).mono ?_
  rintro e w4 ⟨rfl, b4⟩
  have d0 : w4.cell? ⟨w3.heap.size, 0, none⟩ = some (.int .i64 xk) := kcell b4 (by simp)
  have d1 : w4.cell? ⟨w3.heap.size, 1, none⟩ = some (.int .i64 xn) := kcell b4 (by simp)
  have d2 : w4.cell? ⟨w3.heap.size, 2, none⟩ = some (.string xs) := kcell b4 (by simp)
  replace c0_ := kcell b4 c0_
  replace c1_ := kcell b4 c1_
  replace c2_ := kcell b4 c2_
  replace c3_ := kcell b4 c3_
  replace c4_ := kcell b4 c4_
  replace c5_ := kcell b4 c5_
  replace c6_ := kcell b4 c6_
  replace c7_ := kcell b4 c7_
  replace c8_ := kcell b4 c8_
  replace c9_ := kcell b4 c9_
  replace c10_ := kcell b4 c10_
  have hz4 : w3.heap.size < w4.heap.size := by have := b4.size; simp at this; omega
  have B4 := B3'.trans (b4.mono B3'.size)
  replace x3 := x3.below b4
  clear b4 B3'
  go_wp2_with fail
  refine (implInRangeOf_any k n s true true k n s k n s r0 _ m0' m0' m0' H2.out).mono ?_
  rintro e w5 ⟨rfl, b5⟩
  replace d0 := kcell b5 d0
  replace d1 := kcell b5 d1
  replace d2 := kcell b5 d2
  replace c0_ := kcell b5 c0_
  replace c1_ := kcell b5 c1_
  replace c2_ := kcell b5 c2_
  replace c3_ := kcell b5 c3_
  replace c4_ := kcell b5 c4_
  replace c5_ := kcell b5 c5_
  replace c6_ := kcell b5 c6_
  replace c7_ := kcell b5 c7_
  replace c8_ := kcell b5 c8_
  replace c9_ := kcell b5 c9_
  replace c10_ := kcell b5 c10_
  have B5 := B4.trans (b5.mono B4.size)
  replace x3 := x3.below b5
  clear b5 B4
  have hrr : (r1 == r1) = true := by simp
  have hr00 : (r0 == r0) = true := by simp
  have q2m : n2 ≤ maxLen := by unfold maxLen; omega
  cases bo
  rotate_left
  · have HEQ : Hid (true = decide (encK xk xn xs = l2)) := (decide_eq_true (dkT_enc HT.out)).symm
    clear HT
    cases r1 <;> cases r0
    all_goals
      go_wp2
      go_region_held3 (fun W => Below w.heap.size w W ∧ W.cell? ⟨w1.heap.size, 0, none⟩ = some (.int .i64 k) ∧ W.cell? ⟨w1.heap.size, 1, none⟩ = some (.int .i64 n) ∧ W.cell? ⟨w1.heap.size, 2, none⟩ = some (.string s) ∧ W.cell? ⟨w1.heap.size + 1, 0, none⟩ = some (.bool a) ∧ W.cell? ⟨w1.heap.size + 1, 1, none⟩ = some (.bool b) ∧ W.cell? ⟨w1.heap.size + 1, 2, none⟩ = some (.int .i64 k1) ∧ W.cell? ⟨w1.heap.size + 1, 3, none⟩ = some (.int .i64 q1) ∧ W.cell? ⟨w1.heap.size + 1, 4, none⟩ = some (.string s1) ∧ W.cell? ⟨w1.heap.size + 1, 5, none⟩ = some (.int .i64 k2) ∧ W.cell? ⟨w1.heap.size + 1, 6, none⟩ = some (.int .i64 q2) ∧ W.cell? ⟨w1.heap.size + 1, 7, none⟩ = some (.string s2) ∧ W.cell? ⟨w3.heap.size, 0, none⟩ = some (.int .i64 xk) ∧ W.cell? ⟨w3.heap.size, 1, none⟩ = some (.int .i64 xn) ∧ W.cell? ⟨w3.heap.size, 2, none⟩ = some (.string xs) ∧ Rd W 1 A2 n2 (l2.map bv))
        (first | assumption | (refine ks_step ?_ hb rfl; assumption) | exact ⟨B5.drew, c0_, c1_, c2_, c3_, c4_, c5_, c6_, c7_, c8_, c9_, c10_, d0, d1, d2, x3⟩)
        (first
          | (go_at_call 23; refine (implInRangeOf_any k n s a b k1 q1 s1 k2 q2 s2 _ _ m0' m1' m2' HR1.out).mono ?_; rintro e W1 ⟨rfl, hb⟩)
          | (go_at_call 21; refine (specInRangeOf_any k n s a b k1 q1 s1 k2 q2 s2 _ _ m0' m1' m2' HR1.out).mono ?_; rintro e W1 ⟨rfl, hb⟩)
          | (go_at_call 10; refine (specIsKey_any k n s _ _ m0' HR0.out).mono ?_; rintro e W1 ⟨rfl, hb⟩)
          | (go_at_call 16; refine (implEncodeKey_any xk xn xs _ m3').mono ?_; rintro e W1 ⟨Ae, ne, ce, rfl, oe, hb⟩)
          | (go_at_call 31; refine (sameBytes_any _ _ _ _ _ _ _ l2 true _ (Nat.le_trans (own_cap oe).1 (own_cap oe).2) q2m (Rd.of_own oe) ?_ HEQ.out).mono ?_; exact ks_rd ‹_›; rintro e W2 ⟨rfl, hb⟩))
      obtain ⟨BZ, _⟩ := ‹Below w.heap.size w _ ∧ _›
      go_wp2
      go_ret
      exact ⟨rfl, BZ⟩
  · clear HT
    cases r1 <;> cases r0
    all_goals
      go_wp2
      refine wp_region_held_drew (S := fun W => Below w.heap.size w W ∧ W.cell? ⟨w1.heap.size, 0, none⟩ = some (.int .i64 k) ∧ W.cell? ⟨w1.heap.size, 1, none⟩ = some (.int .i64 n) ∧ W.cell? ⟨w1.heap.size, 2, none⟩ = some (.string s) ∧ W.cell? ⟨w1.heap.size + 1, 0, none⟩ = some (.bool a) ∧ W.cell? ⟨w1.heap.size + 1, 1, none⟩ = some (.bool b) ∧ W.cell? ⟨w1.heap.size + 1, 2, none⟩ = some (.int .i64 k1) ∧ W.cell? ⟨w1.heap.size + 1, 3, none⟩ = some (.int .i64 q1) ∧ W.cell? ⟨w1.heap.size + 1, 4, none⟩ = some (.string s1) ∧ W.cell? ⟨w1.heap.size + 1, 5, none⟩ = some (.int .i64 k2) ∧ W.cell? ⟨w1.heap.size + 1, 6, none⟩ = some (.int .i64 q2) ∧ W.cell? ⟨w1.heap.size + 1, 7, none⟩ = some (.string s2) ∧ Rd W 1 A2 n2 (l2.map bv)) (by kernel_rfl) ?_ (fun hHeld => ?_)
      · exact ⟨B5.drew, c0_, c1_, c2_, c3_, c4_, c5_, c6_, c7_, c8_, c9_, c10_, x3⟩
      refine takeD (i := 0) (d := some 32) (v := ?_) _ rfl rfl (by kernel_rfl) (by kernel_rfl) (by kernel_rfl) (fun _ _ _ h => h) (Or.inl ⟨by rfl, ?_⟩) (by assumption) ?_
      rotate_left
      · (intro W hSw; (try dsimp only at hSw); go_simp; try with_reducible rfl)
      simp only [Act.put, List.setIfInBounds_toArray, List.set_cons_zero, List.set_cons_succ]
      refine takeD (i := 1) (d := some 33) (v := ?_) _ rfl rfl (by kernel_rfl) (by kernel_rfl) (by kernel_rfl) (fun _ _ _ h => h) (Or.inl ⟨by rfl, ?_⟩) (by assumption) ?_
      rotate_left
      · (intro W hSw; (try dsimp only at hSw); go_simp; try with_reducible rfl)
      simp only [Act.put, List.setIfInBounds_toArray, List.set_cons_zero, List.set_cons_succ]
      refine takeD (i := 3) (d := some 35) (v := ?_) _ rfl rfl (by kernel_rfl) (by kernel_rfl) (by kernel_rfl) (fun _ _ _ h => h) (Or.inl ⟨by rfl, ?_⟩) (by assumption) ?_
      rotate_left
      · (intro W hSw; (try dsimp only at hSw); go_simp; try with_reducible rfl)
      simp only [Act.put, List.setIfInBounds_toArray, List.set_cons_zero, List.set_cons_succ]
      refine takeD (i := 4) (d := some 36) (v := ?_) _ rfl rfl (by kernel_rfl) (by kernel_rfl) (by kernel_rfl) (fun _ _ _ h => h) (Or.inl ⟨by rfl, ?_⟩) (by assumption) ?_
      rotate_left
      · (intro W hSw; (try dsimp only at hSw); go_simp; try with_reducible rfl)
      simp only [Act.put, List.setIfInBounds_toArray, List.set_cons_zero, List.set_cons_succ]
      refine wpAnyH_ready (rs := [2]) (by kernel_rfl) (by simp) ?_
      refine AllReadyH.cons rfl (fun K hK => ?_) AllReadyH.nil
      go_simp
      refine (implInRangeOf_any k n s a b k1 q1 s1 k2 q2 s2 _ _ m0' m1' m2' HR1.out).mono ?_; rintro e W1 ⟨rfl, hb⟩
      try go_wp2_with fail
      refine hK.out _ _ ?_ (fun hHeld2 => ?_)
      · try dsimp only
        refine ks_stepB ?_ hb rfl
        assumption
      clear hK K
      try simp only [Act.put, List.setIfInBounds_toArray, List.set_cons_zero, List.set_cons_succ]
      refine wpAnyH_ready (rs := [5]) (by kernel_rfl) (by simp) ?_
      refine AllReadyH.cons rfl (fun K hK => ?_) AllReadyH.nil
      go_simp
      refine (specInRangeOf_any k n s a b k1 q1 s1 k2 q2 s2 _ _ m0' m1' m2' HR1.out).mono ?_; rintro e W2 ⟨rfl, hb⟩
      try go_wp2_with fail
      refine hK.out _ _ ?_ (fun hHeld5 => ?_)
      · try dsimp only
        refine ks_stepB ?_ hb rfl
        assumption
      clear hK K
      try simp only [Act.put, List.setIfInBounds_toArray, List.set_cons_zero, List.set_cons_succ]
      refine takeD (i := 6) (d := some 38) (v := ?_) _ rfl rfl (by kernel_rfl) (by kernel_rfl) (by kernel_rfl) (fun _ _ _ h => h) (Or.inl ⟨by rfl, ?_⟩) (by assumption) ?_
      rotate_left
      · (intro W hSw; (try dsimp only at hSw); go_simp; try with_reducible rfl)
      simp only [Act.put, List.setIfInBounds_toArray, List.set_cons_zero, List.set_cons_succ]
      refine takeD (i := 7) (d := some 39) (v := ?_) _ rfl rfl (by kernel_rfl) (by kernel_rfl) (by kernel_rfl) (fun _ _ _ h => h) (Or.inl ⟨by rfl, ?_⟩) (by assumption) ?_
      rotate_left
      · (intro W hSw; (try dsimp only at hSw); go_simp; try with_reducible rfl)
      simp only [Act.put, List.setIfInBounds_toArray, List.set_cons_zero, List.set_cons_succ]
      refine takeD (i := 8) (d := some 40) (v := ?_) _ rfl rfl (by kernel_rfl) (by kernel_rfl) (by kernel_rfl) (fun _ _ _ h => h) (Or.inl ⟨by rfl, ?_⟩) (by assumption) ?_
      rotate_left
      · (intro W hSw; (try dsimp only at hSw); go_simp; try with_reducible rfl)
      simp only [Act.put, List.setIfInBounds_toArray, List.set_cons_zero, List.set_cons_succ]
      refine takeD (i := 9) (d := some 41) (v := ?_) _ rfl rfl (by kernel_rfl) (by kernel_rfl) (by kernel_rfl) (fun _ _ _ h => h) (Or.inl ⟨by rfl, ?_⟩) (by assumption) ?_
      rotate_left
      · (intro W hSw; (try dsimp only at hSw); go_simp; try with_reducible rfl)
      simp only [Act.put, List.setIfInBounds_toArray, List.set_cons_zero, List.set_cons_succ]
      refine wpAnyH_ready (rs := [10]) (by kernel_rfl) (by simp) ?_
      refine AllReadyH.cons rfl (fun K hK => ?_) AllReadyH.nil
      go_simp
      refine (specIsKey_any k n s _ _ m0' HR0.out).mono ?_; rintro e W3 ⟨rfl, hb⟩
      try go_wp2_with fail
      refine hK.out _ _ ?_ (fun hHeld10 => ?_)
      · try dsimp only
        refine ks_stepB ?_ hb rfl
        assumption
      clear hK K
      try simp only [Act.put, List.setIfInBounds_toArray, List.set_cons_zero, List.set_cons_succ]
      refine takeD (i := 11) (d := some 43) (v := ?_) _ rfl rfl (by kernel_rfl) (by kernel_rfl) (by kernel_rfl) (fun _ _ _ h => h) (Or.inl ⟨by rfl, ?_⟩) (by assumption) ?_
      rotate_left
      · (intro W hSw; (try dsimp only at hSw); go_simp; try with_reducible rfl)
      simp only [Act.put, List.setIfInBounds_toArray, List.set_cons_zero, List.set_cons_succ]
      refine takeD (i := 12) (d := some 44) (v := ?_) _ rfl rfl (by kernel_rfl) (by kernel_rfl) (by kernel_rfl) (fun _ _ _ h => h) (Or.inl ⟨by rfl, ?_⟩) (by assumption) ?_
      rotate_left
      · (intro W hSw; (try dsimp only at hSw); go_simp; try with_reducible rfl)
      simp only [Act.put, List.setIfInBounds_toArray, List.set_cons_zero, List.set_cons_succ]
      refine takeD (i := 13) (d := some 45) (v := ?_) _ rfl rfl (by kernel_rfl) (by kernel_rfl) (by kernel_rfl) (fun _ _ _ h => h) (Or.inl ⟨by rfl, ?_⟩) (by assumption) ?_
      rotate_left
      · (intro W hSw; (try dsimp only at hSw); go_simp; try with_reducible rfl)
      simp only [Act.put, List.setIfInBounds_toArray, List.set_cons_zero, List.set_cons_succ]
      refine takeD (i := 14) (d := some 46) (v := ?_) _ rfl rfl (by kernel_rfl) (by kernel_rfl) (by kernel_rfl) (fun _ _ _ h => h) (Or.inl ⟨by rfl, ?_⟩) (by assumption) ?_
      rotate_left
      · (intro W hSw; (try dsimp only at hSw); go_simp; try with_reducible rfl)
      simp only [Act.put, List.setIfInBounds_toArray, List.set_cons_zero, List.set_cons_succ]
      refine takeD (i := 15) (d := some 47) (v := ?_) _ rfl rfl (by kernel_rfl) (by kernel_rfl) (by kernel_rfl) (fun _ _ _ h => h) (Or.inl ⟨by rfl, ?_⟩) (by assumption) ?_
      rotate_left
      · (intro W hSw; (try dsimp only at hSw); go_simp; try with_reducible rfl)
      simp only [Act.put, List.setIfInBounds_toArray, List.set_cons_zero, List.set_cons_succ]
      refine takeD (i := 16) (d := some 48) (v := ?_) _ rfl rfl (by kernel_rfl) (by kernel_rfl) (by kernel_rfl) (fun _ _ _ h => h) (Or.inl ⟨by rfl, ?_⟩) (by assumption) ?_
      rotate_left
      · (intro W hSw; (try dsimp only at hSw); go_simp; try with_reducible rfl)
      simp only [Act.put, List.setIfInBounds_toArray, List.set_cons_zero, List.set_cons_succ]
      refine takeD (i := 17) (d := some 49) (v := ?_) _ rfl rfl (by kernel_rfl) (by kernel_rfl) (by kernel_rfl) (fun _ _ _ h => h) (Or.inl ⟨by rfl, ?_⟩) (by assumption) ?_
      rotate_left
      · (intro W hSw; (try dsimp only at hSw); go_simp; try with_reducible rfl)
      simp only [Act.put, List.setIfInBounds_toArray, List.set_cons_zero, List.set_cons_succ]
      refine takeD (i := 18) (d := some 50) (v := ?_) _ rfl rfl (by kernel_rfl) (by kernel_rfl) (by kernel_rfl) (fun _ _ _ h => h) (Or.inl ⟨by rfl, ?_⟩) (by assumption) ?_
      rotate_left
      · (intro W hSw; (try dsimp only at hSw); go_simp; try with_reducible rfl)
      simp only [Act.put, List.setIfInBounds_toArray, List.set_cons_zero, List.set_cons_succ]
      refine takeD (i := 19) (d := some 51) (v := ?_) _ rfl rfl (by kernel_rfl) (by kernel_rfl) (by kernel_rfl) (fun _ _ _ h => h) (Or.inl ⟨by rfl, ?_⟩) (by assumption) ?_
      rotate_left
      · (intro W hSw; (try dsimp only at hSw); go_simp; try with_reducible rfl)
      simp only [Act.put, List.setIfInBounds_toArray, List.set_cons_zero, List.set_cons_succ]
      refine takeD (i := 20) (d := some 52) (v := ?_) _ rfl rfl (by kernel_rfl) (by kernel_rfl) (by kernel_rfl) (fun _ _ _ h => h) (Or.inl ⟨by rfl, ?_⟩) (by assumption) ?_
      rotate_left
      · (intro W hSw; (try dsimp only at hSw); go_simp; try with_reducible rfl)
      simp only [Act.put, List.setIfInBounds_toArray, List.set_cons_zero, List.set_cons_succ]
      refine takeD (i := 21) (d := some 53) (v := ?_) _ rfl rfl (by kernel_rfl) (by kernel_rfl) (by kernel_rfl) (fun _ _ _ h => h) (Or.inl ⟨by rfl, ?_⟩) (by assumption) ?_
      rotate_left
      · (intro W hSw; (try dsimp only at hSw); go_simp; try with_reducible rfl)
      simp only [Act.put, List.setIfInBounds_toArray, List.set_cons_zero, List.set_cons_succ]
      refine takeD (i := 22) (d := some 54) (v := undef) _ rfl rfl (by kernel_rfl) (by kernel_rfl) (by kernel_rfl) (fun _ _ _ h => h) (Or.inr ⟨by rfl, rfl⟩) (by assumption) ?_
      simp only [Act.put, List.setIfInBounds_toArray, List.set_cons_zero, List.set_cons_succ]
      refine takeD (i := 23) (d := some 55) (v := undef) _ rfl rfl (by kernel_rfl) (by kernel_rfl) (by kernel_rfl) (fun _ _ _ h => h) (Or.inr ⟨by rfl, rfl⟩) (by assumption) ?_
      simp only [Act.put, List.setIfInBounds_toArray, List.set_cons_zero, List.set_cons_succ]
      refine takeD (i := 24) (d := some 56) (v := undef) _ rfl rfl (by kernel_rfl) (by kernel_rfl) (by kernel_rfl) (fun _ _ _ h => h) (Or.inr ⟨by rfl, rfl⟩) (by assumption) ?_
      simp only [Act.put, List.setIfInBounds_toArray, List.set_cons_zero, List.set_cons_succ]
      refine takeD (i := 25) (d := some 57) (v := undef) _ rfl rfl (by kernel_rfl) (by kernel_rfl) (by kernel_rfl) (fun _ _ _ h => h) (Or.inr ⟨by rfl, rfl⟩) (by assumption) ?_
      simp only [Act.put, List.setIfInBounds_toArray, List.set_cons_zero, List.set_cons_succ]
      refine takeD (i := 26) (d := some 58) (v := ?_) _ rfl rfl (by kernel_rfl) (by kernel_rfl) (by kernel_rfl) (fun _ _ _ h => h) (Or.inl ⟨by rfl, ?_⟩) (by assumption) ?_
      rotate_left
      · (intro W hSw; (try dsimp only at hSw); go_simp; try with_reducible rfl)
      simp only [Act.put, List.setIfInBounds_toArray, List.set_cons_zero, List.set_cons_succ]
      refine takeD (i := 27) (d := some 59) (v := ?_) _ rfl rfl (by kernel_rfl) (by kernel_rfl) (by kernel_rfl) (fun _ _ _ h => h) (Or.inl ⟨by rfl, ?_⟩) (by assumption) ?_
      rotate_left
      · (intro W hSw; (try dsimp only at hSw); go_simp; try with_reducible rfl)
      simp only [Act.put, List.setIfInBounds_toArray, List.set_cons_zero, List.set_cons_succ]
      refine takeD (i := 28) (d := some 2) (v := ?_) _ rfl rfl (by kernel_rfl) (by kernel_rfl) (by kernel_rfl) (fun _ _ _ h => h) (Or.inl ⟨by rfl, ?_⟩) (by assumption) ?_
      rotate_left
      · (intro W hSw; (try dsimp only at hSw); go_simp; try with_reducible rfl)
      simp only [Act.put, List.setIfInBounds_toArray, List.set_cons_zero, List.set_cons_succ]
      refine wpAnyH_done (by kernel_rfl) ?_ _
      obtain ⟨BZ, _⟩ := ‹Below w.heap.size w _ ∧ _›
      go_wp2
      go_ret
      exact ⟨rfl, BZ⟩

set_option maxRecDepth 100000 in
theorem lifted (os : Os) (started : os.Started) (H : Type) (enc : TypeId × Value → H) :
    ReturnsInHanded {} Try.checked os 8 .any (Rows.fnRangesSpec.pre6 enc Try.prog Try.f8 Rows.fnRangesRow.domain false) (Rows.fnRangesSpec.post enc Try.prog Try.f8 false true false false) := by
  refine returnsInHanded_of_change (C := Try.checked) own started (by kernel_rfl) Try.func8
    (ChangeSpec.witness6 (enc := enc) (C := Try.checked) false ⟨#[], #[.slice none 0 0], []⟩ 8 (by kernel_rfl) (by kernel_rfl) (by kernel_rfl) (by kernel_rfl)) ?_
  intro W base args ds gs before hval0 hW hcnd _
  have hval : ∀ (j : Nat) t v, Try.f8.params[j]? = some t → args[j]? = some v → Value.okWide Try.prog W .any base t v := hval0
  have hW' := hW
  obtain ⟨p, q, hA0, hV, rfl, hfz, hnd⟩ := hW
  have hA : DataW.TrodAll enc Try.prog W 0 (fun _ => true) true Try.f8.params.toList args.toList ds p := hA0
  rw [Try.params8] at hA hval
  obtain ⟨v0, vs0, d0, ds0, p0, q0, hargs, rfl, rfl, h0, z0⟩ := trodAll_cons hA
  obtain ⟨rfl, rfl, rfl⟩ := trodAll_nil z0
  obtain rfl : args = #[v0] := by cases args; simp_all
  obtain ⟨rfl, rfl⟩ := trodVars_none hV
  obtain ⟨A0, n0, c0, rfl⟩ := okWide_slice Try.underlying31 (hval 0 31 v0 rfl rfl)
  obtain ⟨fu0, hf0⟩ := h0
  obtain ⟨l0, k0, m0⟩ := open_bytes Try.underlying31 Try.underlying5 cellsU8 hf0
  clear hA0 hval0
  exact (walk W A0 n0 c0 l0 k0 m0).mono fun e W' ⟨he, hb⟩ => ⟨_, he, law_post laidOut (by kernel_rfl) (tb := 4) rfl Try.underlying4 rfl hW' rfl hb⟩

theorem proved : Rows.FnRangesSaid :=
  OpenClaim.holds_of_wide 8 Try.f8 rfl rfl rfl rfl rfl rfl rfl ⟨rfl, rfl, rfl, rfl, rfl⟩ rfl rfl rfl rfl rfl (by kernel_rfl) Try.func8 (joined_of (by kernel_rfl))
    (of_decide_eq_true (by kernel_rfl)) (by unfold Func.isWrapper; first | (rw [if_pos (by decide +kernel)]; kernel_rfl) | (rw [if_neg (by decide +kernel)]; exact ⟨rfl, rfl⟩))
    (fun os started H enc _ => lifted os started H enc)
#print axioms proved
end Go.Proofs.Ytnbhdijmbpdgoaa.fnRanges
