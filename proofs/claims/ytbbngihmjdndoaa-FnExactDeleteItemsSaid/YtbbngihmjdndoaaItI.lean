/-
  Proved: the contracts of ItemsIn, of the program and of the reference. Conditions: the slices read as lists.
  By an AI agent; no person has read it.
-/
import Derived.Test.YtbbngihmjdndoaaItC
import Derived.Test.YtbbngihmjdndoaaItM
import Derived.Test.YtbbngihmjdndoaaKeyR
namespace Go.Proofs.Ytbbngihmjdndoaa
open Go.RowKit
set_option linter.unusedSimpArgs false
set_option linter.unusedVariables false

/-- The item lies in the range. -/
def inL (a b : Bool) (k1 q1 : Int) (s1 : ByteArray) (k2 q2 : Int) (s2 : ByteArray) (x : LIt) : Bool := inRF x.1 x.2.1 x.2.2.1 a b k1 q1 s1 k2 q2 s2
theorem filter_yes {p : LIt → Bool} {L : List LIt} {k : Nat} {x : LIt} (hx : L[k]? = some x) (h : p x = true) : (L.take (k + 1)).filter p = (L.take k).filter p ++ [x] := by
  rw [take_snoc hx, List.filter_append]
  simp [h]
theorem filter_no {p : LIt → Bool} {L : List LIt} {k : Nat} {x : LIt} (hx : L[k]? = some x) (h : p x = false) : (L.take (k + 1)).filter p = (L.take k).filter p := by
  rw [take_snoc hx, List.filter_append]
  simp [h]
theorem rd_new4 {w : World} {u v x y : Value} {e : TypeId} : Rd (w.alloc (.cells #[u, v, x, y] e)) 4 (some ⟨w.heap.size, 0, none⟩) 1 [u, v, x, y] :=
  ⟨rfl, fun _ => ⟨_, _, rfl, by simp, fun j z hz => by
    match j, hz with
    | 0, hz => simp at hz; subst hz; simp
    | 1, hz => simp at hz; subst hz; simp
    | 2, hz => simp at hz; subst hz; simp
    | 3, hz => simp at hz; subst hz; simp⟩⟩
theorem ones_itv (x : Itm) : ∀ u ∈ itv x, u.oneCell' = true := by
  intro u hu
  simp only [itv, List.mem_cons, List.not_mem_nil, or_false] at hu
  rcases hu with rfl | rfl | rfl | rfl <;> rfl
theorem OwnI.nil_ {w : World} {base : Nat} {A : Option Addr} {c : Nat} (h : w.ownsRow base 106 4 (.slice A 0 c) 0 []) : OwnI w base A 0 c [] := ⟨h, fun x hx => (List.not_mem_nil hx).elim, List.Pairwise.nil⟩
/-- One more item behind those of an own row. -/
theorem OwnI.push {w0 w2 w3 : World} {base base2 : Nat} {B : Option Addr} {m d : Nat} {ys : List Itm} {y : Itm} {A3 : Option Addr} {m3 d3 : Nat} (h : OwnI w2 base B m d ys) (hold : OwnI w0 base B m d ys) (h0 : w0.heap.size ≤ base2) (hb : base ≤ base2)
    (hy : w2.ownsRow base2 91 2 (.slice y.A y.m y.c) y.m (fl y.fs)) (o3 : w3.ownsRow base 106 4 (.slice A3 m3 d3) m3 (itl ys ++ itv y)) (g3 : w2.grownBy w3 (B.map (·.block))) : OwnI w3 base A3 m3 d3 (ys ++ [y]) := by
  have key : ∀ {bs : Nat} {z : Itm}, w2.ownsRow bs 91 2 (.slice z.A z.m z.c) z.m (fl z.fs) → w3.ownsRow bs 91 2 (.slice z.A z.m z.c) z.m (fl z.fs) := by
    intro bs z hz
    refine own_grown hz g3 (fun ad ha e => ?_)
    cases hB : B with
    | none => rw [hB] at e; cases e
    | some bb =>
      rw [hB] at e
      simp only [Option.map_some, Option.some.injEq] at e
      exact own_types_ne h.1 hz (by decide) bb ad hB ha e
  refine ⟨by rw [itl_append]; simpa [itl] using o3, fun z hz => ?_, ?_⟩
  · rcases List.mem_append.1 hz with hz | hz
    · exact key (h.2.1 z hz)
    · obtain rfl : z = y := by simpa using hz
      exact own_base (key hy) hb
  · refine List.pairwise_append.2 ⟨h.2.2, List.pairwise_singleton _ _, fun x hx z hz a b ha hb2 => ?_⟩
    obtain rfl : z = y := by simpa using hz
    have h1 := (own_rng (hold.2.1 x hx) a ha).2
    have h2 := (own_rng hy b hb2).1
    omega
theorem OwnI.growB {w2 w3 : World} {base base2 : Nat} {B : Option Addr} {m d : Nat} {ys : List Itm} (h : OwnI w2 base B m d ys) (hb : Below w2.heap.size w2 w3) (h0 : base2 ≤ base) : OwnI w3 base2 B m d ys := (h.below hb).base h0
theorem szN {w0 W W1 : World} {B : Nat} {p0 p1 p2 p3 p4 p5 p6 p7 p8 p9 p10 p11 : Addr} {x0 x1 x2 x3 x4 x5 x6 x7 x8 x9 x10 x11 : Value} (h : Below w0.heap.size w0 W ∧ W.cell? p0 = some x0 ∧ W.cell? p1 = some x1 ∧ W.cell? p2 = some x2 ∧ W.cell? p3 = some x3 ∧ W.cell? p4 = some x4 ∧ W.cell? p5 = some x5 ∧ W.cell? p6 = some x6 ∧ W.cell? p7 = some x7 ∧ W.cell? p8 = some x8 ∧ W.cell? p9 = some x9 ∧ W.cell? p10 = some x10 ∧ W.cell? p11 = some x11) (hb0 : Below B W W1) (e : B = W.heap.size) : Below w0.heap.size w0 W1 ∧ W1.cell? p0 = some x0 ∧ W1.cell? p1 = some x1 ∧ W1.cell? p2 = some x2 ∧ W1.cell? p3 = some x3 ∧ W1.cell? p4 = some x4 ∧ W1.cell? p5 = some x5 ∧ W1.cell? p6 = some x6 ∧ W1.cell? p7 = some x7 ∧ W1.cell? p8 = some x8 ∧ W1.cell? p9 = some x9 ∧ W1.cell? p10 = some x10 ∧ W1.cell? p11 = some x11 := by
  subst e
  obtain ⟨h, h0, h1, h2, h3, h4, h5, h6, h7, h8, h9, h10, h11⟩ := h
  exact ⟨h.trans (hb0.mono h.size), (hb0.cell (World.block_lt_of_cell? W _ h0)).trans h0, (hb0.cell (World.block_lt_of_cell? W _ h1)).trans h1, (hb0.cell (World.block_lt_of_cell? W _ h2)).trans h2, (hb0.cell (World.block_lt_of_cell? W _ h3)).trans h3, (hb0.cell (World.block_lt_of_cell? W _ h4)).trans h4, (hb0.cell (World.block_lt_of_cell? W _ h5)).trans h5, (hb0.cell (World.block_lt_of_cell? W _ h6)).trans h6, (hb0.cell (World.block_lt_of_cell? W _ h7)).trans h7, (hb0.cell (World.block_lt_of_cell? W _ h8)).trans h8, (hb0.cell (World.block_lt_of_cell? W _ h9)).trans h9, (hb0.cell (World.block_lt_of_cell? W _ h10)).trans h10, (hb0.cell (World.block_lt_of_cell? W _ h11)).trans h11⟩

set_option maxRecDepth 100000 in
set_option maxHeartbeats 4000000 in
theorem implItemsIn_any (s : ByteArray) (A : Option Addr) (n c : Nat) (au : Int) (l : List Itm) (a b : Bool) (k1 q1 : Int) (s1 : ByteArray) (k2 q2 : Int) (s2 : ByteArray) (w : World) (hn : n ≤ 1048576) (hm : ∀ x ∈ l, x.m ≤ 1099511627776) (hxs : ∀ x ∈ l, x.s.size ≤ maxLen) (hs1 : s1.size ≤ maxLen) (hs2 : s2.size ≤ maxLen) (ha : RdI w A n l) :
    Calls Try.prog 60 #[.agg #[.string s, .slice A n c, .int .i64 au], .agg #[.bool a, .bool b, .int .i64 k1, .int .i64 q1, .string s1, .int .i64 k2, .int .i64 q2, .string s2]] w (MkIs w ((l.map Itm.l).filter (inL a b k1 q1 s1 k2 q2 s2))) := by
  obtain ⟨i0, hi, hz0, hz1, hz2⟩ := info_parts infoIt
  have la := Lib.hid ha.lenI
  obtain ⟨W0, hW0⟩ : ∃ W, W = (w.alloc (.cells #[.string s, .slice A n c, .int .i64 au] 52)).alloc (.cells #[.bool a, .bool b, .int .i64 k1, .int .i64 q1, .string s1, .int .i64 k2, .int .i64 q2, .string s2] 76) := ⟨_, rfl⟩
  have hz : W0.heap.size = w.heap.size + 2 := by rw [hW0]; simp
  have B0 : Below w.heap.size w W0 := by rw [hW0]; exact al (al (Below.refl _ _))
  have r0 : W0.cell? ⟨w.heap.size + 1, 0, none⟩ = some (.bool a) := by rw [hW0]; simp [go_sem]
  have r1 : W0.cell? ⟨w.heap.size + 1, 1, none⟩ = some (.bool b) := by rw [hW0]; simp [go_sem]
  have r2 : W0.cell? ⟨w.heap.size + 1, 2, none⟩ = some (.int .i64 k1) := by rw [hW0]; simp [go_sem]
  have r3 : W0.cell? ⟨w.heap.size + 1, 3, none⟩ = some (.int .i64 q1) := by rw [hW0]; simp [go_sem]
  have r4 : W0.cell? ⟨w.heap.size + 1, 4, none⟩ = some (.string s1) := by rw [hW0]; simp [go_sem]
  have r5 : W0.cell? ⟨w.heap.size + 1, 5, none⟩ = some (.int .i64 k2) := by rw [hW0]; simp [go_sem]
  have r6 : W0.cell? ⟨w.heap.size + 1, 6, none⟩ = some (.int .i64 q2) := by rw [hW0]; simp [go_sem]
  have r7 : W0.cell? ⟨w.heap.size + 1, 7, none⟩ = some (.string s2) := by rw [hW0]; simp [go_sem]
  have t1 : W0.cell? ⟨w.heap.size, 1, none⟩ = some (.slice A n c) := by rw [hW0]; simp [go_sem]
  have HZ := Lib.hid hz
  clear hz
  go_enter Try.func60, Try.ntmps60
  go_wp2
  rw [← hW0]
  clear hW0
  go_loopw [5, 7, 12] (fun v _ i wr => ∃ (k : Nat) (B : Option Addr) (m d : Nat) (ys : List Itm), k ≤ n ∧ i = .int .i64 k ∧ v = .slice B m d ∧ m ≤ k ∧ ys.map Itm.l = ((l.map Itm.l).take k).filter (inL a b k1 q1 s1 k2 q2 s2) ∧ OwnI wr W0.heap.size B m d ys ∧ Below W0.heap.size W0 wr) (fun _ _ i _ => n - (intOf i).toNat)
  case atStart => exact ⟨0, some ⟨W0.heap.size, 0, none⟩, 0, 0, [], Nat.zero_le _, rfl, (by rw [HZ.out]), Nat.le_refl _, rfl, OwnI.nil_ (own_new (Nat.le_refl _)), al (Below.refl _ _)⟩
  case round =>
    obtain ⟨k, B, m, d, ys, hk, rfl, rfl, hmk, hys, ho, hbel⟩ := hrel
    have HY := Lib.hid hys
    have HO := Lib.hid ho
    clear hys ho
    by_cases hlt : k < n
    · obtain ⟨b_, o_, x, rfl, _hb1, hx, hc0, hc1, hc2, hc3, hrx⟩ := ((ha.below B0).below hbel).itm hlt
      have hxm := hm x (List.mem_of_getElem? hx)
      have hxsz := hxs x (List.mem_of_getElem? hx)
      have HX := Lib.hid (map_get hx)
      have i0_ : (0 : Int) ≤ (k : Int) := by omega
      have i1_ : (k : Int) < (n : Int) := by omega
      clear hx
      have e0 := kcell hbel r0
      have e1 := kcell hbel r1
      have e2 := kcell hbel r2
      have e3 := kcell hbel r3
      have e4 := kcell hbel r4
      have e5 := kcell hbel r5
      have e6 := kcell hbel r6
      have e7 := kcell hbel r7
      have b0 : Below wr.heap.size wr (wr.alloc (.cells #[.int .i64 x.k, .int .i64 x.n, .string x.s, .slice x.A x.m x.c] 106)) := al (Below.refl _ _)
      have e0' := kcell b0 e0
      have e1' := kcell b0 e1
      have e2' := kcell b0 e2
      have e3' := kcell b0 e3
      have e4' := kcell b0 e4
      have e5' := kcell b0 e5
      have e6' := kcell b0 e6
      have e7' := kcell b0 e7
      obtain ⟨r, hr⟩ : ∃ r, r = inRF x.k x.n x.s a b k1 q1 s1 k2 q2 s2 := ⟨_, rfl⟩
      have HR := Lib.hid hr
      clear hr
      go_wp2_with fail
      refine (implInRangeOf_any x.k x.n x.s a b k1 q1 s1 k2 q2 s2 r _ hxsz hs1 hs2 HR.out).mono ?_
      rintro e w1 ⟨rfl, b1⟩
      have h10 : wr.heap.size < w1.heap.size := by have := b1.size; simp at this; omega
      have x0 : w1.cell? ⟨wr.heap.size, 0, none⟩ = some (.int .i64 x.k) := kcell b1 (by simp)
      have x1 : w1.cell? ⟨wr.heap.size, 1, none⟩ = some (.int .i64 x.n) := kcell b1 (by simp)
      have x2 : w1.cell? ⟨wr.heap.size, 2, none⟩ = some (.string x.s) := kcell b1 (by simp)
      have x3 : w1.cell? ⟨wr.heap.size, 3, none⟩ = some (.slice x.A x.m x.c) := kcell b1 (by simp)
      have bb1 : Below wr.heap.size wr w1 := b0.trans (b1.mono (by simp))
      clear b1 b0 e0 e1 e2 e3 e4 e5 e6 e7 e0' e1' e2' e3' e4' e5' e6' e7' hc0 hc1 hc2 hc3
      cases r
      · have HN := Lib.hid (filter_no (p := inL a b k1 q1 s1 k2 q2 s2) HX.out HR.out.symm)
        have B1 := hbel.trans (bb1.mono hbel.size)
        have O1 := Lib.hid (HO.out.below bb1)
        go_wp2
        go_roundw
        case rel => exact ⟨k + 1, B, m, d, ys, by omega, by go_num, rfl, by omega, by rw [HN.out]; exact HY.out, O1.out, B1⟩
        case measure => simp [intOf]; omega
      · have HN := Lib.hid (filter_yes (p := inL a b k1 q1 s1 k2 q2 s2) HX.out HR.out.symm)
        have hrx1 := hrx.below bb1
        go_wp2_with fail
        refine (copyItem_any x _ hxm hrx1).mono ?_
        rintro e w2 ⟨A2, n2, c2, rfl, o2, b2⟩
        have bb2 := bb1.trans (b2.mono bb1.size)
        have B2 := hbel.trans (bb2.mono hbel.size)
        have O2 := Lib.hid (HO.out.below bb2)
        have Y2 := Lib.hid o2
        have hz22 := B2.size
        clear o2 b2 hrx1 x0 x1 x2 x3
        go_wp2_with (at_builtin; refine wpList_cat _ rfl _ _ 50 (by rfl) (W0.heap.size) 106 i0 (.agg #[.int .i64 0, .int .i64 0, .string ⟨#[]⟩, .slice none 0 0]) 4 56 Try.underlying50 hi hz0 hz1 hz2 rfl (by decide) B m d (itl ys) (by rfl) ?c1 (some ⟨w2.heap.size, 0, none⟩) 1 1 [.int .i64 x.k, .int .i64 x.n, .string x.s, .slice A2 n2 c2] (by rfl) ?c2 ?c3 ?c4 ?c5 ?c6 ?_)
        case c1 => exact own_below O2.out.1 (al (Below.refl _ _))
        case c2 => exact rd_new4
        case c3 => exact ones_itv (Itm.mk x.k x.n x.s A2 n2 c2 x.fs)
        case c4 => unfold maxLen; omega
        case c5 => omega
        case c6 => simp; omega
        intro A3 m3 d3 w3 hm3 o3 b3 g3
        have bA : Below w2.heap.size w2 (w2.alloc (.cells #[.int .i64 x.k, .int .i64 x.n, .string x.s, .slice A2 n2 c2] 106)) := al (Below.refl _ _)
        have O3 : Hid (OwnI w3 W0.heap.size A3 m3 d3 (ys ++ [Itm.mk x.k x.n x.s A2 n2 c2 x.fs])) :=
          OwnI.push (y := Itm.mk x.k x.n x.s A2 n2 c2 x.fs) (O2.out.below bA) HO.out (Nat.le_trans (Nat.le_of_lt h10) (Nat.le_refl _)) (Nat.le_trans hbel.size (Nat.le_of_lt h10)) (own_below Y2.out bA) o3 g3
        have B3 : Below W0.heap.size W0 w3 := B2.trans ((bA.mono hz22).trans b3)
        clear o3 b3 g3 bA bb2 bb1 B2
        go_wp2
        go_roundw
        case rel => exact ⟨k + 1, A3, m3, d3, _, by omega, by go_num, rfl, by omega, by (rw [HN.out, List.map_append, HY.out]; rfl), O3.out, B3⟩
        case measure => simp [intOf]; omega
    · obtain rfl : k = n := by omega
      have HT : Hid (ys.map Itm.l = (l.map Itm.l).filter (inL a b k1 q1 s1 k2 q2 s2)) := by
        have := HY.out
        rwa [List.take_of_length_le (by rw [List.length_map]; exact Nat.le_of_eq la.out)] at this
      have O9 := Lib.hid (HO.out.base (base' := w.heap.size) (by have := HZ.out; omega))
      have B9 := Lib.hid (B0.trans (hbel.mono B0.size))
      go_wp2
      go_ret
      exact ⟨_, _, _, ys, rfl, HT.out, O9.out, B9.out⟩

set_option maxRecDepth 100000 in
set_option maxHeartbeats 4000000 in
theorem specItemsIn_any (s : ByteArray) (A : Option Addr) (n c : Nat) (au : Int) (l : List Itm) (a b : Bool) (k1 q1 : Int) (s1 : ByteArray) (k2 q2 : Int) (s2 : ByteArray) (w : World) (hn : n ≤ 1048576) (hm : ∀ x ∈ l, x.m ≤ 1099511627776) (hxs : ∀ x ∈ l, x.s.size ≤ maxLen) (hs1 : s1.size ≤ maxLen) (hs2 : s2.size ≤ maxLen) (ha : RdI w A n l) :
    Calls Try.prog 58 #[.agg #[.string s, .slice A n c, .int .i64 au], .agg #[.bool a, .bool b, .int .i64 k1, .int .i64 q1, .string s1, .int .i64 k2, .int .i64 q2, .string s2]] w (MkIs w ((l.map Itm.l).filter (inL a b k1 q1 s1 k2 q2 s2))) := by
  obtain ⟨i0, hi, hz0, hz1, hz2⟩ := info_parts infoIt
  have la := Lib.hid ha.lenI
  obtain ⟨W0, hW0⟩ : ∃ W, W = (w.alloc (.cells #[.string s, .slice A n c, .int .i64 au] 52)).alloc (.cells #[.bool a, .bool b, .int .i64 k1, .int .i64 q1, .string s1, .int .i64 k2, .int .i64 q2, .string s2] 76) := ⟨_, rfl⟩
  have hz : W0.heap.size = w.heap.size + 2 := by rw [hW0]; simp
  have B0 : Below w.heap.size w W0 := by rw [hW0]; exact al (al (Below.refl _ _))
  have r0 : W0.cell? ⟨w.heap.size + 1, 0, none⟩ = some (.bool a) := by rw [hW0]; simp [go_sem]
  have r1 : W0.cell? ⟨w.heap.size + 1, 1, none⟩ = some (.bool b) := by rw [hW0]; simp [go_sem]
  have r2 : W0.cell? ⟨w.heap.size + 1, 2, none⟩ = some (.int .i64 k1) := by rw [hW0]; simp [go_sem]
  have r3 : W0.cell? ⟨w.heap.size + 1, 3, none⟩ = some (.int .i64 q1) := by rw [hW0]; simp [go_sem]
  have r4 : W0.cell? ⟨w.heap.size + 1, 4, none⟩ = some (.string s1) := by rw [hW0]; simp [go_sem]
  have r5 : W0.cell? ⟨w.heap.size + 1, 5, none⟩ = some (.int .i64 k2) := by rw [hW0]; simp [go_sem]
  have r6 : W0.cell? ⟨w.heap.size + 1, 6, none⟩ = some (.int .i64 q2) := by rw [hW0]; simp [go_sem]
  have r7 : W0.cell? ⟨w.heap.size + 1, 7, none⟩ = some (.string s2) := by rw [hW0]; simp [go_sem]
  have t1 : W0.cell? ⟨w.heap.size, 1, none⟩ = some (.slice A n c) := by rw [hW0]; simp [go_sem]
  have HZ := Lib.hid hz
  clear hz
  go_enter Try.func58, Try.ntmps58
  go_wp2
  rw [← hW0]
  clear hW0
  go_loopw [5, 6] (fun v i wr => ∃ (k : Nat) (B : Option Addr) (m d : Nat) (ys : List Itm), k ≤ n ∧ i = .int .i64 k ∧ v = .slice B m d ∧ m ≤ k ∧ ys.map Itm.l = ((l.map Itm.l).take k).filter (inL a b k1 q1 s1 k2 q2 s2) ∧ OwnI wr W0.heap.size B m d ys ∧ Below W0.heap.size W0 wr) (fun _ i _ => n - (intOf i).toNat)
  case atStart => exact ⟨0, some ⟨W0.heap.size, 0, none⟩, 0, 0, [], Nat.zero_le _, rfl, (by rw [HZ.out]), Nat.le_refl _, rfl, OwnI.nil_ (own_new (Nat.le_refl _)), al (Below.refl _ _)⟩
  case round =>
    obtain ⟨k, B, m, d, ys, hk, rfl, rfl, hmk, hys, ho, hbel⟩ := hrel
    have HY := Lib.hid hys
    have HO := Lib.hid ho
    have t1' := kcell hbel t1
    clear hys ho
    by_cases hlt : k < n
    · obtain ⟨b_, o_, x, rfl, _hb1, hx, hc0, hc1, hc2, hc3, hrx⟩ := ((ha.below B0).below hbel).itm hlt
      have hxm := hm x (List.mem_of_getElem? hx)
      have hxsz := hxs x (List.mem_of_getElem? hx)
      have HX := Lib.hid (map_get hx)
      have i0_ : (0 : Int) ≤ (k : Int) := by omega
      have i1_ : (k : Int) < (n : Int) := by omega
      clear hx
      have e0 := kcell hbel r0
      have e1 := kcell hbel r1
      have e2 := kcell hbel r2
      have e3 := kcell hbel r3
      have e4 := kcell hbel r4
      have e5 := kcell hbel r5
      have e6 := kcell hbel r6
      have e7 := kcell hbel r7
      obtain ⟨r, hr⟩ : ∃ r, r = inRF x.k x.n x.s a b k1 q1 s1 k2 q2 s2 := ⟨_, rfl⟩
      have HR := Lib.hid hr
      clear hr
      go_wp2
      go_region_held3 (fun W => Below wr.heap.size wr W ∧ W.cell? ⟨w.heap.size, 1, none⟩ = some (.slice (some ⟨b_, o_, none⟩) n c) ∧ W.cell? ⟨w.heap.size + 1, 0, none⟩ = some (.bool a) ∧ W.cell? ⟨w.heap.size + 1, 1, none⟩ = some (.bool b) ∧ W.cell? ⟨w.heap.size + 1, 2, none⟩ = some (.int .i64 k1) ∧ W.cell? ⟨w.heap.size + 1, 3, none⟩ = some (.int .i64 q1) ∧ W.cell? ⟨w.heap.size + 1, 4, none⟩ = some (.string s1) ∧ W.cell? ⟨w.heap.size + 1, 5, none⟩ = some (.int .i64 k2) ∧ W.cell? ⟨w.heap.size + 1, 6, none⟩ = some (.int .i64 q2) ∧ W.cell? ⟨w.heap.size + 1, 7, none⟩ = some (.string s2) ∧ W.cell? ⟨b_, o_ + k * 4, none⟩ = some (.int .i64 x.k) ∧ W.cell? ⟨b_, o_ + k * 4 + 1, none⟩ = some (.int .i64 x.n) ∧ W.cell? ⟨b_, o_ + k * 4 + 2, none⟩ = some (.string x.s))
        (first | assumption | (refine szN ?_ hq rfl; assumption) | exact ⟨(Below.refl _ _).drew, t1', e0, e1, e2, e3, e4, e5, e6, e7, hc0, hc1, hc2⟩)
        (first
          | (go_at_call 111; refine (specInRangeOf_any x.k x.n x.s a b k1 q1 s1 k2 q2 s2 r _ hxsz hs1 hs2 HR.out).mono ?_; rintro e W1 ⟨rfl, hq⟩))
      obtain ⟨bb1, _⟩ := ‹Below wr.heap.size wr _ ∧ _›
      have hrx1 := hrx.below bb1
      have B1 := hbel.trans (bb1.mono hbel.size)
      have t2' := kcell B1 t1
      have cc0 := kcell bb1 hc0
      have cc1 := kcell bb1 hc1
      have cc2 := kcell bb1 hc2
      have cc3 := kcell bb1 hc3
      clear e0 e1 e2 e3 e4 e5 e6 e7 hc0 hc1 hc2 hc3 t1'
      cases r
      · have HN := Lib.hid (filter_no (p := inL a b k1 q1 s1 k2 q2 s2) HX.out HR.out.symm)
        have O1 := Lib.hid (HO.out.below bb1)
        go_wp2
        go_roundw
        case rel => exact ⟨k + 1, B, m, d, ys, by omega, by go_num, rfl, by omega, by rw [HN.out]; exact HY.out, O1.out, B1⟩
        case measure => simp [intOf]; omega
      · have HN := Lib.hid (filter_yes (p := inL a b k1 q1 s1 k2 q2 s2) HX.out HR.out.symm)
        go_wp2_with fail
        refine (l6Item_any x _ hxm hrx1).mono ?_
        rintro e w2 ⟨A2, n2, c2, rfl, o2, b2⟩
        have h10 := bb1.size
        have bb2 := bb1.trans (b2.mono bb1.size)
        have B2 := hbel.trans (bb2.mono hbel.size)
        have O2 := Lib.hid (HO.out.below bb2)
        have Y2 := Lib.hid o2
        have hz22 := B2.size
        clear o2 b2 hrx1 cc0 cc1 cc2 cc3 t2'
        go_wp2_with (at_builtin; refine wpList_cat _ rfl _ _ 50 (by rfl) (W0.heap.size) 106 i0 (.agg #[.int .i64 0, .int .i64 0, .string ⟨#[]⟩, .slice none 0 0]) 4 56 Try.underlying50 hi hz0 hz1 hz2 rfl (by decide) B m d (itl ys) (by rfl) ?c1 (some ⟨w2.heap.size, 0, none⟩) 1 1 [.int .i64 x.k, .int .i64 x.n, .string x.s, .slice A2 n2 c2] (by rfl) ?c2 ?c3 ?c4 ?c5 ?c6 ?_)
        case c1 => exact own_below O2.out.1 (al (Below.refl _ _))
        case c2 => exact rd_new4
        case c3 => exact ones_itv (Itm.mk x.k x.n x.s A2 n2 c2 x.fs)
        case c4 => unfold maxLen; omega
        case c5 => omega
        case c6 => simp; omega
        intro A3 m3 d3 w3 hm3 o3 b3 g3
        have bA : Below w2.heap.size w2 (w2.alloc (.cells #[.int .i64 x.k, .int .i64 x.n, .string x.s, .slice A2 n2 c2] 106)) := al (Below.refl _ _)
        have O3 : Hid (OwnI w3 W0.heap.size A3 m3 d3 (ys ++ [Itm.mk x.k x.n x.s A2 n2 c2 x.fs])) :=
          OwnI.push (y := Itm.mk x.k x.n x.s A2 n2 c2 x.fs) (O2.out.below bA) HO.out h10 (Nat.le_trans hbel.size h10) (own_below Y2.out bA) o3 g3
        have B3 : Below W0.heap.size W0 w3 := B2.trans ((bA.mono hz22).trans b3)
        clear o3 b3 g3 bA bb2 bb1 B2
        go_wp2
        go_roundw
        case rel => exact ⟨k + 1, A3, m3, d3, _, by omega, by go_num, rfl, by omega, by (rw [HN.out, List.map_append, HY.out]; rfl), O3.out, B3⟩
        case measure => simp [intOf]; omega
    · obtain rfl : k = n := by omega
      have HT : Hid (ys.map Itm.l = (l.map Itm.l).filter (inL a b k1 q1 s1 k2 q2 s2)) := by
        have := HY.out
        rwa [List.take_of_length_le (by rw [List.length_map]; exact Nat.le_of_eq la.out)] at this
      have O9 := Lib.hid (HO.out.base (base' := w.heap.size) (by have := HZ.out; omega))
      have B9 := Lib.hid (B0.trans (hbel.mono B0.size))
      go_wp2
      go_ret
      exact ⟨_, _, _, ys, rfl, HT.out, O9.out, B9.out⟩
end Go.Proofs.Ytbbngihmjdndoaa
