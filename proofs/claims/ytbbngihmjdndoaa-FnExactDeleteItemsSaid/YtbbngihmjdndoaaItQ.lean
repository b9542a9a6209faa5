/-
  Proved: the contracts of the laws' own copy of a store and of the comparisons of items and stores that say the same. Conditions: the slices read as lists.
  By an AI agent; no person has read it.
-/
import Derived.Test.YtbbngihmjdndoaaItL
namespace Go.Proofs.Ytbbngihmjdndoaa
open Go.RowKit

theorem OwnI.setB {w : World} {base : Nat} {A : Option Addr} {n c : Nat} {l : List Itm} (h : OwnI w base A n c l) {a : Addr} (ha : a.block < base) (v : Value) : OwnI (w.setCell a v) base A n c l :=
  ⟨ownsRow_setCell_below h.1 ha v, fun x hx => ownsRow_setCell_below (h.2.1 x hx) ha v, h.2.2⟩

set_option maxRecDepth 100000 in
theorem toStore_any (s : ByteArray) (A : Option Addr) (n c : Nat) (au : Int) (l : List Itm) (w : World) (hn : n ≤ 1099511627776) (hm : ∀ x ∈ l, x.m ≤ 1099511627776) (ha : RdI w A n l) :
    Calls Try.prog 37 #[.agg #[.string s, .slice A n c, .int .i64 au]] w (MkSt w s (l.map Itm.l) au) := by
  go_enter Try.func37, Try.ntmps37
  go_wp2_with fail
  refine (toItemS_any A n c l _ hn hm (((ha.alloc _).alloc _).alloc _)).mono ?_
  rintro e w1 ⟨A1, n1, c1, l1, rfl, hl1, o1, b1⟩
  have hz : w.heap.size + 2 < w1.heap.size := by have := b1.size; simp at this; omega
  have B1 : Below w.heap.size w w1 := Below.trans (al (al (al (Below.refl _ _)))) (b1.mono (by simp; omega))
  have p2 : w1.cell? ⟨w.heap.size, 2, none⟩ = some (.int .i64 au) := kcell b1 (by simp [go_sem])
  have r0 : w1.cell? ⟨w.heap.size + 1, 0, none⟩ = some (.string ⟨#[]⟩) := kcell b1 (by simp [go_sem])
  have r1 : w1.cell? ⟨w.heap.size + 1, 1, none⟩ = some (.slice none 0 0) := kcell b1 (by simp [go_sem])
  have r2 : w1.cell? ⟨w.heap.size + 1, 2, none⟩ = some (.int .i64 0) := kcell b1 (by simp [go_sem])
  have q0 : w1.cell? ⟨w.heap.size + 1 + 1, 0, none⟩ = some (.string s) := kcell b1 (by simp [go_sem])
  have q1 : w1.cell? ⟨w.heap.size + 1 + 1, 1, none⟩ = some (.slice none 0 0) := kcell b1 (by simp [go_sem])
  have q2 : w1.cell? ⟨w.heap.size + 1 + 1, 2, none⟩ = some (.int .i64 0) := kcell b1 (by simp [go_sem])
  have f0 : ∀ j, w1.frozen? ⟨w.heap.size + 1, j, none⟩ = false := fun j => (b1.frozen (p := ⟨w.heap.size + 1, j, none⟩) (by simp; try omega)).trans (by simp [go_sem])
  have f1 : ∀ j, w1.frozen? ⟨w.heap.size + 1 + 1, j, none⟩ = false := fun j => (b1.frozen (p := ⟨w.heap.size + 1 + 1, j, none⟩) (by simp; try omega)).trans (by simp [go_sem])
  have O2 : Hid (OwnI (((((w1.setCell ⟨w.heap.size + 1 + 1, 1, none⟩ (.slice A1 n1 c1)).setCell ⟨w.heap.size + 1 + 1, 2, none⟩ (.int .i64 au)).setCell ⟨w.heap.size + 1, 0, none⟩ (.string s)).setCell ⟨w.heap.size + 1, 1, none⟩ (.slice A1 n1 c1)).setCell ⟨w.heap.size + 1, 2, none⟩ (.int .i64 au)) w.heap.size A1 n1 c1 l1) := Lib.hid ((OwnI.setB (OwnI.setB (OwnI.setB (OwnI.setB (OwnI.setB (o1.base (base' := w.heap.size + 3) (by simp)) (a := ⟨w.heap.size + 1 + 1, 1, none⟩) (by simp) _) (a := ⟨w.heap.size + 1 + 1, 2, none⟩) (by simp) _) (a := ⟨w.heap.size + 1, 0, none⟩) (by simp) _) (a := ⟨w.heap.size + 1, 1, none⟩) (by simp) _) (a := ⟨w.heap.size + 1, 2, none⟩) (by simp) _).base (by omega))
  have B2 : Hid (Below w.heap.size w (((((w1.setCell ⟨w.heap.size + 1 + 1, 1, none⟩ (.slice A1 n1 c1)).setCell ⟨w.heap.size + 1 + 1, 2, none⟩ (.int .i64 au)).setCell ⟨w.heap.size + 1, 0, none⟩ (.string s)).setCell ⟨w.heap.size + 1, 1, none⟩ (.slice A1 n1 c1)).setCell ⟨w.heap.size + 1, 2, none⟩ (.int .i64 au))) := (((((B1.setCell (p := ⟨w.heap.size + 1 + 1, 1, none⟩) (by simp; omega) _).setCell (p := ⟨w.heap.size + 1 + 1, 2, none⟩) (by simp; omega) _).setCell (p := ⟨w.heap.size + 1, 0, none⟩) (by simp) _).setCell (p := ⟨w.heap.size + 1, 1, none⟩) (by simp) _).setCell (p := ⟨w.heap.size + 1, 2, none⟩) (by simp) _)
  clear o1 b1 B1
  go_wp2
  exact bodyPost_ret (v := .agg #[.string s, .slice A1 n1 c1, .int .i64 au]) (by simp [results, Try.results37, go_sem, r0, r1, r2]) rfl ⟨_, _, _, l1, rfl, hl1, O2.out, B2.out⟩

set_option maxRecDepth 100000 in
theorem eqItem_same (x y : Itm) (w : World) (hn : x.m ≤ maxLen) (h : x.k = y.k ∧ x.n = y.n ∧ x.s = y.s ∧ x.fs = y.fs) (ha : Rd w 2 x.A x.m (fl x.fs)) (hb : Rd w 2 y.A y.m (fl y.fs)) :
    Calls Try.prog 115 #[.agg #[.int .i64 x.k, .int .i64 x.n, .string x.s, .slice x.A x.m x.c], .agg #[.int .i64 y.k, .int .i64 y.n, .string y.s, .slice y.A y.m y.c]] w fun e w' => e = .returned (.bool true) ∧ Below w.heap.size w w' := by
  obtain ⟨h1, h2, h3, h4⟩ := h
  rw [← h1, ← h2, ← h3]
  rw [← h4] at hb
  clear h1 h2 h3 h4
  go_enter Try.func115, Try.ntmps115
  go_wp2_with fail
  refine (eqKey_same x.k x.n x.s _).mono ?_
  rintro e w1 ⟨rfl, b1⟩
  have B1 : Below w.heap.size w w1 := Below.trans (al (al (Below.refl _ _))) (b1.mono (by simp; omega))
  have d3 : w1.cell? ⟨w.heap.size, 3, none⟩ = some (.slice x.A x.m x.c) := kcell b1 (by simp [go_sem])
  have d4 : w1.cell? ⟨w.heap.size + 1, 3, none⟩ = some (.slice y.A y.m y.c) := kcell b1 (by simp [go_sem])
  clear b1
  go_wp2_with fail
  refine (eqRecord_same x.A y.A x.m y.m x.c y.c x.fs _ hn (ha.below B1) (hb.below B1)).mono ?_
  rintro e w2 ⟨rfl, b2⟩
  have B2 := B1.trans (b2.mono B1.size)
  clear b2
  go_wp2
  go_ret
  exact ⟨rfl, B2⟩
theorem map_le {l m : List Itm} {j : Nat} {x : Itm} (h : m.map Itm.l = l.map Itm.l) (hx : m[j]? = some x) : ∃ y, l[j]? = some y ∧ y.k = x.k ∧ y.n = x.n ∧ y.s = x.s ∧ y.fs = x.fs := by
  have h1 := map_get hx
  rw [h, List.getElem?_map, Option.map_eq_some_iff] at h1
  obtain ⟨y, hy, e⟩ := h1
  simp only [Itm.l, Prod.mk.injEq] at e
  exact ⟨y, hy, e⟩

set_option maxRecDepth 100000 in
set_option maxHeartbeats 1000000 in
theorem eqItemS_same (A B : Option Addr) (n m c d : Nat) (l l2 : List Itm) (w : World) (hn : n ≤ maxLen) (hm : ∀ x ∈ l, x.m ≤ maxLen) (h : l.map Itm.l = l2.map Itm.l) (ha : RdI w A n l) (hb : RdI w B m l2) :
    Calls Try.prog 61 #[.slice A n c, .slice B m d] w fun e w' => e = .returned (.bool true) ∧ Below w.heap.size w w' := by
  unfold maxLen at hn
  obtain rfl : n = m := by have := ha.lenI; have := hb.lenI; have := map_len h; omega
  have HM := Lib.hid h
  clear h
  go_enter Try.func61, Try.ntmps61
  go_wp2
  go_loopw [5] (fun i wr => ∃ (k : Nat), k ≤ n ∧ i = .int .i64 k ∧ Below w.heap.size w wr) (fun i _ => n - (intOf i).toNat)
  case atStart => exact ⟨0, Nat.zero_le _, rfl, Below.refl _ _⟩
  case round =>
    obtain ⟨k, hk, rfl, hbel⟩ := hrel
    by_cases hlt : k < n
    · obtain ⟨b, o, x, rfl, _hb1, hx, hc0, hc1, hc2, hc3, rx⟩ := (ha.below hbel).itm hlt
      obtain ⟨b2, o2, y, rfl, _hb2, hy, hd0, hd1, hd2, hd3, ry⟩ := (hb.below hbel).itm hlt
      have hxy := Lib.hid (map_at HM.out hx hy)
      have hxm := hm x (List.mem_of_getElem? hx)
      have i0 : (0 : Int) ≤ (k : Int) := by omega
      have i1 : (k : Int) < (n : Int) := by omega
      clear hx hy
      go_wp2
      go_region_held3 (fun W => Below wr.heap.size wr W ∧ W.cell? ⟨b, o + k * 4, none⟩ = some (.int .i64 x.k) ∧ W.cell? ⟨b, o + k * 4 + 1, none⟩ = some (.int .i64 x.n) ∧ W.cell? ⟨b, o + k * 4 + 2, none⟩ = some (.string x.s) ∧ W.cell? ⟨b, o + k * 4 + 3, none⟩ = some (.slice x.A x.m x.c) ∧ W.cell? ⟨b2, o2 + k * 4, none⟩ = some (.int .i64 y.k) ∧ W.cell? ⟨b2, o2 + k * 4 + 1, none⟩ = some (.int .i64 y.n) ∧ W.cell? ⟨b2, o2 + k * 4 + 2, none⟩ = some (.string y.s) ∧ W.cell? ⟨b2, o2 + k * 4 + 3, none⟩ = some (.slice y.A y.m y.c))
        (first | assumption | (refine sz8 ?_ hq rfl; assumption) | exact ⟨(Below.refl _ _).drew, hc0, hc1, hc2, hc3, hd0, hd1, hd2, hd3⟩)
        (first
          | (go_at_call 115; refine (eqItem_same x y _ hxm hxy.out (rx.below (And.left ‹Below wr.heap.size wr _ ∧ _›)) (ry.below (And.left ‹Below wr.heap.size wr _ ∧ _›))).mono ?_; rintro e W1 ⟨rfl, hq⟩))
      obtain ⟨BZ, _⟩ := ‹Below wr.heap.size wr _ ∧ _›
      go_wp2
      go_roundw
      case rel => exact ⟨k + 1, by omega, by go_num, hbel.trans (BZ.mono hbel.size)⟩
      case measure => simp [intOf]; omega
    · obtain rfl : k = n := by omega
      go_wp2
      go_ret
      exact ⟨rfl, hbel⟩

set_option maxRecDepth 100000 in
theorem eqStore_same (s : ByteArray) (au : Int) (A B : Option Addr) (n m c d : Nat) (l l2 : List Itm) (w : World) (hn : n ≤ maxLen) (hm : ∀ x ∈ l, x.m ≤ maxLen) (h : l.map Itm.l = l2.map Itm.l) (ha : RdI w A n l) (hb : RdI w B m l2) :
    Calls Try.prog 40 #[.agg #[.string s, .slice A n c, .int .i64 au], .agg #[.string s, .slice B m d, .int .i64 au]] w fun e w' => e = .returned (.bool true) ∧ Below w.heap.size w w' := by
  go_enter Try.func40, Try.ntmps40
  go_wp2_with fail
  refine (eqItemS_same A B n m c d l l2 _ hn hm h ((ha.alloc _).alloc _) ((hb.alloc _).alloc _)).mono ?_
  rintro e w1 ⟨rfl, b1⟩
  have d2 : w1.cell? ⟨w.heap.size, 2, none⟩ = some (.int .i64 au) := kcell b1 (by simp [go_sem])
  have d3 : w1.cell? ⟨w.heap.size + 1, 2, none⟩ = some (.int .i64 au) := kcell b1 (by simp [go_sem])
  have B1 : Below w.heap.size w w1 := Below.trans (al (al (Below.refl _ _))) (b1.mono (by simp; omega))
  clear b1
  go_wp2
  go_ret
  exact ⟨rfl, B1⟩

theorem rdI_m {w : World} {A : Option Addr} {n : Nat} {l : List Itm} {L : List LIt} (h : RdI w A n l) (hl : l.map Itm.l = L) (ok : okI L) : ∀ x ∈ l, x.m ≤ maxLen := by
  intro x hx
  subst hl
  have h1 := (okI_at ok hx).2.2.2.1
  have h2 := (h.2 x hx).lenF
  omega
theorem rdI_small {w : World} {A : Option Addr} {n : Nat} {l : List Itm} (h : RdI w A n l) (hs : sumL (l.map Itm.l) ≤ 1048576) : ∀ x ∈ l, x.m ≤ 1099511627776 := by
  intro x hx
  have h1 := sumL_mem (List.mem_map.2 ⟨x, hx, rfl⟩ : x.l ∈ l.map Itm.l)
  have h2 := (h.2 x hx).lenF
  have h3 : x.fs.length ≤ sizeL x.l := by show x.fs.length ≤ x.s.size + (x.fs.length + sumF x.fs); omega
  omega
theorem rdI_n {w w' : World} {A B : Option Addr} {n m : Nat} {l l2 : List Itm} (h : RdI w A n l) (h2 : RdI w' B m l2) (hl : l.map Itm.l = l2.map Itm.l) : n = m := by
  have := h.lenI
  have := h2.lenI
  have := map_len hl
  omega
end Go.Proofs.Ytbbngihmjdndoaa
