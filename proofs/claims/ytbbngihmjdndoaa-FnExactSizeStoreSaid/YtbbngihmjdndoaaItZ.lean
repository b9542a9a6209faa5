/-
  Proved: the contracts of SizeStore, of the program and of the reference. Conditions: the slices read as lists.
  By an AI agent; no person has read it.
-/
import Derived.Test.YtbbngihmjdndoaaItL
import Derived.Test.YtbbngihmjdndoaaFldE
import Derived.Test.YtbbngihmjdndoaaKeyE
import Derived.Test.YtbbngihmjdndoaaStep
namespace Go.Proofs.Ytbbngihmjdndoaa
open Go.RowKit

/-- How many bytes an item's encoding takes; a store's. -/
def sizeOne (x : LIt) : Nat := (encK x.1 x.2.1 x.2.2.1).length + (encR x.2.2.2).length
def sizeSt (L : List LIt) : Nat := L.foldr (fun x n => sizeOne x + n) 0
theorem sizeSt_snoc (l : List LIt) (x : LIt) : sizeSt (l ++ [x]) = sizeSt l + sizeOne x := by
  induction l with
  | nil => simp [sizeSt]
  | cons g l ih =>
    simp only [sizeSt, List.cons_append, List.foldr_cons] at ih ⊢
    omega
theorem sizeOne_le (x : LIt) : sizeOne x ≤ 2097171 := by
  have h1 := encK_len x.1 x.2.1 x.2.2.1
  have h2 := encR_len x.2.2.2
  unfold sizeOne
  omega
theorem sizeSt_le (l : List LIt) : sizeSt l ≤ l.length * 2097171 := by
  induction l with
  | nil => simp [sizeSt]
  | cons g l ih =>
    have := sizeOne_le g
    simp only [sizeSt, List.foldr_cons, List.length_cons] at ih ⊢
    omega
theorem sizeSt_step {l : List Itm} {k : Nat} {x : Itm} (hx : l[k]? = some x) : sizeSt ((l.map Itm.l).take (k + 1)) = sizeSt ((l.map Itm.l).take k) + ((encK x.k x.n x.s).length + (encR x.fs).length) := by
  rw [take_snoc (map_get hx), sizeSt_snoc]
  rfl

set_option maxRecDepth 100000 in
set_option maxHeartbeats 1000000 in
theorem specSizeStore_any (s : ByteArray) (A : Option Addr) (n c : Nat) (u : Int) (l : List Itm) (L : List LIt) (r : Int) (w : World) (hn : n ≤ 1048576) (hm : ∀ x ∈ l, x.m ≤ 1099511627776) (ha : RdI w A n l) (hL : l.map Itm.l = L) (ok : okI L) (hr : r = (sizeSt L : Int)) :
    Calls Try.prog 55 #[.agg #[.string s, .slice A n c, .int .i64 u]] w fun e w' => e = .returned (.int .i64 r) ∧ Below w.heap.size w w' := by
  subst hL
  have HR := Lib.hid hr
  have LX := Lib.hid ha.lenI
  clear hr
  go_enter Try.func55, Try.ntmps55
  go_wp2
  go_loopw [3, 4] (fun v i wr => ∃ (k t : Nat), k ≤ n ∧ i = .int .i64 k ∧ v = .int .i64 t ∧ t = sizeSt ((l.map Itm.l).take k) ∧ Below w.heap.size w wr ∧ wr.cell? ⟨w.heap.size, 1, none⟩ = some (.slice A n c)) (fun _ i _ => n - (intOf i).toNat)
  case atStart => exact ⟨0, 0, Nat.zero_le _, rfl, rfl, by simp [sizeSt], al (Below.refl _ _), by simp⟩
  case round =>
    obtain ⟨k, t, hk, rfl, rfl, ht, hbel, hp0⟩ := hrel
    have htl : t ≤ 1048576 * 2097171 := by
      have h1 := sizeSt_le ((l.map Itm.l).take k)
      rw [List.length_take] at h1
      have h2 : min k (l.map Itm.l).length * 2097171 ≤ 1048576 * 2097171 := Nat.mul_le_mul_right _ (by omega)
      omega
    have HT := Lib.hid ht
    clear ht
    by_cases hlt : k < n
    · obtain ⟨b, o, x, rfl, _hb1, hx, hc0, hc1, hc2, hc3, rx⟩ := (ha.below hbel).itm hlt
      obtain ⟨-, -, hxs, -, hxf⟩ := okI_at ok (List.mem_of_getElem? hx)
      have hxm := hm x (List.mem_of_getElem? hx)
      have i0 : (0 : Int) ≤ (k : Int) := by omega
      have i1 : (k : Int) < (n : Int) := by omega
      have HN := Lib.hid (sizeSt_step hx)
      clear hx
      go_wp2
      go_region_held3 (fun W => Below wr.heap.size wr W ∧ W.cell? ⟨w.heap.size, 1, none⟩ = some (.slice (some ⟨b, o, none⟩) n c) ∧ W.cell? ⟨b, o + k * 4, none⟩ = some (.int .i64 x.k) ∧ W.cell? ⟨b, o + k * 4 + 1, none⟩ = some (.int .i64 x.n) ∧ W.cell? ⟨b, o + k * 4 + 2, none⟩ = some (.string x.s) ∧ W.cell? ⟨b, o + k * 4 + 3, none⟩ = some (.slice x.A x.m x.c))
        (first | assumption | (refine sz5 ?_ hq rfl; assumption) | exact ⟨(Below.refl _ _).drew, hp0, hc0, hc1, hc2, hc3⟩)
        (first
          | (go_at_call 109; refine (specEncodeKey_any x.k x.n x.s _ hxs).mono ?_; rintro e W1 ⟨A1, n1, c1, rfl, o1, hq⟩)
          | (go_at_call 41; refine (specEncodeRecord_any x.A x.m x.c x.fs _ hxm (rx.below (And.left ‹Below wr.heap.size wr _ ∧ _›)) hxf).mono ?_; rintro e W2 ⟨A2, n2, c2, rfl, o2, hq⟩))
      obtain ⟨BZ, dZ, _⟩ := ‹Below wr.heap.size wr _ ∧ _›
      have q1 := own_lenB o1
      have q2 := own_lenB o2
      have l1 := encK_len x.k x.n x.s
      have l2 := encR_len x.fs
      clear o1 o2
      go_wp2
      go_roundw
      case rel => exact ⟨k + 1, t + (n1 + n2), by omega, by go_num, by rw [IntWalk.i64_in ((t : Int) + n1) (by omega), IntWalk.i64_in ((t : Int) + n1 + n2) (by omega)]; go_num, by have h1 := HN.out; have h2 := HT.out; omega, hbel.trans (BZ.mono hbel.size), dZ⟩
      case measure => simp [intOf]; omega
    · obtain rfl : k = n := by omega
      have HZ : Hid (r = (t : Int)) := by
        have h1 := HT.out
        rw [List.take_of_length_le (by rw [List.length_map]; exact Nat.le_of_eq LX.out)] at h1
        rw [HR.out, ← h1]
        exact Lib.hid rfl
      go_wp2
      go_ret
      exact ⟨ret_int HZ.out, hbel⟩

set_option maxRecDepth 100000 in
set_option maxHeartbeats 1000000 in
theorem implSizeStore_any (s : ByteArray) (A : Option Addr) (n c : Nat) (u : Int) (l : List Itm) (L : List LIt) (r : Int) (w : World) (hn : n ≤ 1048576) (hm : ∀ x ∈ l, x.m ≤ 1099511627776) (ha : RdI w A n l) (hL : l.map Itm.l = L) (ok : okI L) (hr : r = (sizeSt L : Int)) :
    Calls Try.prog 56 #[.agg #[.string s, .slice A n c, .int .i64 u]] w fun e w' => e = .returned (.int .i64 r) ∧ Below w.heap.size w w' := by
  subst hL
  have HR := Lib.hid hr
  have LX := Lib.hid ha.lenI
  clear hr
  go_enter Try.func56, Try.ntmps56
  go_wp2
  go_loopw [3, 9] (fun v i wr => ∃ (k t : Nat), k ≤ n ∧ i = .int .i64 k ∧ v = .int .i64 t ∧ t = sizeSt ((l.map Itm.l).take k) ∧ Below w.heap.size w wr) (fun _ i _ => n - (intOf i).toNat)
  case atStart => exact ⟨0, 0, Nat.zero_le _, rfl, rfl, by simp [sizeSt], al (Below.refl _ _)⟩
  case round =>
    obtain ⟨k, t, hk, rfl, rfl, ht, hbel⟩ := hrel
    have htl : t ≤ 1048576 * 2097171 := by
      have h1 := sizeSt_le ((l.map Itm.l).take k)
      rw [List.length_take] at h1
      have h2 : min k (l.map Itm.l).length * 2097171 ≤ 1048576 * 2097171 := Nat.mul_le_mul_right _ (by omega)
      omega
    have HT := Lib.hid ht
    clear ht
    by_cases hlt : k < n
    · obtain ⟨b, o, x, rfl, _hb1, hx, hc0, hc1, hc2, hc3, rx⟩ := (ha.below hbel).itm hlt
      obtain ⟨-, -, hxs, -, hxf⟩ := okI_at ok (List.mem_of_getElem? hx)
      have hxm := hm x (List.mem_of_getElem? hx)
      have i0 : (0 : Int) ≤ (k : Int) := by omega
      have i1 : (k : Int) < (n : Int) := by omega
      have HN := Lib.hid (sizeSt_step hx)
      clear hx
      have hB1 : Below wr.heap.size wr (wr.alloc (.cells #[.int .i64 x.k, .int .i64 x.n, .string x.s, .slice x.A x.m x.c] 106)) := al (Below.refl _ _)
      have hf0 : (wr.alloc (.cells #[.int .i64 x.k, .int .i64 x.n, .string x.s, .slice x.A x.m x.c] 106)).cell? ⟨wr.heap.size, 0, none⟩ = some (.int .i64 x.k) := by simp
      have hf1 : (wr.alloc (.cells #[.int .i64 x.k, .int .i64 x.n, .string x.s, .slice x.A x.m x.c] 106)).cell? ⟨wr.heap.size, 1, none⟩ = some (.int .i64 x.n) := by simp
      have hf2 : (wr.alloc (.cells #[.int .i64 x.k, .int .i64 x.n, .string x.s, .slice x.A x.m x.c] 106)).cell? ⟨wr.heap.size, 2, none⟩ = some (.string x.s) := by simp
      have hf3 : (wr.alloc (.cells #[.int .i64 x.k, .int .i64 x.n, .string x.s, .slice x.A x.m x.c] 106)).cell? ⟨wr.heap.size, 3, none⟩ = some (.slice x.A x.m x.c) := by simp
      go_wp2
      go_region_held3 (fun W => Below wr.heap.size wr W ∧ W.cell? ⟨wr.heap.size, 0, none⟩ = some (.int .i64 x.k) ∧ W.cell? ⟨wr.heap.size, 1, none⟩ = some (.int .i64 x.n) ∧ W.cell? ⟨wr.heap.size, 2, none⟩ = some (.string x.s) ∧ W.cell? ⟨wr.heap.size, 3, none⟩ = some (.slice x.A x.m x.c))
        (first | assumption | (refine sz4 ?_ hq rfl; assumption) | exact ⟨hB1.drew, hf0, hf1, hf2, hf3⟩)
        (first
          | (go_at_call 110; refine (implEncodeKey_any x.k x.n x.s _ hxs).mono ?_; rintro e W1 ⟨A1, n1, c1, rfl, o1, hq⟩)
          | (go_at_call 42; refine (implEncodeRecord_any x.A x.m x.c x.fs _ hxm (rx.below (And.left ‹Below wr.heap.size wr _ ∧ _›)) hxf).mono ?_; rintro e W2 ⟨A2, n2, c2, rfl, o2, hq⟩))
      obtain ⟨BZ, _⟩ := ‹Below wr.heap.size wr _ ∧ _›
      have q1 := own_lenB o1
      have q2 := own_lenB o2
      have l1 := encK_len x.k x.n x.s
      have l2 := encR_len x.fs
      clear o1 o2
      go_wp2
      go_roundw
      case rel => exact ⟨k + 1, t + (n1 + n2), by omega, by go_num, by rw [IntWalk.i64_in ((n1 : Int) + n2) (by omega), IntWalk.i64_in ((t : Int) + (n1 + n2)) (by omega)]; go_num, by have h1 := HN.out; have h2 := HT.out; omega, hbel.trans (BZ.mono hbel.size)⟩
      case measure => simp [intOf]; omega
    · obtain rfl : k = n := by omega
      have HZ : Hid (r = (t : Int)) := by
        have h1 := HT.out
        rw [List.take_of_length_le (by rw [List.length_map]; exact Nat.le_of_eq LX.out)] at h1
        rw [HR.out, ← h1]
        exact Lib.hid rfl
      go_wp2
      go_ret
      exact ⟨ret_int HZ.out, hbel⟩
end Go.Proofs.Ytbbngihmjdndoaa
