/-
  Proved: the contracts of the copies of a record, of the program and of the reference. Conditions: the slices read as lists.
  By an AI agent; no person has read it.
-/
import Derived.Test.YtbbngihmjdndoaaFldL
import Derived.Test.YtbbngihmjdndoaaGuard
namespace Go.Proofs.Ytbbngihmjdndoaa
open Go.RowKit

theorem own_newA {w : World} {e : TypeId} {base size g : Nat} (hg : g = w.heap.size) (hb : base ≤ w.heap.size) : (w.alloc (.cells #[] e)).ownsRow base e size (.slice (some ⟨g, 0, none⟩) 0 0) 0 [] := hg ▸ own_new hb

set_option maxRecDepth 100000 in
theorem copyRecord_any (A : Option Addr) (n c : Nat) (l : List Fld) (w : World) (hn : n ≤ 1099511627776) (ha : Rd w 2 A n (fl l)) :
    Calls Try.prog 79 #[.agg #[.slice A n c]] w (MkR w l) := by
  obtain ⟨i0, hi, hz0, hz1, hz2⟩ := info_parts infoF
  have la := Lib.hid ha.lenF
  go_enter Try.func79, Try.ntmps79
  go_wp2_with (at_builtin; refine wpList_cat _ rfl _ _ 26 (by rfl) (w.heap.size + 2) 91 i0 (.agg #[.string ⟨#[]⟩, .int .i64 0]) 2 24 Try.underlying26 hi hz0 hz1 hz2 rfl (by decide) (some ⟨w.heap.size + 2, 0, none⟩) 0 0 [] (by rfl) ?c1 A n c (fl l) (by rfl) ?c2 (ones_fl l) ?c3 ?c4 ?c5 ?_)
  case c1 => exact own_newA (by simp) (by simp)
  case c2 => exact ((ha.alloc _).alloc _).alloc _
  case c3 => unfold maxLen; omega
  case c4 => omega
  case c5 => simp
  intro A1 n1 c1 w1 hn1 o1 b1 g1
  have hz : w.heap.size + 2 ≤ w1.heap.size := by have := b1.size; simp at this; omega
  have d0 : w1.cell? ⟨w.heap.size + 1, 0, none⟩ = some (.slice none 0 0) := (b1.cell (p := ⟨w.heap.size + 1, 0, none⟩) (by simp)).trans (by simp [go_sem])
  have f0 : w1.frozen? ⟨w.heap.size + 1, 0, none⟩ = false := (b1.frozen (p := ⟨w.heap.size + 1, 0, none⟩) (by simp)).trans (by simp [go_sem])
  have B1 : Below w.heap.size w w1 := Below.trans (al (al (al (Below.refl _ _)))) (b1.mono (by omega))
  have O2 := Lib.hid (own_base (base' := w.heap.size) (ownsRow_setCell_below o1 (a := ⟨w.heap.size + 1, 0, none⟩) (by simp) (.slice A1 n1 c1)) (by omega))
  have B2 := Lib.hid (B1.setCell (p := ⟨w.heap.size + 1, 0, none⟩) (by simp) (.slice A1 n1 c1))
  clear b1 B1 o1 g1 hn1
  go_wp2
  exact bodyPost_ret (v := .agg #[.slice A1 n1 c1]) (by simp [results, Try.results79, go_sem, d0]) rfl ⟨_, _, _, rfl, O2.out, B2.out⟩

set_option maxRecDepth 100000 in
theorem l5Copy_any (A : Option Addr) (n c : Nat) (l : List Fld) (w : World) (hn : n ≤ 1099511627776) (ha : Rd w 2 A n (fl l)) :
    Calls Try.prog 74 #[.agg #[.slice A n c]] w (MkR w l) := by
  obtain ⟨i0, hi, hz0, hz1, hz2⟩ := info_parts infoF
  have la := Lib.hid ha.lenF
  go_enter Try.func74, Try.ntmps74
  go_wp2_with (at_builtin; refine wpList_cat _ rfl _ _ 26 (by rfl) (w.heap.size + 2) 91 i0 (.agg #[.string ⟨#[]⟩, .int .i64 0]) 2 24 Try.underlying26 hi hz0 hz1 hz2 rfl (by decide) (some ⟨w.heap.size + 2, 0, none⟩) 0 0 [] (by rfl) ?c1 A n c (fl l) (by rfl) ?c2 (ones_fl l) ?c3 ?c4 ?c5 ?_)
  case c1 => exact own_newA (by simp) (by simp)
  case c2 => exact ((ha.alloc _).alloc _).alloc _
  case c3 => unfold maxLen; omega
  case c4 => omega
  case c5 => simp
  intro A1 n1 c1 w1 hn1 o1 b1 g1
  have hz : w.heap.size + 2 ≤ w1.heap.size := by have := b1.size; simp at this; omega
  have d0 : w1.cell? ⟨w.heap.size + 1, 0, none⟩ = some (.slice none 0 0) := (b1.cell (p := ⟨w.heap.size + 1, 0, none⟩) (by simp)).trans (by simp [go_sem])
  have f0 : w1.frozen? ⟨w.heap.size + 1, 0, none⟩ = false := (b1.frozen (p := ⟨w.heap.size + 1, 0, none⟩) (by simp)).trans (by simp [go_sem])
  have B1 : Below w.heap.size w w1 := Below.trans (al (al (al (Below.refl _ _)))) (b1.mono (by omega))
  have O2 := Lib.hid (own_base (base' := w.heap.size) (ownsRow_setCell_below o1 (a := ⟨w.heap.size + 1, 0, none⟩) (by simp) (.slice A1 n1 c1)) (by omega))
  have B2 := Lib.hid (B1.setCell (p := ⟨w.heap.size + 1, 0, none⟩) (by simp) (.slice A1 n1 c1))
  clear b1 B1 o1 g1 hn1
  go_wp2
  exact bodyPost_ret (v := .agg #[.slice A1 n1 c1]) (by simp [results, Try.results74, go_sem, d0]) rfl ⟨_, _, _, rfl, O2.out, B2.out⟩

end Go.Proofs.Ytbbngihmjdndoaa
