/-
  Proved: the contracts of marking and of its test with the count as a letter; small facts on rows that lie apart. Conditions: those that each statement names.
  By an AI agent; no person has read it.
-/
import Derived.Test.YtbbngihmjdndoaaFldM
import Derived.Test.YtbbngihmjdndoaaMark
import Derived.Test.YtbbngihmjdndoaaFldE
namespace Go.Proofs.Ytbbngihmjdndoaa
open Go.RowKit

theorem own_maxF {W : World} {base m c : Nat} {e : TypeId} {A : Option Addr} {l : List Fld} (o : W.ownsRow base e 2 (.slice A m c) m (fl l)) (h : l.length ≤ maxLen) : m ≤ maxLen := own_lenF o ▸ h
theorem own_maxB {W : World} {base m c : Nat} {e : TypeId} {A : Option Addr} {l : List UInt8} (o : W.ownsRow base e 1 (.slice A m c) m (l.map bv)) (h : l.length ≤ maxLen) : m ≤ maxLen := own_lenB o ▸ h
theorem cell_apart {w w' : World} {A : Option Addr} {b o : Nat} {v : Value} (hg : w.grownBy w' (A.map (·.block))) (h : w.cell? ⟨b, o, none⟩ = some v) (hA : ∀ ad, A = some ad → ad.block ≠ b) : w'.cell? ⟨b, o, none⟩ = some v :=
  hg.cell h (fun e => by
    cases A with
    | none => cases e
    | some ad =>
      have := hA ad rfl
      simp at e
      omega)
theorem markRecord_q (A : Option Addr) (n c base k q : Nat) (cells : List Value) (w : World) (h0 : 0 < k) (h1 : k + 2 * n ≤ 1099511627776) (hq : q = k + 2 * n) (ha : w.ownsRow base 91 2 (.slice A n c) n cells) :
    Calls Try.prog 24 #[.agg #[.slice A n c], .int .i64 (k : Int)] w fun e w' => e = .returned (.int .i64 (q : Int)) ∧ w'.ownsRow base 91 2 (.slice A n c) n (fl (marksF k n)) ∧ w.grownBy w' (A.map (·.block)) := by
  rw [hq]
  exact markRecord_any A n c base k cells w h0 h1 ha
theorem heldRecord_q (A : Option Addr) (n c k q : Nat) (w : World) (h0 : 0 < k) (h1 : k + 2 * n ≤ 1099511627776) (hq : q = k + 2 * n) (ha : Rd w 2 A n (fl (marksF k n))) :
    Calls Try.prog 25 #[.agg #[.slice A n c], .int .i64 (k : Int)] w fun e w' => e = .returned (.int .i64 (q : Int)) ∧ Below w.heap.size w w' := by
  rw [hq]
  exact heldRecord_any A n c k w h0 h1 ha
theorem markByteS_q (A : Option Addr) (n c base k q : Nat) (cells : List Value) (w : World) (h0 : 0 < k) (h1 : k + n ≤ 1099511627776) (hq : q = k + n) (ha : w.ownsRow base 5 1 (.slice A n c) n cells) :
    Calls Try.prog 44 #[.slice A n c, .int .i64 (k : Int)] w fun e w' => e = .returned (.int .i64 (q : Int)) ∧ w'.ownsRow base 5 1 (.slice A n c) n ((marksB (k : Int) n).map bv) ∧ w.grownBy w' (A.map (·.block)) := by
  rw [hq, Int.natCast_add]
  exact markByteS_any A n c base k cells w (by omega) (by omega) ha
theorem heldByteS_q (A : Option Addr) (n c k q : Nat) (w : World) (h0 : 0 < k) (h1 : k + n ≤ 1099511627776) (hq : q = k + n) (ha : Rd w 1 A n ((marksB (k : Int) n).map bv)) :
    Calls Try.prog 45 #[.slice A n c, .int .i64 (k : Int)] w fun e w' => e = .returned (.int .i64 (q : Int)) ∧ Below w.heap.size w w' := by
  rw [hq, Int.natCast_add]
  exact heldByteS_any A n c k w (by omega) (by omega) ha
end Go.Proofs.Ytbbngihmjdndoaa
