/-
  Proved: the contracts of the two range tests, and small facts on strings and lists. Conditions: the ints are ints of 64 bits.
  By an AI agent; no person has read it.
-/
import Derived.Test.YtnbhdijmbpdgoaaDoorTypes
import Derived.Outline
namespace Go.Proofs.YtnbhdijmbpdgoaaDoor
open Go.RowKit

/-- The test a ≤ x ≤ b. -/
def inR (x a b : Int) : Bool := decide (a ≤ x ∧ x ≤ b)
theorem inR_true {x a b : Int} (h1 : a ≤ x) (h2 : x ≤ b) : inR x a b = true := decide_eq_true ⟨h1, h2⟩
theorem inR_false {x a b : Int} (h : x < a ∨ b < x) : inR x a b = false := decide_eq_false (by omega)

theorem l1In_any (x a b : Int) (r : Bool) (w : World) (hr : r = inR x a b) :
    Calls Tryd.prog 49 #[.int .i64 x, .int .i64 a, .int .i64 b] w fun e w' => e = .returned (.bool r) ∧ w = w' := by
  have HR := Lib.hid hr
  clear hr
  by_cases h1 : a ≤ x <;> by_cases h2 : x ≤ b
  all_goals
    go_enter Tryd.func49, Tryd.ntmps49
    go_wp2
    go_ret
    exact ⟨ret_bool (by rw [HR.out]; simp [inR, h1, h2]), rfl⟩

theorem InRange_any (x a b : Int) (r : Bool) (w : World) (hr : r = inR x a b) :
    Calls Tryd.prog 46 #[.int .i64 x, .int .i64 a, .int .i64 b] w fun e w' => e = .returned (.bool r) ∧ w = w' := by
  have HR := Lib.hid hr
  clear hr
  by_cases h1 : a ≤ x <;> by_cases h2 : x ≤ b
  all_goals
    go_enter Tryd.func46, Tryd.ntmps46
    go_wp2
    go_ret
    exact ⟨ret_bool (by rw [HR.out]; simp [inR, h1, h2]), rfl⟩

/-- Behind a call that leaves what was there: the old cells and marks, as rules of the walk. -/
theorem bcell {W w1 : World} (hb : Below W.heap.size W w1) : (∀ b o, b < W.heap.size → w1.cell? ⟨b, o, none⟩ = W.cell? ⟨b, o, none⟩) ∧ (∀ b o, b < W.heap.size → w1.frozen? ⟨b, o, none⟩ = W.frozen? ⟨b, o, none⟩) :=
  ⟨fun b o h => hb.cell (p := ⟨b, o, none⟩) h, fun b o h => hb.frozen (p := ⟨b, o, none⟩) h⟩
/-- A cell behind a call that leaves what was there. -/
theorem kcell {W w1 : World} (hb : Below W.heap.size W w1) {b o : Nat} {v : Value} (h : W.cell? ⟨b, o, none⟩ = some v) : w1.cell? ⟨b, o, none⟩ = some v :=
  (hb.cell (p := ⟨b, o, none⟩) (World.block_lt_of_cell? W _ h)).trans h
/-- A cell that lies ahead of the row that was written. -/
theorem cell_far {w w' : World} {A : Option Addr} {b o : Nat} {v : Value} (hg : w.grownBy w' (A.map (·.block))) (h : w.cell? ⟨b, o, none⟩ = some v) (hA : ∀ ad, A = some ad → b < ad.block) : w'.cell? ⟨b, o, none⟩ = some v :=
  hg.cell h (fun e => by
    cases A with
    | none => cases e
    | some ad =>
      have := hA ad rfl
      simp at e
      omega)
theorem al {a w : World} {o : Obj} (h : Below a.heap.size a w) : Below a.heap.size a (w.alloc o) := h.alloc h.size o
theorem str_at (s : ByteArray) (k : Nat) (h : k < s.size) : s.data.toList[k]? = some s[k] := by
  rw [List.getElem?_eq_getElem (by simpa using h)]
  rfl
theorem str_len (s : ByteArray) : s.data.toList.length = s.size := Array.length_toList
theorem all_take_step {p : UInt8 → Bool} {l : List UInt8} {k : Nat} {x : UInt8} (hx : l[k]? = some x) (h : (l.take k).all p = true) (hp : p x = true) : (l.take (k + 1)).all p = true := by
  rw [take_snoc hx, List.all_append, h]
  simp [hp]
theorem all_false_at {p : UInt8 → Bool} {l : List UInt8} {k : Nat} {x : UInt8} (hx : l[k]? = some x) (hp : p x = false) : l.all p = false := by
  rw [List.all_eq_false]
  exact ⟨x, List.mem_of_getElem? hx, by simp [hp]⟩

end Go.Proofs.YtnbhdijmbpdgoaaDoor
