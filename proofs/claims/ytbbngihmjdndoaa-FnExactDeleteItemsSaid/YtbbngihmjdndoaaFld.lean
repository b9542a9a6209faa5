/-
  Proved: slices of fields (a string and an int each) that read as lists; no program is named here but for the table of types. Conditions: those that each statement names.
  By an AI agent; no person has read it.
-/
import Derived.Test.YtbbngihmjdndoaaIn
namespace Go.Proofs.Ytbbngihmjdndoaa
open Go.RowKit

abbrev Fld := ByteArray × Int
/-- A field as cells; a list of fields as cells. -/
def fv (f : Fld) : List Value := [.string f.1, .int .i64 f.2]
def fl (l : List Fld) : List Value := l.flatMap fv
theorem fl_len (l : List Fld) : (fl l).length = l.length * 2 := by
  induction l with
  | nil => rfl
  | cons f l ih =>
    simp only [fl, List.flatMap_cons, List.length_append, List.length_cons] at ih ⊢
    rw [ih]
    simp [fv]
    omega
theorem fl_cons (f : Fld) (l : List Fld) : fl (f :: l) = .string f.1 :: .int .i64 f.2 :: fl l := rfl
theorem fl_append (l m : List Fld) : fl (l ++ m) = fl l ++ fl m := List.flatMap_append
theorem fl_at : ∀ (l : List Fld) (k : Nat) (f : Fld), l[k]? = some f → (fl l)[k * 2]? = some (.string f.1) ∧ (fl l)[k * 2 + 1]? = some (.int .i64 f.2)
  | [], _, _, h => by simp at h
  | g :: l, 0, f, h => by
    simp at h
    subst h
    exact ⟨rfl, rfl⟩
  | g :: l, k + 1, f, h => by
    rw [List.getElem?_cons_succ] at h
    have := fl_at l k f h
    rw [fl_cons, show (k + 1) * 2 = k * 2 + 1 + 1 by omega, List.getElem?_cons_succ, List.getElem?_cons_succ, show k * 2 + 1 + 1 + 1 = (k * 2 + 1) + 1 + 1 by omega, List.getElem?_cons_succ, List.getElem?_cons_succ]
    exact this
theorem Rd.lenF {w : World} {A : Option Addr} {n : Nat} {l : List Fld} (h : Rd w 2 A n (fl l)) : l.length = n := by
  have := h.1
  rw [fl_len] at this
  omega
theorem Rd.fld {w : World} {A : Option Addr} {n k : Nat} {l : List Fld} (h : Rd w 2 A n (fl l)) (hk : k < n) :
    ∃ b o s x, A = some ⟨b, o, none⟩ ∧ b < w.heap.size ∧ l[k]? = some (s, x) ∧ w.cell? ⟨b, o + k * 2, none⟩ = some (.string s) ∧ w.cell? ⟨b, o + k * 2 + 1, none⟩ = some (.int .i64 x) := by
  have hl := h.lenF
  obtain ⟨b, o, e, hlt, hc⟩ := h.2 (by omega)
  have hx : l[k]? = some (l[k]'(by omega)) := List.getElem?_eq_getElem (by omega)
  obtain ⟨h0, h1⟩ := fl_at l k _ hx
  exact ⟨b, o, _, _, e, hlt, hx, hc _ _ h0, hc _ _ h1⟩
theorem own_lenF {w : World} {base : Nat} {e : TypeId} {v : Value} {n : Nat} {l : List Fld} (h : w.ownsRow base e 2 v n (fl l)) : l.length = n := by
  have := h.1
  rw [fl_len] at this
  omega
theorem ones_fl (l : List Fld) : ∀ u ∈ fl l, u.oneCell' = true := by
  intro u hu
  obtain ⟨f, _, hf⟩ := List.mem_flatMap.1 hu
  simp only [fv, List.mem_cons, List.not_mem_nil, or_false] at hf
  rcases hf with rfl | rfl <;> rfl
/-- Fields that the laws' reading bounds. -/
def okF (l : List Fld) : Prop := ∀ f ∈ l, f.1.size ≤ maxLen ∧ -9223372036854775808 ≤ f.2 ∧ f.2 ≤ 9223372036854775807
end Go.Proofs.Ytbbngihmjdndoaa
