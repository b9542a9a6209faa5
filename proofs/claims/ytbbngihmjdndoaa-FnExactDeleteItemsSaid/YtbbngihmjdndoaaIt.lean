/-
  Proved: slices of items (a key and a record each) that read as lists; no program is named here but for the table of types. Conditions: those that each statement names.
  By an AI agent; no person has read it.
-/
import Derived.Test.YtbbngihmjdndoaaFld
namespace Go.Proofs.Ytbbngihmjdndoaa
open Go.RowKit

/-- An item: its key, its record's slice and what that slice reads as. -/
structure Itm where
  k : Int
  n : Int
  s : ByteArray
  A : Option Addr
  m : Nat
  c : Nat
  fs : List Fld
/-- What an item says. -/
abbrev LIt := Int × Int × ByteArray × List Fld
def Itm.l (x : Itm) : LIt := (x.k, x.n, x.s, x.fs)
def itv (x : Itm) : List Value := [.int .i64 x.k, .int .i64 x.n, .string x.s, .slice x.A x.m x.c]
def itl (l : List Itm) : List Value := l.flatMap itv
theorem itl_len (l : List Itm) : (itl l).length = l.length * 4 := by
  induction l with
  | nil => rfl
  | cons f l ih =>
    simp only [itl, List.flatMap_cons, List.length_append, List.length_cons] at ih ⊢
    rw [ih]
    simp [itv]
    omega
theorem itl_cons (x : Itm) (l : List Itm) : itl (x :: l) = .int .i64 x.k :: .int .i64 x.n :: .string x.s :: .slice x.A x.m x.c :: itl l := rfl
theorem itl_append (l m : List Itm) : itl (l ++ m) = itl l ++ itl m := List.flatMap_append
theorem itl_at : ∀ (l : List Itm) (j : Nat) (x : Itm), l[j]? = some x → (itl l)[j * 4]? = some (.int .i64 x.k) ∧ (itl l)[j * 4 + 1]? = some (.int .i64 x.n) ∧ (itl l)[j * 4 + 2]? = some (.string x.s) ∧ (itl l)[j * 4 + 3]? = some (.slice x.A x.m x.c)
  | [], _, _, h => by simp at h
  | g :: l, 0, f, h => by
    simp at h
    subst h
    exact ⟨rfl, rfl, rfl, rfl⟩
  | g :: l, j + 1, f, h => by
    rw [List.getElem?_cons_succ] at h
    have := itl_at l j f h
    rw [itl_cons, show (j + 1) * 4 = j * 4 + 1 + 1 + 1 + 1 by omega]
    refine ⟨?_, ?_, ?_, ?_⟩
    · simp only [List.getElem?_cons_succ]; exact this.1
    · rw [show j * 4 + 1 + 1 + 1 + 1 + 1 = j * 4 + 1 + 1 + 1 + 1 + 1 from rfl]; simp only [List.getElem?_cons_succ]; exact this.2.1
    · rw [show j * 4 + 1 + 1 + 1 + 1 + 2 = j * 4 + 2 + 1 + 1 + 1 + 1 by omega]; simp only [List.getElem?_cons_succ]; exact this.2.2.1
    · rw [show j * 4 + 1 + 1 + 1 + 1 + 3 = j * 4 + 3 + 1 + 1 + 1 + 1 by omega]; simp only [List.getElem?_cons_succ]; exact this.2.2.2
/-- The slice reads as items, and the items' records read. -/
def RdI (w : World) (A : Option Addr) (n : Nat) (l : List Itm) : Prop := Rd w 4 A n (itl l) ∧ ∀ x ∈ l, Rd w 2 x.A x.m (fl x.fs)
theorem RdI.lenI {w : World} {A : Option Addr} {n : Nat} {l : List Itm} (h : RdI w A n l) : l.length = n := by
  have := h.1.1
  rw [itl_len] at this
  omega
theorem RdI.below {w w' : World} {A : Option Addr} {n : Nat} {l : List Itm} (h : RdI w A n l) (hb : Below w.heap.size w w') : RdI w' A n l := ⟨h.1.below hb, fun x hx => (h.2 x hx).below hb⟩
theorem RdI.alloc {w : World} {A : Option Addr} {n : Nat} {l : List Itm} (h : RdI w A n l) (o : Obj) : RdI (w.alloc o) A n l := ⟨h.1.alloc o, fun x hx => (h.2 x hx).alloc o⟩
theorem RdI.drew {w : World} {A : Option Addr} {n : Nat} {l : List Itm} (h : RdI w A n l) : RdI w.drew A n l := h
theorem RdI.nil_ {w : World} {A : Option Addr} : RdI w A 0 [] := ⟨Rd.nil_, fun x hx => by cases hx⟩
theorem RdI.itm {w : World} {A : Option Addr} {n j : Nat} {l : List Itm} (h : RdI w A n l) (hj : j < n) :
    ∃ b o x, A = some ⟨b, o, none⟩ ∧ b < w.heap.size ∧ l[j]? = some x ∧ w.cell? ⟨b, o + j * 4, none⟩ = some (.int .i64 x.k) ∧ w.cell? ⟨b, o + j * 4 + 1, none⟩ = some (.int .i64 x.n) ∧ w.cell? ⟨b, o + j * 4 + 2, none⟩ = some (.string x.s) ∧ w.cell? ⟨b, o + j * 4 + 3, none⟩ = some (.slice x.A x.m x.c) ∧ Rd w 2 x.A x.m (fl x.fs) := by
  have hl := h.lenI
  obtain ⟨b, o, e, hlt, hc⟩ := h.1.2 (by omega)
  have hx : l[j]? = some (l[j]'(by omega)) := List.getElem?_eq_getElem (by omega)
  obtain ⟨h0, h1, h2, h3⟩ := itl_at l j _ hx
  exact ⟨b, o, _, e, hlt, hx, hc _ _ h0, hc _ _ h1, hc _ _ h2, hc _ _ h3, h.2 _ (List.mem_of_getElem? hx)⟩
/-- Bounds that hold of what was read. -/
def i64R' (x : Int) : Prop := -9223372036854775808 ≤ x ∧ x ≤ 9223372036854775807
def okI (l : List LIt) : Prop := ∀ x ∈ l, i64R' x.1 ∧ i64R' x.2.1 ∧ x.2.2.1.size ≤ maxLen ∧ x.2.2.2.length ≤ maxLen ∧ okF x.2.2.2
theorem okI_at {l : List Itm} (h : okI (l.map Itm.l)) {x : Itm} (hx : x ∈ l) : i64R' x.k ∧ i64R' x.n ∧ x.s.size ≤ maxLen ∧ x.fs.length ≤ maxLen ∧ okF x.fs := h x.l (List.mem_map.2 ⟨x, hx, rfl⟩)
theorem ones_itl (l : List Itm) : ∀ u ∈ itl l, u.oneCell' = true := by
  intro u hu
  obtain ⟨f, _, hf⟩ := List.mem_flatMap.1 hu
  simp only [itv, List.mem_cons, List.not_mem_nil, or_false] at hf
  rcases hf with rfl | rfl | rfl | rfl <;> rfl
theorem own_lenIt {w : World} {base : Nat} {e : TypeId} {v : Value} {n : Nat} {l : List Itm} (h : w.ownsRow base e 4 v n (itl l)) : l.length = n := by
  have := h.1
  rw [itl_len] at this
  omega
theorem map_at {l m : List Itm} (h : l.map Itm.l = m.map Itm.l) {j : Nat} {x y : Itm} (hx : l[j]? = some x) (hy : m[j]? = some y) : x.k = y.k ∧ x.n = y.n ∧ x.s = y.s ∧ x.fs = y.fs := by
  have h1 : (l.map Itm.l)[j]? = some x.l := by rw [List.getElem?_map, hx]; rfl
  have h2 : (m.map Itm.l)[j]? = some y.l := by rw [List.getElem?_map, hy]; rfl
  rw [h, h2] at h1
  injection h1 with h1
  simp only [Itm.l, Prod.mk.injEq] at h1
  exact ⟨h1.1.symm, h1.2.1.symm, h1.2.2.1.symm, h1.2.2.2.symm⟩
theorem map_len {l m : List Itm} (h : l.map Itm.l = m.map Itm.l) : l.length = m.length := by
  have := congrArg List.length h
  simpa using this
end Go.Proofs.Ytbbngihmjdndoaa
