/-
  Proved: the plain laws of records (lists of fields): names in their order, what a record is. Conditions: those that each statement names.
  By an AI agent; no person has read it.
-/
import Derived.Test.YtbbngihmjdndoaaFldH
import Derived.Test.YtbbngihmjdndoaaName
namespace Go.Proofs.Ytbbngihmjdndoaa
open Go.RowKit

/-- A name's order, as the walk spells it. -/
def ltN (a b : ByteArray) : Bool := Op.bytesLess a.toList b.toList
theorem bytesLess_dec : ∀ a b : List UInt8, Op.bytesLess a b = decide (a < b)
  | [], [] => by simp [Op.bytesLess]
  | [], b :: y => by simp [Op.bytesLess]
  | a :: x, [] => by simp [Op.bytesLess]
  | a :: x, b :: y => by
    simp only [Op.bytesLess, bytesLess_dec x y]
    rw [Bool.eq_iff_iff]
    simp [List.cons_lt_cons_iff]
theorem ltN_eq (a b : ByteArray) : ltN a b = decide (a.toList < b.toList) := bytesLess_dec _ _
def okR1 (p : Option Fld) (f : Fld) : Bool := nameB f.1.data.toList && inR f.2 0 1000000000 && (match p with | none => true | some g => ltN g.1 f.1)
def atR (l : List Fld) (k : Nat) : Bool := match l[k]? with | none => true | some f => okR1 (if k = 0 then none else l[k - 1]?) f
def recB (l : List Fld) : Bool := (List.range l.length).all (atR l) && decide (l.length ≤ 6)
theorem recB_false {l : List Fld} {k : Nat} {f : Fld} (hx : l[k]? = some f) (h : atR l k = false) : recB l = false := by
  have hk : k < l.length := (List.getElem?_eq_some_iff.1 hx).1
  have : (List.range l.length).all (atR l) = false := by
    rw [List.all_eq_false]
    exact ⟨k, List.mem_range.2 hk, by simp [h]⟩
  rw [recB, this, Bool.false_and]
theorem allR_step {l : List Fld} {k : Nat} (h : (List.range k).all (atR l) = true) (h1 : atR l k = true) : (List.range (k + 1)).all (atR l) = true := by
  rw [List.range_succ, List.all_append, h]
  simp [h1]

theorem ba_ext {a b : ByteArray} (h : a.toList = b.toList) : a = b := by
  obtain ⟨⟨a⟩⟩ := a
  obtain ⟨⟨b⟩⟩ := b
  simp only [ByteArray.toList_eq] at h
  rw [h]
theorem ltN_irr (a : ByteArray) : ltN a a = false := by simp [ltN_eq, List.lt_irrefl]
theorem ltN_trans {a b c : ByteArray} (h1 : ltN a b = true) (h2 : ltN b c = true) : ltN a c = true := by
  simp only [ltN_eq, decide_eq_true_eq] at *
  exact List.lt_trans h1 h2
theorem ltN_tri {a b : ByteArray} (h1 : ltN a b = false) (h2 : ltN b a = false) : a = b := by
  simp only [ltN_eq, decide_eq_false_iff_not, List.not_lt] at *
  exact ba_ext (List.le_antisymm h2 h1)
theorem pN_iff {nm : ByteArray} {f : Fld} : pN nm f = true ↔ f.1 = nm := by
  simp only [pN, beq_iff_eq]
  exact ⟨ba_ext, fun h => by rw [h]⟩
theorem pN_false {nm : ByteArray} {f : Fld} : pN nm f = false ↔ f.1 ≠ nm := by
  rw [← Bool.not_eq_true, pN_iff]
/-- What a record is: at most six fields, sorted by name, each good. -/
theorem recB_iff {l : List Fld} : recB l = true ↔ l.Pairwise (fun f g => ltN f.1 g.1 = true) ∧ (∀ f ∈ l, nameB f.1.data.toList = true ∧ 0 ≤ f.2 ∧ f.2 ≤ 1000000000) ∧ l.length ≤ 6 := by
  simp only [recB, Bool.and_eq_true, List.all_eq_true, List.mem_range, decide_eq_true_eq]
  have hat : ∀ k (hk : k < l.length), atR l k = true ↔ nameB l[k].1.data.toList = true ∧ (0 ≤ l[k].2 ∧ l[k].2 ≤ 1000000000) ∧ (∀ j, k = j + 1 → ltN (l[j]!).1 l[k].1 = true) := by
    intro k hk
    cases k with
    | zero => simp [atR, okR1, inR, List.getElem?_eq_getElem hk]
    | succ j =>
      have hj : j < l.length := by omega
      simp [atR, okR1, inR, List.getElem?_eq_getElem hk, List.getElem?_eq_getElem hj, and_assoc]
  constructor
  · rintro ⟨h, h6⟩
    refine ⟨?_, ?_, h6⟩
    · rw [List.pairwise_iff_getElem]
      have step : ∀ d i (hi : i + d + 1 < l.length), ltN (l[i]'(by omega)).1 (l[i + d + 1]).1 = true := by
        intro d
        induction d with
        | zero =>
          intro i hi
          have := ((hat (i + 1) hi).1 (h (i + 1) hi)).2.2 i rfl
          rwa [getElem!_pos l i (by omega)] at this
        | succ d ih =>
          intro i hi
          have h1 := ih i (by omega)
          have h2 := ((hat (i + d + 1 + 1) hi).1 (h (i + d + 1 + 1) hi)).2.2 (i + d + 1) rfl
          rw [getElem!_pos l (i + d + 1) (by omega)] at h2
          exact ltN_trans h1 h2
      intro i j hi hj hij
      obtain ⟨d, rfl⟩ : ∃ d, j = i + d + 1 := ⟨j - i - 1, by omega⟩
      exact step d i hj
    · intro f hf
      obtain ⟨k, hk, rfl⟩ := List.getElem_of_mem hf
      have := (hat k hk).1 (h k hk)
      exact ⟨this.1, this.2.1⟩
  · rintro ⟨hp, hg, h6⟩
    refine ⟨fun k hk => (hat k hk).2 ⟨(hg _ (List.getElem_mem hk)).1, (hg _ (List.getElem_mem hk)).2, ?_⟩, h6⟩
    rintro j rfl
    rw [getElem!_pos l j (by omega)]
    exact List.pairwise_iff_getElem.1 hp j (j + 1) (by omega) hk (by omega)

theorem ltN_asymm {a b : ByteArray} (h : ltN a b = true) : ltN b a = false := by
  cases h2 : ltN b a with
  | false => rfl
  | true => have := ltN_trans h h2; rw [ltN_irr] at this; cases this
/-- The test as the program makes it: 'a <= b' for 'not b < a'. -/
theorem leN_eq (a b : ByteArray) : (Op.bytesLess a.toList b.toList || a.toList == b.toList) = !ltN b a := by
  show (ltN a b || _) = _
  cases h : ltN b a with
  | true =>
    rw [ltN_asymm h]
    have : (a.toList == b.toList) = false := by
      rw [beq_eq_false_iff_ne]
      intro e
      rw [ba_ext e, ltN_irr] at h
      cases h
    simp [this]
  | false =>
    cases h2 : ltN a b with
    | true => simp
    | false =>
      have := ltN_tri h2 h
      subst this
      simp

theorem leN_true {s s' : ByteArray} (h : Op.bytesLess s.toList s'.toList = true ∨ (s.toList == s'.toList) = true) : ltN s' s = false := by
  have := leN_eq s s'
  rw [(by simpa using h : (Op.bytesLess s.toList s'.toList || s.toList == s'.toList) = true)] at this
  simpa using this.symm
theorem leN_false {s s' : ByteArray} (h : Op.bytesLess s.toList s'.toList = false ∧ (s.toList == s'.toList) = false) : ltN s' s = true := by
  have := leN_eq s s'
  rw [h.1, h.2] at this
  simpa using this.symm
theorem at_no {l : List Fld} {k j : Nat} {s s' : ByteArray} {x x' : Int} (hx : l[k]? = some (s, x)) (hx' : l[j]? = some (s', x')) (hj : k = j + 1) (hb : ltN s' s = false) : atR l k = false := by
  subst hj
  simp [atR, hx, hx', okR1, hb]
theorem at_ok {l : List Fld} {k j : Nat} {s s' : ByteArray} {x x' : Int} (hx : l[k]? = some (s, x)) (hx' : l[j]? = some (s', x')) (hj : k = j + 1) (h1 : true = nameB s.data.toList) (h2 : true = inR x 0 1000000000) (hb : ltN s' s = true) : atR l k = true := by
  subst hj
  simp [atR, hx, hx', okR1, ← h1, ← h2, hb]
end Go.Proofs.Ytbbngihmjdndoaa
