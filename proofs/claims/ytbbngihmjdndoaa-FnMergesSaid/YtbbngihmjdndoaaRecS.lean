/-
  Proved: the plain laws of records: what setting and removing a field gives, as the program does it and as the reference does it. Conditions: those that each statement names.
  By an AI agent; no person has read it.
-/
import Derived.Test.YtbbngihmjdndoaaRecB
namespace Go.Proofs.Ytbbngihmjdndoaa
open Go.RowKit

/-- Where a new field of that name goes: behind all that are less. -/
def posF (l : List Fld) (nm : ByteArray) : Nat := l.findIdx (fun f => !ltN f.1 nm)
def insF (l : List Fld) (nm : ByteArray) (x : Int) : List Fld := l.take (posF l nm) ++ (nm, x) :: l.drop (posF l nm)
/-- What the program's SetField sets: by the first field of that name. -/
def setI (l : List Fld) (nm : ByteArray) (x : Int) : List Fld := match l.findIdx? (pN nm) with | some k => l.set k (nm, x) | none => insF l nm x
/-- What the reference's SetField sets: by the place in the order. -/
def setS (l : List Fld) (nm : ByteArray) (x : Int) : List Fld := match l[posF l nm]? with | some f => if pN nm f then l.set (posF l nm) (nm, x) else insF l nm x | none => insF l nm x
theorem posF_lt {l : List Fld} {nm : ByteArray} {k : Nat} (h : k < posF l nm) (hk : k < l.length) : ltN l[k].1 nm = true := by
  have := List.not_of_lt_findIdx (p := fun f : Fld => !ltN f.1 nm) (xs := l) h
  simpa using this
theorem posF_at {l : List Fld} {nm : ByteArray} (h : posF l nm < l.length) : ltN l[posF l nm].1 nm = false := by
  have := List.findIdx_getElem (p := fun f : Fld => !ltN f.1 nm) (xs := l) (w := h)
  simp only [Bool.not_eq_true'] at this
  exact this
theorem posF_le (l : List Fld) (nm : ByteArray) : posF l nm ≤ l.length := List.findIdx_le_length
theorem set_eq {l : List Fld} (h : recB l = true) (nm : ByteArray) (x : Int) : setI l nm x = setS l nm x := by
  obtain ⟨hp, -, -⟩ := recB_iff.1 h
  rw [List.pairwise_iff_getElem] at hp
  unfold setI setS
  cases hf : l.findIdx? (pN nm) with
  | none =>
    rw [List.findIdx?_eq_none_iff] at hf
    cases hx : l[posF l nm]? with
    | none => rfl
    | some f =>
      have := hf f (List.mem_of_getElem? hx)
      simp [this]
  | some k =>
    rw [List.findIdx?_eq_some_iff_getElem] at hf
    obtain ⟨hk, hpk, hlt⟩ := hf
    have hkn := pN_iff.1 hpk
    have h1 : posF l nm ≤ k := by
      rcases Nat.lt_or_ge k (posF l nm) with h0 | h0
      · have := posF_lt h0 hk
        rw [hkn, ltN_irr] at this
        cases this
      · exact h0
    have h2 : posF l nm = k := by
      rcases Nat.lt_or_ge (posF l nm) k with h0 | h0
      · have h3 := posF_at (l := l) (nm := nm) (by omega)
        have h4 := hp (posF l nm) k (by omega) hk h0
        rw [hkn] at h4
        rw [h4] at h3
        cases h3
      · omega
    simp [h2, List.getElem?_eq_getElem hk, hpk]
/-- What SetField answers. -/
def setR (l : List Fld) (nm : ByteArray) (x : Int) : List Fld × Bool := if recB l && recB (setS l nm x) then (setS l nm x, true) else (l, false)
theorem setR_impl (l : List Fld) (nm : ByteArray) (x : Int) : setR l nm x = if recB l && recB (setI l nm x) then (setI l nm x, true) else (l, false) := by
  unfold setR
  cases h : recB l
  · rfl
  · rw [set_eq h]

/-- What the reference's RemoveField keeps. -/
def remS (l : List Fld) (nm : ByteArray) : List Fld := l.filter (fun f => !pN nm f)
def remR (l : List Fld) (nm : ByteArray) : List Fld × Bool := if recB l = true ∧ (remS l nm).length ≠ l.length then (remS l nm, true) else (l, false)
theorem filter_one {α : Type} {p : α → Bool} : ∀ {l : List α} {k : Nat} (hk : k < l.length), p l[k] = true → (∀ j (hj : j < l.length), j ≠ k → p l[j] = false) → l.filter (fun a => !p a) = l.eraseIdx k
  | a :: l, 0, hk, h1, h2 => by
    simp only [List.getElem_cons_zero] at h1
    rw [List.filter_cons]
    simp only [h1, List.eraseIdx_cons_zero]
    rw [if_neg (by simp), List.filter_eq_self]
    intro b hb
    obtain ⟨j, hj, rfl⟩ := List.getElem_of_mem hb
    have := h2 (j + 1) (by simpa using hj) (by omega)
    simpa using this
  | a :: l, k + 1, hk, h1, h2 => by
    have h0 : p a = false := h2 0 (by simp) (by omega)
    rw [List.filter_cons]
    simp only [h0, List.eraseIdx_cons_succ]
    rw [if_pos (by simp), filter_one (p := p) (k := k) (by simpa using hk) (by simpa using h1) (fun j hj hne => by
      have := h2 (j + 1) (by simpa using hj) (by omega)
      simpa using this)]
theorem rem_eq {l : List Fld} (h : recB l = true) (nm : ByteArray) : remR l nm = (match l.findIdx? (pN nm) with | some k => (l.eraseIdx k, true) | none => (l, false)) := by
  obtain ⟨hp, -, -⟩ := recB_iff.1 h
  rw [List.pairwise_iff_getElem] at hp
  unfold remR
  cases hf : l.findIdx? (pN nm) with
  | none =>
    rw [List.findIdx?_eq_none_iff] at hf
    have : remS l nm = l := by
      unfold remS
      rw [List.filter_eq_self]
      intro a ha
      simp [hf a ha]
    rw [this]
    simp
  | some k =>
    rw [List.findIdx?_eq_some_iff_getElem] at hf
    obtain ⟨hk, hpk, hlt⟩ := hf
    have hkn := pN_iff.1 hpk
    have : remS l nm = l.eraseIdx k := filter_one hk hpk (fun j hj hne => by
      rw [pN_false]
      intro hj2
      rcases Nat.lt_or_ge j k with h0 | h0
      · have := hp j k hj hk h0
        rw [hkn, hj2, ltN_irr] at this
        cases this
      · have := hp k j hk hj (by omega)
        rw [hkn, hj2, ltN_irr] at this
        cases this)
    rw [this, if_pos ⟨h, by rw [List.length_eraseIdx, if_pos hk]; omega⟩]
theorem rem_no {l : List Fld} (h : recB l = false) (nm : ByteArray) : remR l nm = (l, false) := by
  unfold remR
  rw [if_neg (by simp [h])]
end Go.Proofs.Ytbbngihmjdndoaa
