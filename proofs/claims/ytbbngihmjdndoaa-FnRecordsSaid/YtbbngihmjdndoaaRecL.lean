/-
  Proved, of no program: what the law on records asks: a field that was set is found until it is removed, and records are decoded from their encoding. Conditions: those that each statement names.
  By an AI agent; no person has read it.
-/
import Derived.Test.YtbbngihmjdndoaaMrgP
import Derived.Test.YtbbngihmjdndoaaRecP
import Derived.Test.YtbbngihmjdndoaaRecS
import Derived.Test.YtbbngihmjdndoaaFldD
namespace Go.Proofs.Ytbbngihmjdndoaa
open Go.RowKit

theorem set_mem (l : List Fld) (nm : ByteArray) (x : Int) : (nm, x) ∈ setS l nm x := by
  have hi : (nm, x) ∈ insF l nm x := List.mem_append_right _ List.mem_cons_self
  unfold setS
  split
  · rename_i f hf
    split
    · have hlt : posF l nm < l.length := (List.getElem?_eq_some_iff.1 hf).1
      exact List.mem_iff_getElem.2 ⟨posF l nm, by simpa using hlt, by simp⟩
    · exact hi
  · exact hi
theorem setR_yes {l lr : List Fld} {nm : ByteArray} {x : Int} (h : (lr, true) = setR l nm x) : recB lr = true ∧ (nm, x) ∈ lr := by
  unfold setR at h
  split at h
  · rename_i hh
    simp only [Prod.mk.injEq, and_true] at h
    subst h
    simp only [Bool.and_eq_true] at hh
    exact ⟨hh.2, set_mem l nm x⟩
  · simp at h
theorem setR_not {l lr : List Fld} {nm : ByteArray} {x : Int} (h : (lr, false) = setR l nm x) : lr = l := by
  unfold setR at h
  split at h
  · simp at h
  · simpa using h
theorem rec_law {l lr : List Fld} {nm : ByteArray} {x : Int} (h : (lr, true) = setR l nm x) : (x, true) = getF lr nm ∧ (remS lr nm, true) = remR lr nm ∧ (0, false) = getF (remS lr nm) nm := by
  obtain ⟨hr, hm⟩ := setR_yes h
  refine ⟨((getF_mem (sorted_of_rec hr)).1 hm).symm, ?_, (getF_off ?_).symm⟩
  · have hne : (remS lr nm).length ≠ lr.length := by
      intro e
      have := (List.length_filter_eq_length_iff.1 (show (lr.filter (fun f => !pN nm f)).length = lr.length from e)) _ hm
      have hp : pN nm (nm, x) = true := pN_iff.2 rfl
      simp [hp] at this
    unfold remR
    rw [if_pos ⟨hr, hne⟩]
  · intro y hy
    unfold remS at hy
    have := (List.mem_filter.1 hy).2
    have hp : pN nm (nm, y) = true := pN_iff.2 rfl
    simp [hp] at this
theorem okF_rec {l : List Fld} (h : recB l = true) : okF l := by
  intro f hf
  have h1 := (recB_iff.1 h).2.1 f hf
  have h2 := nameB_len h1.1
  rw [str_len'] at h2
  exact ⟨by unfold maxLen; omega, by omega, by omega⟩
theorem dec_back {d : List UInt8} {u : List Fld} (h : (u, true) = decO (decP d)) : recB u = true ∧ encR u = d := by
  unfold decP at h
  cases hd : readR d with
  | none => rw [hd] at h; simp [decO] at h
  | some p =>
    obtain ⟨l, q⟩ := p
    rw [hd] at h
    simp only at h
    by_cases he : encR l = d
    · rw [if_pos he] at h
      simp only [decO, Prod.mk.injEq, and_true] at h
      subst h
      refine ⟨?_, he⟩
      cases hr : recB u with
      | true => rfl
      | false =>
        have h1 := (readR_canon hd).1
        rw [← he, encR_no hr] at h1
        simp at h1
    · rw [if_neg he] at h
      simp [decO] at h
theorem dec_none {d : List UInt8} {u : List Fld} (h : (u, false) = decO (decP d)) : u = [] := by
  cases hd : decP d with
  | none => rw [hd] at h; simpa [decO] using h
  | some l => rw [hd] at h; simp [decO] at h
end Go.Proofs.Ytbbngihmjdndoaa
