/-
  Proved: what a conversion between byte slices and strings gives, for slices that read as lists. Conditions: those that each statement names.
  By an AI agent; no person has read it.
-/
import Derived.Test.YtnbhdijmbpdgoaaDoorTypes
import Derived.Laws.IdiomStrings
namespace Go.Proofs.YtnbhdijmbpdgoaaDoor
open Go.RowKit

/-- The string of a list of bytes. -/
def strOf (l : List UInt8) : ByteArray := ⟨l.toArray⟩
theorem strOf_toList (l : List UInt8) : (strOf l).data.toList = l := by simp [strOf]
theorem strOf_size (l : List UInt8) : (strOf l).size = l.length := by
  show l.toArray.size = l.length
  simp
theorem strOf_data (s : ByteArray) : strOf s.data.toList = s := by
  cases s
  simp [strOf]
theorem strOf_inj {a b : List UInt8} : strOf a = strOf b ↔ a = b := by
  constructor
  · intro h
    rw [← strOf_toList a, ← strOf_toList b, h]
  · rintro rfl
    rfl

theorem run_str_of {P : Program} (w : World) (src dst e : TypeId) (A : Option Addr) (n c : Nat) (l : List UInt8) (hs : P.underlying src = some (.slice e)) (he : P.underlying e = some (.int .u8)) (hd : P.underlying dst = some .string)
    (h : Rd w 1 A n (l.map bv)) : (convert src dst (.slice A n c)).run P w = .ok (.string (strOf l)) w := by
  have hl := h.lenB
  cases A with
  | none =>
    have hn : n = 0 := by
      rcases Nat.eq_zero_or_pos n with h0 | h0
      · exact h0
      · obtain ⟨b, o, e1, _⟩ := h.2 h0
        cases e1
    subst hn
    have : l = [] := List.eq_nil_of_length_eq_zero hl
    subst this
    rw [run_convert_bytes_string w src dst e _ 0 c hs he hd]
    simp [Conv.bytesToString, strOf]
    rfl
  | some ad =>
    subst hl
    refine run_convert_bytes_back w src dst e ad c l hs he hd (fun j hj => ?_)
    obtain ⟨b, o, x, e1, _, hx, hc⟩ := h.byte hj
    injection e1 with e1
    subst e1
    rw [addr_add, hc]
    rw [List.getElem?_eq_getElem hj] at hx
    injection hx with hx
    rw [hx]

/-- What '[]byte(s)' lays reads as the string's bytes. -/
theorem rd_bytesRow (w : World) (s : ByteArray) (cap : Nat) (e : TypeId) (fr : Nat × Nat) : Rd (w.alloc (.cells (bytesRow s cap) e fr)) 1 (some ⟨w.heap.size, 0, none⟩) s.size (s.data.toList.map bv) := by
  refine ⟨by rw [List.length_map, Nat.mul_one]; exact Array.length_toList, fun _ => ⟨_, _, rfl, by simp, fun j u hu => ?_⟩⟩
  have hh : (w.alloc (.cells (bytesRow s cap) e fr)).heap[w.heap.size]? = some (.cells (bytesRow s cap) e fr) := heap_alloc_new w _
  rw [Nat.zero_add, cell_of_row _ _ j _ e fr hh]
  unfold bytesRow
  have hj : j < s.data.size := by
    have := (List.getElem?_eq_some_iff.1 hu).1
    simpa using this
  rw [Array.getElem?_append_left (by simpa using hj)]
  simpa [bv] using hu
end Go.Proofs.YtnbhdijmbpdgoaaDoor
