/-
  Proved: what an argument that is a key, or a range of keys, reads as. Conditions: those that each statement names.
  By an AI agent; no person has read it.
-/
import Derived.Test.YtbbngihmjdndoaaLaw
import Derived.Test.YtbbngihmjdndoaaIn
import Derived.Lib.SmallJoins
namespace Go.Proofs.Ytbbngihmjdndoaa
open Go.ChangeShapes Go.WideShapes Go.ChangeAt Go.RowKit Go.Joins
open Go.ChangeMaps (open_string)

section
variable {H : Type} {enc : TypeId × Value → H}
theorem trod_i {W : World} {n : Nat} {v : Value} {y : DataW H × List MemPlace} (h : DataW.trod enc Try.prog W 0 (fun _ => true) true n 3 [v] = some y) : ∃ k : Int, v = .int .i64 k ∧ -9223372036854775808 ≤ k ∧ k ≤ 9223372036854775807 := by
  obtain ⟨k, e, _, hw⟩ := DataW.trod_int Try.underlying3 h
  exact ⟨k, by simpa using e, wf_range hw⟩
theorem trod_s {W : World} {n : Nat} {v : Value} {y : DataW H × List MemPlace} (h : DataW.trod enc Try.prog W 0 (fun _ => true) true n 9 [v] = some y) : ∃ s : ByteArray, v = .string s ∧ s.size ≤ maxLen := by
  obtain ⟨s, e, _, hw⟩ := DataW.trod_string Try.underlying9 h
  exact ⟨s, by simpa using e, hw⟩
theorem trod_b {W : World} {n : Nat} {v : Value} {y : DataW H × List MemPlace} (h : DataW.trod enc Try.prog W 0 (fun _ => true) true n 4 [v] = some y) : ∃ b : Bool, v = .bool b := by
  obtain ⟨s, e, _⟩ := DataW.trod_bool Try.underlying4 h
  exact ⟨s, by simpa using e⟩

set_option maxRecDepth 100000 in
theorem open_key {W : World} {r : Reach} {b0 : Nat} {v : Value} {d : DataW H} {p : List MemPlace} (hv : Value.okWide Try.prog W r b0 46 v) (h : DataW.Trod enc Try.prog W 0 (fun _ => true) true 46 v d p) :
    ∃ (k n : Int) (s : ByteArray), v = .agg #[.int .i64 k, .int .i64 n, .string s] ∧ (-9223372036854775808 ≤ k ∧ k ≤ 9223372036854775807) ∧ (-9223372036854775808 ≤ n ∧ n ≤ 9223372036854775807) ∧ s.size ≤ maxLen := by
  obtain ⟨v0, v1, v2, y0, y1, y2, m, rfl, rfl, rfl, g0, g1, g2⟩ := open_agg3 Try.underlying46 (by kernel_rfl) (by kernel_rfl) hv h
  obtain ⟨k, rfl, hk⟩ := trod_i g0
  obtain ⟨n, rfl, hn⟩ := trod_i g1
  obtain ⟨s, rfl, hs⟩ := trod_s g2
  exact ⟨k, n, s, rfl, hk, hn, hs⟩

set_option maxRecDepth 100000 in
theorem trod_key {W : World} {fu : Nat} {c0 c1 c2 : Value} {y : DataW H × List MemPlace} (h : DataW.trod enc Try.prog W 0 (fun _ => true) true fu 46 [c0, c1, c2] = some y) :
    ∃ (k n : Int) (s : ByteArray), c0 = .int .i64 k ∧ c1 = .int .i64 n ∧ c2 = .string s ∧ (-9223372036854775808 ≤ k ∧ k ≤ 9223372036854775807) ∧ (-9223372036854775808 ≤ n ∧ n ≤ 9223372036854775807) ∧ s.size ≤ maxLen := by
  obtain ⟨xs, m, _, _, _, hlen, hg⟩ := DataW.trod_struct Try.underlying46 h
  obtain ⟨x0, x1, x2, rfl⟩ : ∃ x0 x1 x2, xs = [x0, x1, x2] := by
    match xs, hlen with
    | [x0, x1, x2], _ => exact ⟨x0, x1, x2, rfl⟩
  have g0 := hg 0 _ rfl
  have g1 := hg 1 _ rfl
  have g2 := hg 2 _ rfl
  obtain ⟨k, rfl, hk⟩ := trod_i (v := c0) g0
  obtain ⟨n, rfl, hn⟩ := trod_i (v := c1) g1
  obtain ⟨s, rfl, hs⟩ := trod_s (v := c2) g2
  exact ⟨k, n, s, rfl, rfl, rfl, hk, hn, hs⟩
set_option maxRecDepth 100000 in
theorem open_range {W : World} {r : Reach} {b0 : Nat} {v : Value} {d : DataW H} {p : List MemPlace} (hv : Value.okWide Try.prog W r b0 72 v) (h : DataW.Trod enc Try.prog W 0 (fun _ => true) true 72 v d p) :
    ∃ (a b : Bool) (k n : Int) (s : ByteArray) (k2 n2 : Int) (s2 : ByteArray), v = .agg #[.bool a, .bool b, .int .i64 k, .int .i64 n, .string s, .int .i64 k2, .int .i64 n2, .string s2] ∧ ((-9223372036854775808 ≤ k ∧ k ≤ 9223372036854775807) ∧ (-9223372036854775808 ≤ n ∧ n ≤ 9223372036854775807) ∧ s.size ≤ maxLen) ∧ (-9223372036854775808 ≤ k2 ∧ k2 ≤ 9223372036854775807) ∧ (-9223372036854775808 ≤ n2 ∧ n2 ≤ 9223372036854775807) ∧ s2.size ≤ maxLen := by
  obtain ⟨cs, rfl, hsz⟩ := okWide_struct Try.underlying72 hv
  obtain ⟨l⟩ := cs
  have h8 : Try.prog.cellsOf 72 = 8 := by kernel_rfl
  obtain ⟨fu, hf⟩ := h
  match l, hsz.trans h8 with
  | [c0, c1, c2, c3, c4, c5, c6, c7], _ =>
    obtain ⟨xs, m, _, _, _, hlen, hg⟩ := DataW.trod_struct Try.underlying72 hf
    obtain ⟨x0, x1, x2, x3, rfl⟩ : ∃ x0 x1 x2 x3, xs = [x0, x1, x2, x3] := by
      match xs, hlen with
      | [x0, x1, x2, x3], _ => exact ⟨x0, x1, x2, x3, rfl⟩
    have g0 := hg 0 _ rfl
    have g1 := hg 1 _ rfl
    have g2 := hg 2 _ rfl
    have g3 := hg 3 _ rfl
    obtain ⟨a, rfl⟩ := trod_b (v := c0) g0
    obtain ⟨b, rfl⟩ := trod_b (v := c1) g1
    obtain ⟨k, n, s, rfl, rfl, rfl, hk⟩ := trod_key (c0 := c2) (c1 := c3) (c2 := c4) g2
    obtain ⟨k2, n2, s2, rfl, rfl, rfl, hk2⟩ := trod_key (c0 := c5) (c1 := c6) (c2 := c7) g3
    exact ⟨a, b, k, n, s, k2, n2, s2, rfl, hk, hk2⟩
end
end Go.Proofs.Ytbbngihmjdndoaa
