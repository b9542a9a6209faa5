/-
  Proved: what an argument that is a record reads as. Conditions: those that each statement names.
  By an AI agent; no person has read it.
-/
import Derived.Test.YtbbngihmjdndoaaLaw
import Derived.Test.YtbbngihmjdndoaaFld
import Derived.Lib.SmallJoins
import Derived.Deep.Slices
import Derived.Deep.Fields
import Derived.ChangeSame
namespace Go.Proofs.Ytbbngihmjdndoaa
open Go.ChangeShapes Go.WideShapes Go.ChangeAt Go.RowKit Go.Joins Go.Deep
open Go.ChangeMaps (open_string)
section
variable {H : Type} {enc : TypeId × Value → H} {P : Program} {w : World} {base : Nat} {spare : Nat → Bool} {held : Bool}
theorem open_slice_fields {t e : TypeId} {fs : Array Field} {fuel : Nat} {cs : List Value} {x : DataW H × List MemPlace} (ht : P.underlying t = some (.slice e)) (he : P.underlying e = some (.struct fs))
    (hone : oneCellFields P fs = true) (hC : P.cellsOf e = fs.size) (h : DataW.trod enc P w base spare held fuel t cs = some x) :
    (cs = [.slice none 0 0] ∧ x = (.nil, [])) ∨
    ∃ (a : Addr) (len cap m : Nat), cs = [.slice (some a) len cap] ∧ len ≤ cap ∧ cap ≤ maxLen ∧ m = (if spare a.block then cap else len) ∧
      ∀ i, i < m → ∃ (n : Nat), ∀ (j : Nat) (f : Field), fs[j]? = some f → ∃ (v : Value) (y : DataW H × List MemPlace), w.cell? (a.add (i * fs.size + j)) = some v ∧ DataW.trod enc P w base spare held n f.type [v] = some y := by
  rcases open_slice ht h with h0 | ⟨a, len, cap, m, n, D, Pl, hcs, hb, hl, hm, hmm, hx, hi⟩
  · exact .inl h0
  · refine .inr ⟨a, len, cap, m, hcs, hl, hm, hmm, fun i him => ?_⟩
    obtain ⟨cs', hc, ht'⟩ := hi i him
    rw [hC] at hc
    obtain ⟨ys, n', hn', hy, hlen, hyl, hf⟩ := DataW.trod_struct he ht'
    obtain ⟨_, hcl, hat⟩ := World.cells?_some hc
    refine ⟨n', fun j f hj => ?_⟩
    obtain ⟨ho, hk⟩ := hone_of hone j f hj
    have hjl : j < fs.size := (Array.getElem?_eq_some_iff.1 hj).1
    have hcell := hat j hjl
    have hv : cs'[j]? = some (cs'[j]'(by omega)) := List.getElem?_eq_getElem (by omega)
    have h1 := hf j f hj
    rw [ho, hk] at h1
    have hone' : (cs'.drop j).take 1 = [cs'[j]'(by omega)] := by
      rw [List.drop_eq_getElem_cons (by omega)]
      rfl
    rw [hone'] at h1
    have hys : ys[j]? = some (ys[j]'(by omega)) := List.getElem?_eq_getElem (by omega)
    refine ⟨_, _, ?_, h1.trans hys⟩
    rw [← Go.Deep.add_add, hcell, hv]
end
section
variable {H : Type} {enc : TypeId × Value → H}
theorem trod_fi {W : World} {n : Nat} {v : Value} {y : DataW H × List MemPlace} (h : DataW.trod enc Try.prog W 0 (fun _ => true) true n 3 [v] = some y) : ∃ k : Int, v = .int .i64 k ∧ -9223372036854775808 ≤ k ∧ k ≤ 9223372036854775807 := by
  obtain ⟨k, e, _, hw⟩ := DataW.trod_int Try.underlying3 h
  exact ⟨k, by simpa using e, wf_range hw⟩
theorem trod_fs {W : World} {n : Nat} {v : Value} {y : DataW H × List MemPlace} (h : DataW.trod enc Try.prog W 0 (fun _ => true) true n 9 [v] = some y) : ∃ s : ByteArray, v = .string s ∧ s.size ≤ maxLen := by
  obtain ⟨s, e, _, hw⟩ := DataW.trod_string Try.underlying9 h
  exact ⟨s, by simpa using e, hw⟩
/-- A list out of a function that gives each element. -/
theorem list_of {α : Type} {P : Nat → α → Prop} : ∀ (n : Nat), (∀ i, i < n → ∃ x, P i x) → ∃ l : List α, l.length = n ∧ ∀ i x, l[i]? = some x → P i x
  | 0, _ => ⟨[], rfl, fun i x h => by simp at h⟩
  | n + 1, h => by
    obtain ⟨l, hl, hp⟩ := list_of n (fun i hi => h i (by omega))
    obtain ⟨x, hx⟩ := h n (by omega)
    refine ⟨l ++ [x], by simp [hl], fun i y hy => ?_⟩
    rw [List.getElem?_append] at hy
    split at hy
    · exact hp i y hy
    · rename_i hi
      have : i - l.length = 0 := by
        rcases Nat.eq_zero_or_pos (i - l.length) with h0 | h0
        · exact h0
        · rw [List.getElem?_eq_none (by simp; omega)] at hy
          cases hy
      rw [this] at hy
      simp at hy
      subst hy
      obtain rfl : i = n := by omega
      exact hx

set_option maxRecDepth 100000 in
theorem open_record {W : World} {r : Reach} {b0 : Nat} {v : Value} {d : DataW H} {p : List MemPlace} (hv : Value.okWide Try.prog W r b0 24 v) (h : DataW.Trod enc Try.prog W 0 (fun _ => true) true 24 v d p) :
    ∃ (A : Option Addr) (n c : Nat) (l : List Fld), v = .agg #[.slice A n c] ∧ Rd W 2 A n (fl l) ∧ n ≤ maxLen ∧ okF l := by
  obtain ⟨cs, rfl, hsz⟩ := okWide_struct Try.underlying24 hv
  obtain ⟨l⟩ := cs
  have h1 : Try.prog.cellsOf 24 = 1 := by kernel_rfl
  obtain ⟨fu, hf⟩ := h
  match l, hsz.trans h1 with
  | [c0], _ =>
    obtain ⟨xs, m, _, _, _, hlen, hg⟩ := DataW.trod_struct Try.underlying24 hf
    have g0 := hg 0 _ rfl
    obtain ⟨x0, hx0⟩ : ∃ x0, xs[0]? = some x0 := ⟨xs[0]'(by rw [hlen]; decide), List.getElem?_eq_getElem _⟩
    rw [hx0] at g0
    have g1 : DataW.trod enc Try.prog W 0 (fun _ => true) true m 22 [c0] = some x0 := g0
    rcases open_slice_fields Try.underlying22 Try.underlying140 (by kernel_rfl) (by kernel_rfl) g1 with ⟨hcs, _⟩ | ⟨a, len, cap, mm, hcs, hl, hm, hmm, hi⟩
    · simp only [List.cons.injEq, and_true] at hcs
      subst hcs
      exact ⟨none, 0, 0, [], rfl, Rd.nil_, Nat.zero_le _, fun f hf => by cases hf⟩
    · simp only [List.cons.injEq, and_true] at hcs
      subst hcs
      simp only [if_true] at hmm
      have hall : ∀ i, i < len → ∃ f : Fld, (W.cell? (a.add (i * 2)) = some (.string f.1) ∧ W.cell? (a.add (i * 2 + 1)) = some (.int .i64 f.2)) ∧ f.1.size ≤ maxLen ∧ -9223372036854775808 ≤ f.2 ∧ f.2 ≤ 9223372036854775807 := by
        intro i hil
        obtain ⟨n', hfi⟩ := hi i (by omega)
        obtain ⟨v0, y0, hc0, ht0⟩ := hfi 0 _ rfl
        obtain ⟨v1, y1, hc1, ht1⟩ := hfi 1 _ rfl
        obtain ⟨s, rfl, hs⟩ := trod_fs ht0
        obtain ⟨x, rfl, hx⟩ := trod_fi ht1
        exact ⟨(s, x), ⟨hc0, hc1⟩, hs, hx⟩
      obtain ⟨l, hll, hlp⟩ := list_of len hall
      refine ⟨some a, len, cap, l, rfl, ⟨by rw [fl_len, hll], fun hn => ?_⟩, Nat.le_trans hl hm, fun f hf => ?_⟩
      · obtain ⟨b, o, sp⟩ := a
        obtain ⟨f0, ⟨h0, _⟩, _⟩ := hall 0 (by omega)
        have hsp : sp = none := by simpa [Addr.add] using World.cell?_spot h0
        subst hsp
        refine ⟨b, o, rfl, by simpa [Addr.add] using World.block_lt_of_cell? W _ h0, fun j u hu => ?_⟩
        have hjl : j < len * 2 := by
          have := (List.getElem?_eq_some_iff.1 hu).1
          rw [fl_len, hll] at this
          exact this
        have hk : l[j / 2]? = some (l[j / 2]'(by omega)) := List.getElem?_eq_getElem (by omega)
        obtain ⟨⟨e0, e1⟩, _⟩ := hlp _ _ hk
        obtain ⟨q0, q1⟩ := fl_at l _ _ hk
        rw [addr_add] at e0 e1
        rcases (by omega : j = j / 2 * 2 ∨ j = j / 2 * 2 + 1) with hj | hj
        · rw [hj] at hu ⊢
          rw [q0] at hu
          injection hu with hu
          rw [← hu]
          exact e0
        · rw [hj] at hu ⊢
          rw [q1] at hu
          injection hu with hu
          rw [← hu]
          exact e1
      · obtain ⟨i, hi2⟩ := List.getElem?_of_mem hf
        exact (hlp i f hi2).2
end
end Go.Proofs.Ytbbngihmjdndoaa
