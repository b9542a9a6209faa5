/-
  Proved: what an argument that is a store reads as. Conditions: those that each statement names.
  By an AI agent; no person has read it.
-/
import Derived.Test.YtbbngihmjdndoaaOpenR
import Derived.Test.YtbbngihmjdndoaaOpenK
import Derived.Test.YtbbngihmjdndoaaIt
namespace Go.Proofs.Ytbbngihmjdndoaa
open Go.ChangeShapes Go.WideShapes Go.ChangeAt Go.RowKit Go.Joins Go.Deep
open Go.ChangeMaps (open_string)
section
variable {H : Type} {enc : TypeId × Value → H} {P : Program} {w : World} {base : Nat} {spare : Nat → Bool} {held : Bool}
theorem open_slice_structs {t e : TypeId} {fuel C : Nat} {cs : List Value} {x : DataW H × List MemPlace} (ht : P.underlying t = some (.slice e)) (hC : P.cellsOf e = C) (h : DataW.trod enc P w base spare held fuel t cs = some x) :
    (cs = [.slice none 0 0] ∧ x = (.nil, [])) ∨
    ∃ (a : Addr) (len cap m : Nat), cs = [.slice (some a) len cap] ∧ len ≤ cap ∧ cap ≤ maxLen ∧ m = (if spare a.block then cap else len) ∧
      ∀ i, i < m → ∃ (n : Nat) (cs' : List Value) (y : DataW H × List MemPlace), cs'.length = C ∧ (∀ j, j < C → w.cell? (a.add (i * C + j)) = cs'[j]?) ∧ DataW.trod enc P w base spare held n e cs' = some y := by
  subst hC
  rcases open_slice ht h with h0 | ⟨a, len, cap, m, n, D, Pl, hcs, hb, hl, hm, hmm, hx, hi⟩
  · exact .inl h0
  · refine .inr ⟨a, len, cap, m, hcs, hl, hm, hmm, fun i him => ?_⟩
    obtain ⟨cs', hc, ht'⟩ := hi i him
    obtain ⟨_, hcl, hat⟩ := World.cells?_some hc
    refine ⟨_, cs', _, hcl, fun j hj => ?_, ht'⟩
    rw [← Go.Deep.add_add]
    exact hat j hj
end
section
variable {H : Type} {enc : TypeId × Value → H}
set_option maxRecDepth 100000 in
theorem trod_record {W : World} {fu : Nat} {c0 : Value} {y : DataW H × List MemPlace} (h : DataW.trod enc Try.prog W 0 (fun _ => true) true fu 24 [c0] = some y) :
    ∃ (A : Option Addr) (n c : Nat) (l : List Fld), c0 = .slice A n c ∧ Rd W 2 A n (fl l) ∧ n ≤ maxLen ∧ okF l := by
  obtain ⟨xs, m, _, _, _, hlen, hg⟩ := DataW.trod_struct Try.underlying24 h
  have g0 := hg 0 _ rfl
  obtain ⟨x0, hx0⟩ : ∃ x0, xs[0]? = some x0 := ⟨xs[0]'(by rw [hlen]; decide), List.getElem?_eq_getElem _⟩
  rw [hx0] at g0
  have g1 : DataW.trod enc Try.prog W 0 (fun _ => true) true m 22 [c0] = some x0 := g0
  rcases open_slice_fields Try.underlying22 Try.underlying140 (by kernel_rfl) (by kernel_rfl) g1 with ⟨hcs, _⟩ | ⟨a, len, cap, mm, hcs, hl, hm, hmm, hi⟩
  · simp only [List.cons.injEq, and_true] at hcs
    subst hcs
    exact ⟨none, 0, 0, [], rfl, Rd.nil_, Nat.zero_le _, fun f hf => by cases hf⟩
  · simp only [List.cons.injEq, and_true] at hcs
    subst hcs
    simp only [if_true] at hmm
    have hall : ∀ i, i < len → ∃ f : Fld, (W.cell? (a.add (i * 2)) = some (.string f.1) ∧ W.cell? (a.add (i * 2 + 1)) = some (.int .i64 f.2)) ∧ f.1.size ≤ maxLen ∧ -9223372036854775808 ≤ f.2 ∧ f.2 ≤ 9223372036854775807 := by
      intro i hil
      obtain ⟨n', hfi⟩ := hi i (by omega)
      obtain ⟨v0, y0, hc0, ht0⟩ := hfi 0 _ rfl
      obtain ⟨v1, y1, hc1, ht1⟩ := hfi 1 _ rfl
      obtain ⟨s, rfl, hs⟩ := trod_fs ht0
      obtain ⟨x, rfl, hx⟩ := trod_fi ht1
      exact ⟨(s, x), ⟨hc0, hc1⟩, hs, hx⟩
    obtain ⟨l, hll, hlp⟩ := list_of len hall
    refine ⟨some a, len, cap, l, rfl, ⟨by rw [fl_len, hll], fun hn => ?_⟩, Nat.le_trans hl hm, fun f hf => ?_⟩
    · obtain ⟨b, o, sp⟩ := a
      obtain ⟨f0, ⟨h0, _⟩, _⟩ := hall 0 (by omega)
      have hsp : sp = none := by simpa [Addr.add] using World.cell?_spot h0
      subst hsp
      refine ⟨b, o, rfl, by simpa [Addr.add] using World.block_lt_of_cell? W _ h0, fun j u hu => ?_⟩
      have hjl : j < len * 2 := by
        have := (List.getElem?_eq_some_iff.1 hu).1
        rw [fl_len, hll] at this
        exact this
      have hk : l[j / 2]? = some (l[j / 2]'(by omega)) := List.getElem?_eq_getElem (by omega)
      obtain ⟨⟨e0, e1⟩, _⟩ := hlp _ _ hk
      obtain ⟨q0, q1⟩ := fl_at l _ _ hk
      rw [addr_add] at e0 e1
      rcases (by omega : j = j / 2 * 2 ∨ j = j / 2 * 2 + 1) with hj | hj
      · rw [hj] at hu ⊢
        rw [q0] at hu
        injection hu with hu
        rw [← hu]
        exact e0
      · rw [hj] at hu ⊢
        rw [q1] at hu
        injection hu with hu
        rw [← hu]
        exact e1
    · obtain ⟨i, hi2⟩ := List.getElem?_of_mem hf
      exact (hlp i f hi2).2

set_option maxRecDepth 100000 in
theorem trod_item {W : World} {fu : Nat} {c0 c1 c2 c3 : Value} {y : DataW H × List MemPlace} (h : DataW.trod enc Try.prog W 0 (fun _ => true) true fu 152 [c0, c1, c2, c3] = some y) :
    ∃ x : Itm, (c0 = .int .i64 x.k ∧ c1 = .int .i64 x.n ∧ c2 = .string x.s ∧ c3 = .slice x.A x.m x.c) ∧ (i64R' x.k ∧ i64R' x.n ∧ x.s.size ≤ maxLen ∧ x.m ≤ maxLen ∧ okF x.fs) ∧ Rd W 2 x.A x.m (fl x.fs) := by
  obtain ⟨xs, m, _, _, _, hlen, hg⟩ := DataW.trod_struct Try.underlying152 h
  obtain ⟨x0, x1, rfl⟩ : ∃ x0 x1, xs = [x0, x1] := by
    match xs, hlen with
    | [x0, x1], _ => exact ⟨x0, x1, rfl⟩
  have g0 := hg 0 _ rfl
  have g1 := hg 1 _ rfl
  obtain ⟨k, n, s, rfl, rfl, rfl, hk, hn, hs⟩ := trod_key (c0 := c0) (c1 := c1) (c2 := c2) g0
  obtain ⟨A, m, c, l, rfl, hr, hm, hok⟩ := trod_record (c0 := c3) g1
  exact ⟨⟨k, n, s, A, m, c, l⟩, ⟨rfl, rfl, rfl, rfl⟩, ⟨hk, hn, hs, hm, hok⟩, hr⟩

set_option maxRecDepth 100000 in
theorem trod_items {W : World} {fu : Nat} {c0 : Value} {y : DataW H × List MemPlace} (h : DataW.trod enc Try.prog W 0 (fun _ => true) true fu 42 [c0] = some y) :
    ∃ (A : Option Addr) (n c : Nat) (l : List Itm), c0 = .slice A n c ∧ RdI W A n l ∧ n ≤ maxLen ∧ okI (l.map Itm.l) := by
  rcases open_slice_structs (C := 4) Try.underlying42 (by kernel_rfl) h with ⟨hcs, _⟩ | ⟨a, len, cap, mm, hcs, hl, hm, hmm, hi⟩
  · simp only [List.cons.injEq, and_true] at hcs
    subst hcs
    exact ⟨none, 0, 0, [], rfl, RdI.nil_, Nat.zero_le _, fun f hf => by cases hf⟩
  · simp only [List.cons.injEq, and_true] at hcs
    subst hcs
    simp only [if_true] at hmm
    have hall : ∀ i, i < len → ∃ x : Itm, (W.cell? (a.add (i * 4)) = some (.int .i64 x.k) ∧ W.cell? (a.add (i * 4 + 1)) = some (.int .i64 x.n) ∧ W.cell? (a.add (i * 4 + 2)) = some (.string x.s) ∧ W.cell? (a.add (i * 4 + 3)) = some (.slice x.A x.m x.c)) ∧ (i64R' x.k ∧ i64R' x.n ∧ x.s.size ≤ maxLen ∧ x.m ≤ maxLen ∧ okF x.fs) ∧ Rd W 2 x.A x.m (fl x.fs) := by
      intro i hil
      obtain ⟨n', cs', y', hcl, hat, hti⟩ := hi i (by omega)
      obtain ⟨c0, c1, c2, c3, rfl⟩ : ∃ c0 c1 c2 c3, cs' = [c0, c1, c2, c3] := by
        match cs', hcl with
        | [c0, c1, c2, c3], _ => exact ⟨c0, c1, c2, c3, rfl⟩
      obtain ⟨x, ⟨rfl, rfl, rfl, rfl⟩, hx, hr⟩ := trod_item hti
      exact ⟨x, ⟨hat 0 (by omega), hat 1 (by omega), hat 2 (by omega), hat 3 (by omega)⟩, hx, hr⟩
    obtain ⟨l, hll, hlp⟩ := list_of len hall
    refine ⟨some a, len, cap, l, rfl, ⟨⟨by rw [itl_len, hll], fun hn => ?_⟩, fun x hx => ?_⟩, Nat.le_trans hl hm, fun f hf => ?_⟩
    · obtain ⟨b, o, sp⟩ := a
      obtain ⟨f0, ⟨h0, _⟩, _⟩ := hall 0 (by omega)
      have hsp : sp = none := by simpa [Addr.add] using World.cell?_spot h0
      subst hsp
      refine ⟨b, o, rfl, by simpa [Addr.add] using World.block_lt_of_cell? W _ h0, fun j u hu => ?_⟩
      have hjl : j < len * 4 := by
        have := (List.getElem?_eq_some_iff.1 hu).1
        rw [itl_len, hll] at this
        exact this
      have hk : l[j / 4]? = some (l[j / 4]'(by omega)) := List.getElem?_eq_getElem (by omega)
      obtain ⟨⟨e0, e1, e2, e3⟩, _⟩ := hlp _ _ hk
      obtain ⟨q0, q1, q2, q3⟩ := itl_at l _ _ hk
      rw [addr_add] at e0 e1 e2 e3
      have fin : ∀ (j' : Nat) (v : Value), j = j' → (itl l)[j']? = some v → W.cell? ⟨b, o + j', none⟩ = some v → W.cell? ⟨b, o + j, none⟩ = some u := by
        rintro j' v rfl h1 h2
        rw [h1] at hu
        injection hu with hu
        rw [← hu]
        exact h2
      rcases (by omega : j = j / 4 * 4 ∨ j = j / 4 * 4 + 1 ∨ j = j / 4 * 4 + 2 ∨ j = j / 4 * 4 + 3) with hj | hj | hj | hj
      · exact fin _ _ hj q0 e0
      · exact fin _ _ hj q1 e1
      · exact fin _ _ hj q2 e2
      · exact fin _ _ hj q3 e3
    · obtain ⟨i, hi2⟩ := List.getElem?_of_mem hx
      exact (hlp i x hi2).2.2
    · obtain ⟨x, hx, rfl⟩ := List.mem_map.1 hf
      obtain ⟨i, hi2⟩ := List.getElem?_of_mem hx
      obtain ⟨-, ⟨h1, h2, h3, h4, h5⟩, h6⟩ := hlp i x hi2
      exact ⟨h1, h2, h3, by show x.fs.length ≤ maxLen; have := h6.lenF; omega, h5⟩

set_option maxRecDepth 100000 in
theorem open_store {W : World} {r : Reach} {b0 : Nat} {v : Value} {d : DataW H} {p : List MemPlace} (hv : Value.okWide Try.prog W r b0 44 v) (h : DataW.Trod enc Try.prog W 0 (fun _ => true) true 44 v d p) :
    ∃ (s : ByteArray) (A : Option Addr) (n c : Nat) (au : Int) (l : List Itm), v = .agg #[.string s, .slice A n c, .int .i64 au] ∧ RdI W A n l ∧ n ≤ maxLen ∧ okI (l.map Itm.l) ∧ s.size ≤ maxLen ∧ i64R' au := by
  obtain ⟨v0, v1, v2, y0, y1, y2, m, rfl, rfl, rfl, g0, g1, g2⟩ := open_agg3 Try.underlying44 (by kernel_rfl) (by kernel_rfl) hv h
  obtain ⟨s, rfl, hs⟩ := trod_fs g0
  obtain ⟨A, n, c, l, rfl, hr, hn, hok⟩ := trod_items g1
  obtain ⟨au, rfl, ha⟩ := trod_fi g2
  exact ⟨s, A, n, c, au, l, rfl, hr, hn, hok, hs, ha⟩
end
end Go.Proofs.Ytbbngihmjdndoaa
