/-
  Proved: the contracts of GetField, of the program and of the reference, and of fieldAt. Conditions: the slices read as lists.
  By an AI agent; no person has read it.
-/
import Derived.Test.YtbbngihmjdndoaaFldG
namespace Go.Proofs.Ytbbngihmjdndoaa
open Go.RowKit

/-- Is it the field of that name? -/
def pN (nm : ByteArray) (f : Fld) : Bool := f.1.toList == nm.toList
def getF (l : List Fld) (nm : ByteArray) : Int × Bool := match l.find? (pN nm) with | some f => (f.2, true) | none => (0, false)
theorem find_next {l : List Fld} {nm : ByteArray} {k : Nat} {f : Fld} (h : (l.take k).find? (pN nm) = none) (hx : l[k]? = some f) (hp : pN nm f = false) : (l.take (k + 1)).find? (pN nm) = none := by
  rw [take_snoc hx, List.find?_append, h]
  simp [hp]
theorem find_hit {l : List Fld} {nm : ByteArray} {k : Nat} {f : Fld} (h : (l.take k).find? (pN nm) = none) (hx : l[k]? = some f) (hp : pN nm f = true) : l.find? (pN nm) = some f := by
  have hk : k < l.length := (List.getElem?_eq_some_iff.1 hx).1
  rw [← List.take_append_drop k l, List.find?_append, h, List.drop_eq_getElem_cons hk]
  have : l[k] = f := (List.getElem?_eq_some_iff.1 hx).2
  simp [this, hp]
theorem getF_hit {l : List Fld} {nm s : ByteArray} {x : Int} (h : l.find? (pN nm) = some (s, x)) : getF l nm = (x, true) := by
  unfold getF
  rw [h]
theorem getF_none {l : List Fld} {nm : ByteArray} (h : l.find? (pN nm) = none) : getF l nm = (0, false) := by
  unfold getF
  rw [h]

set_option maxRecDepth 100000 in
theorem specGetField_any (A : Option Addr) (n c : Nat) (l : List Fld) (nm : ByteArray) (x0 : Int) (r : Bool) (w : World) (hn : n ≤ maxLen) (ha : Rd w 2 A n (fl l)) (hr : (x0, r) = getF l nm) :
    Calls Try.prog 28 #[.agg #[.slice A n c], .string nm] w fun e w' => e = .returned (.tuple #[.int .i64 x0, .bool r]) ∧ Below w.heap.size w w' := by
  unfold maxLen at hn
  have HR := Lib.hid hr
  have LX := Lib.hid ha.lenF
  clear hr
  go_enter Try.func28, Try.ntmps28
  go_wp2
  go_loopw [6] (fun i wr => ∃ k : Nat, k ≤ n ∧ i = .int .i64 k ∧ (l.take k).find? (pN nm) = none ∧ Below w.heap.size w wr ∧ wr.cell? ⟨w.heap.size, 0, none⟩ = some (.slice A n c)) (fun i _ => n - (intOf i).toNat)
  case atStart => exact ⟨0, Nat.zero_le _, rfl, by simp, al (Below.refl _ _), by simp⟩
  case round =>
    obtain ⟨k, hk, rfl, hf, hbel, hp0⟩ := hrel
    have HF := Lib.hid hf
    clear hf
    by_cases hlt : k < n
    · obtain ⟨b, o, s, x, rfl, _hb1, hx, hc0, hc1⟩ := (ha.below hbel).fld hlt
      have i0 : (0 : Int) ≤ (k : Int) := by omega
      have i1 : (k : Int) < (n : Int) := by omega
      cases hs : (s.toList == nm.toList)
      · have HN := Lib.hid (find_next HF.out hx (show pN nm (s, x) = false from hs))
        clear hx
        go_wp2
        go_roundw
        case rel => exact ⟨k + 1, by omega, by go_num, HN.out, hbel, hp0⟩
        case measure => simp [intOf]; omega
      · have HN := Lib.hid (getF_hit (find_hit HF.out hx (show pN nm (s, x) = true from hs)))
        clear hx
        go_wp2
        go_ret2
        obtain ⟨h3, h4⟩ := Prod.mk.inj (HR.out.trans HN.out)
        exact ⟨by rw [h3, h4]; rfl, hbel⟩
    · obtain rfl : k = n := by omega
      have HN : Hid (getF l nm = (0, false)) := by
        have := HF.out
        rw [List.take_of_length_le (Nat.le_of_eq LX.out)] at this
        exact getF_none this
      go_wp2
      go_ret2
      obtain ⟨h3, h4⟩ := Prod.mk.inj (HR.out.trans HN.out)
      exact ⟨by rw [h3, h4]; rfl, hbel⟩

/-- Where the field of that name lies; -1: nowhere. -/
def idxF (l : List Fld) (nm : ByteArray) : Int := match l.findIdx? (pN nm) with | some k => (k : Int) | none => -1
theorem idx_hit {l : List Fld} {nm : ByteArray} {k : Nat} {f : Fld} (h : (l.take k).find? (pN nm) = none) (hx : l[k]? = some f) (hp : pN nm f = true) : idxF l nm = (k : Int) := by
  have hk : k < l.length := (List.getElem?_eq_some_iff.1 hx).1
  have he : l[k] = f := (List.getElem?_eq_some_iff.1 hx).2
  have : l.findIdx? (pN nm) = some k := by
    rw [List.findIdx?_eq_some_iff_getElem]
    refine ⟨hk, by rw [he]; exact hp, fun j hj => ?_⟩
    rw [List.find?_eq_none] at h
    have hm : l[j] ∈ l.take k := List.mem_take_iff_getElem.2 ⟨j, by omega, rfl⟩
    have := h _ hm
    simpa using this
  unfold idxF
  rw [this]
theorem idx_none {l : List Fld} {nm : ByteArray} (h : l.find? (pN nm) = none) : idxF l nm = -1 := by
  have : l.findIdx? (pN nm) = none := by
    rw [List.findIdx?_eq_none_iff]
    rw [List.find?_eq_none] at h
    intro x hx
    have := h x hx
    simpa using this
  unfold idxF
  rw [this]

set_option maxRecDepth 100000 in
theorem closure_any (s : ByteArray) (x : Int) (nm : ByteArray) (b : Nat) (r : Bool) (w : World) (hp : w.cell? ⟨b, 0, none⟩ = some (.string nm)) (hr : r = pN nm (s, x)) :
    Calls Try.prog 137 #[.agg #[.string s, .int .i64 x], .pointer (some ⟨b, 0, none⟩)] w fun e w' => e = .returned (.bool r) ∧ Below w.heap.size w w' := by
  unfold pN at hr
  have HR := Lib.hid hr
  clear hr
  have hq : (w.alloc (.cells #[.string s, .int .i64 x] 91)).cell? ⟨b, 0, none⟩ = some (.string nm) := kcell (al (Below.refl _ _)) hp
  go_enter Try.func137, Try.ntmps137
  go_wp2
  go_ret
  exact ⟨ret_bool HR.out, al (Below.refl _ _)⟩

set_option maxRecDepth 100000 in
theorem indexFunc_any (A : Option Addr) (n c : Nat) (l : List Fld) (nm : ByteArray) (b : Nat) (r : Int) (w : World) (hn : n ≤ maxLen) (ha : Rd w 2 A n (fl l)) (hp : w.cell? ⟨b, 0, none⟩ = some (.string nm)) (hr : r = idxF l nm) :
    Calls Try.prog 136 #[.slice A n c, .func (.func 137) #[] #[.pointer (some ⟨b, 0, none⟩)]] w fun e w' => e = .returned (.int .i64 r) ∧ Below w.heap.size w w' := by
  unfold maxLen at hn
  have HR := Lib.hid hr
  have LX := Lib.hid ha.lenF
  clear hr
  go_enter Try.func136, Try.ntmps136
  go_wp2
  go_loopw [4, 8] (fun _ i wr => ∃ k : Nat, k ≤ n ∧ i = .int .i64 k ∧ (l.take k).find? (pN nm) = none ∧ Below w.heap.size w wr) (fun _ i _ => n - (intOf i).toNat)
  case atStart => exact ⟨0, Nat.zero_le _, rfl, by simp, Below.refl _ _⟩
  case round =>
    obtain ⟨k, hk, rfl, hf, hbel⟩ := hrel
    have HF := Lib.hid hf
    clear hf
    by_cases hlt : k < n
    · obtain ⟨b1, o, s, x, rfl, _hb1, hx, hc0, hc1⟩ := (ha.below hbel).fld hlt
      have i0 : (0 : Int) ≤ (k : Int) := by omega
      have i1 : (k : Int) < (n : Int) := by omega
      have hq := kcell hbel hp
      cases hs : pN nm (s, x)
      · have HN := Lib.hid (find_next HF.out hx hs)
        clear hx
        go_wp2_with (go_at_call 137; refine (closure_any s x nm b false _ hq hs.symm).mono ?_; rintro e w1 ⟨rfl, b1⟩)
        go_roundw
        case rel => exact ⟨k + 1, by omega, by go_num, HN.out, hbel.trans (b1.mono hbel.size)⟩
        case measure => simp [intOf]; omega
      · have HN := Lib.hid (idx_hit HF.out hx hs)
        clear hx
        go_wp2_with (go_at_call 137; refine (closure_any s x nm b true _ hq hs.symm).mono ?_; rintro e w1 ⟨rfl, b1⟩)
        go_ret
        exact ⟨by rw [HR.out, HN.out]; rfl, hbel.trans (b1.mono hbel.size)⟩
    · obtain rfl : k = n := by omega
      have HN : Hid (r = -1) := by
        have := HF.out
        rw [List.take_of_length_le (Nat.le_of_eq LX.out)] at this
        exact HR.out.trans (idx_none this)
      go_wp2
      go_ret
      exact ⟨by rw [HN.out]; rfl, hbel⟩

set_option maxRecDepth 100000 in
theorem fieldAt_any (A : Option Addr) (n c : Nat) (l : List Fld) (nm : ByteArray) (r : Int) (w : World) (hn : n ≤ maxLen) (ha : Rd w 2 A n (fl l)) (hr : r = idxF l nm) :
    Calls Try.prog 84 #[.agg #[.slice A n c], .string nm] w fun e w' => e = .returned (.int .i64 r) ∧ Below w.heap.size w w' := by
  have HR := Lib.hid hr
  clear hr
  have hmf : ∀ (fn : Fn) (first cap : Array Value) (w : World), (Instr.makeFunc fn first cap).run Try.prog w = .ok (.func fn first cap) w := fun _ _ _ _ => rfl
  go_enter Try.func84, Try.ntmps84
  go_wp2_with fail
  refine (indexFunc_any A n c l nm (w.heap.size + 1) r _ hn ((ha.alloc _).alloc _) (by simp) HR.out).mono ?_
  rintro e w1 ⟨rfl, b1⟩
  go_wp2
  go_ret
  exact ⟨rfl, Below.trans (al (al (Below.refl _ _))) (b1.mono (by simp; omega))⟩

theorem idxF_cases (l : List Fld) (nm : ByteArray) : (idxF l nm = -1 ∧ getF l nm = (0, false) ∧ l.find? (pN nm) = none) ∨ (∃ (k : Nat) (s : ByteArray) (x : Int), idxF l nm = (k : Int) ∧ l[k]? = some (s, x) ∧ getF l nm = (x, true)) := by
  cases h : l.findIdx? (pN nm) with
  | none =>
    have h2 : l.find? (pN nm) = none := by
      rw [List.findIdx?_eq_none_iff] at h
      rw [List.find?_eq_none]
      intro x hx
      simp [h x hx]
    exact .inl ⟨idx_none h2, getF_none h2, h2⟩
  | some k =>
    rw [List.findIdx?_eq_some_iff_getElem] at h
    obtain ⟨hk, hp, hlt⟩ := h
    have h0 : (l.take k).find? (pN nm) = none := by
      rw [List.find?_eq_none]
      intro x hx
      obtain ⟨j, hj, rfl⟩ := List.mem_take_iff_getElem.1 hx
      exact hlt j (by omega)
    have hx : l[k]? = some l[k] := List.getElem?_eq_getElem hk
    refine .inr ⟨k, l[k].1, l[k].2, idx_hit h0 hx hp, hx, ?_⟩
    exact getF_hit (find_hit h0 hx hp)

set_option maxRecDepth 100000 in
theorem implGetField_any (A : Option Addr) (n c : Nat) (l : List Fld) (nm : ByteArray) (x0 : Int) (r : Bool) (w : World) (hn : n ≤ maxLen) (ha : Rd w 2 A n (fl l)) (hr : (x0, r) = getF l nm) :
    Calls Try.prog 29 #[.agg #[.slice A n c], .string nm] w fun e w' => e = .returned (.tuple #[.int .i64 x0, .bool r]) ∧ Below w.heap.size w w' := by
  have hn' := hn
  unfold maxLen at hn'
  have HR := Lib.hid hr
  have LX := Lib.hid ha.lenF
  clear hr
  rcases idxF_cases l nm with ⟨h1, h2, -⟩ | ⟨k, s, x, h1, hx, h2⟩
  · have H1 := Lib.hid h1
    have H2 := Lib.hid h2
    clear h1 h2
    go_enter Try.func29, Try.ntmps29
    go_wp2_with fail
    refine (fieldAt_any A n c l nm (-1) _ hn (ha.alloc _) H1.out.symm).mono ?_
    rintro e w1 ⟨rfl, b1⟩
    go_wp2
    go_ret2
    obtain ⟨h3, h4⟩ := Prod.mk.inj (HR.out.trans H2.out)
    exact ⟨by rw [h3, h4]; rfl, Below.trans (al (Below.refl _ _)) (b1.mono (by simp))⟩
  · have H1 := Lib.hid h1
    have H2 := Lib.hid h2
    have hk : k < n := by have := (List.getElem?_eq_some_iff.1 hx).1; have := LX.out; omega
    clear h1 h2
    have hz1 : ¬ ((k : Int) < 0) := by omega
    have i0 : (0 : Int) ≤ (k : Int) := by omega
    have i1 : (k : Int) < (n : Int) := by omega
    go_enter Try.func29, Try.ntmps29
    go_wp2_with fail
    refine (fieldAt_any A n c l nm k _ hn (ha.alloc _) H1.out.symm).mono ?_
    rintro e w1 ⟨rfl, b1⟩
    have B1 : Below w.heap.size w w1 := Below.trans (al (Below.refl _ _)) (b1.mono (by simp))
    have d0 : w1.cell? ⟨w.heap.size, 0, none⟩ = some (.slice A n c) := kcell b1 (by simp)
    obtain ⟨b, o, s2, x2, rfl, _hb1, hx2, hc0, hc1⟩ := (ha.below B1).fld hk
    have HX : Hid ((s2, x2) = (s, x)) := Option.some.inj (hx2.symm.trans hx)
    clear hx hx2 b1
    go_wp2
    go_ret2
    obtain ⟨h3, h4⟩ := Prod.mk.inj (HR.out.trans H2.out)
    obtain ⟨h5, h6⟩ := Prod.mk.inj HX.out
    exact ⟨by rw [h3, h4, h6]; rfl, B1⟩
end Go.Proofs.Ytbbngihmjdndoaa
