/-
  Proved: plain laws, no program in sight: the encoding of a record and what is read of it; the program's test on what was read agrees with the reference's. Conditions: those that each statement names.
  By an AI agent; no person has read it.
-/
import Derived.Test.YtbbngihmjdndoaaRecB
import Derived.Test.YtbbngihmjdndoaaStr
import Derived.Test.YtbbngihmjdndoaaPlU
import Derived.Test.YtbbngihmjdndoaaAb
import Derived.Test.YtbbngihmjdndoaaRb
namespace Go.Proofs.Ytbbngihmjdndoaa
open Go.RowKit

/-- One field's encoding appended; a record's encoding. -/
def encF1 (b : List UInt8) (f : Fld) : List UInt8 := appU (appB b f.1.data.toList) f.2
def encG (l : List Fld) : List UInt8 := l.foldl encF1 (appU [] (l.length : Int))
def encR (l : List Fld) : List UInt8 := if recB l then encG l else []
/-- The bytes of one good field. -/
def fldB (f : Fld) : List UInt8 := uvar f.1.size ++ (f.1.data.toList ++ uvar f.2.toNat)
/-- Fields as they are read: bounds that hold of each. -/
def okW (f : Fld) : Prop := f.1.size ≤ 1000000 ∧ 0 ≤ f.2 ∧ f.2 ≤ 1000000000000
theorem str_len' (s : ByteArray) : s.data.toList.length = s.size := Array.length_toList
theorem encF1_eq {f : Fld} (h : okW f) (b : List UInt8) : encF1 b f = b ++ fldB f := by
  obtain ⟨h1, h2, h3⟩ := h
  unfold encF1 appB fldB
  rw [appU_in _ h2 h3, str_len', appU_in _ (by omega) (by omega), Int.toNat_natCast]
  simp only [List.append_assoc]
theorem foldl_enc : ∀ (l : List Fld) (b : List UInt8), (∀ f ∈ l, okW f) → l.foldl encF1 b = b ++ l.flatMap fldB
  | [], b, _ => by simp
  | f :: l, b, h => by
    rw [List.foldl_cons, encF1_eq (h f (by simp)), foldl_enc l _ (fun g hg => h g (by simp [hg]))]
    simp
theorem nameB_len {l : List UInt8} (h : nameB l = true) : 1 ≤ l.length ∧ l.length ≤ 8 := by
  simp only [nameB, inR, Bool.and_eq_true, decide_eq_true_eq] at h
  omega
theorem recB_okW {l : List Fld} (h : recB l = true) : ∀ f ∈ l, okW f := by
  obtain ⟨-, h2, -⟩ := recB_iff.1 h
  intro f hf
  obtain ⟨h3, h4, h5⟩ := h2 f hf
  have := nameB_len h3
  rw [str_len'] at this
  exact ⟨by omega, h4, by omega⟩
theorem recB_len {l : List Fld} (h : recB l = true) : l.length ≤ 6 := (recB_iff.1 h).2.2
theorem encR_eq {l : List Fld} (h : recB l = true) : encR l = uvar l.length ++ l.flatMap fldB := by
  have := recB_len h
  unfold encR encG
  rw [if_pos h, foldl_enc l _ (recB_okW h), appU_in _ (by omega) (by omega), Int.toNat_natCast, List.nil_append]
theorem encR_no {l : List Fld} (h : recB l = false) : encR l = [] := by
  unfold encR
  rw [h]
  rfl

/-- Reading k fields at a place. -/
def readFs (b : List UInt8) : Nat → Int → Option (List Fld × Int)
  | 0, a => some ([], a)
  | k + 1, a =>
    match readB b a 8 with
    | none => none
    | some (nm, p) =>
      match readU b (p : Int) with
      | none => none
      | some (v, q) => (readFs b k (q : Int)).map fun r => ((strOf nm, (v : Int)) :: r.1, r.2)
/-- What was read ahead of the tests: the fields, the place behind them. -/
def readR (b : List UInt8) : Option (List Fld × Int) :=
  match readU b 0 with
  | none => none
  | some (n, next) => if n ≤ 6 then readFs b n (next : Int) else none
/-- What the reference's DecodeRecord accepts; what the program's accepts. -/
def decS (b : List UInt8) : Option (List Fld) := match readR b with | none => none | some (l, q) => if recB l = true ∧ q = (b.length : Int) then some l else none
def decP (b : List UInt8) : Option (List Fld) := match readR b with | none => none | some (l, _) => if encR l = b then some l else none

theorem readB_canon {b nm : List UInt8} {a : Int} {p : Nat} (h : readB b a 8 = some (nm, p)) : 0 ≤ a ∧ a.toNat ≤ p ∧ p ≤ b.length ∧ nm.length ≤ 8 ∧ (b.drop a.toNat).take (p - a.toNat) = uvar nm.length ++ nm := by
  rcases readB_cases (l := b) (a := a) (mx := 8) with ⟨_, h1⟩ | ⟨m, k, hu, ⟨_, h2⟩ | ⟨h3, h4, h2⟩⟩
  · rw [h] at h1; cases h1
  · rw [h] at h2; cases h2
  · rw [h] at h2
    simp only [Option.some.injEq, Prod.mk.injEq] at h2
    obtain ⟨h5, rfl⟩ := h2
    have hc := readU_canon hu
    have hl := readU_le hu
    have hnl : nm.length = m := by
      rw [h5, List.length_take, List.length_drop]
      omega
    refine ⟨hl.1, by omega, by omega, by omega, ?_⟩
    rw [hnl, ← hc, h5, show k + m - a.toNat = (k - a.toNat) + m by omega, List.take_add, List.drop_drop, show a.toNat + (k - a.toNat) = k by omega]
theorem cut_cat {α : Type} {b : List α} {i j k : Nat} (h1 : i ≤ j) (h2 : j ≤ k) : (b.drop i).take (k - i) = (b.drop i).take (j - i) ++ (b.drop j).take (k - j) := by
  rw [show k - i = (j - i) + (k - j) by omega, List.take_add, List.drop_drop, show i + (j - i) = j by omega]
theorem readFs_canon (b : List UInt8) : ∀ (k : Nat) (a : Int) {l : List Fld} {q : Int}, readFs b k a = some (l, q) → 0 ≤ a → a ≤ b.length → a ≤ q ∧ q ≤ b.length ∧ l.length = k ∧ (∀ f ∈ l, okW f) ∧ (b.drop a.toNat).take (q.toNat - a.toNat) = l.flatMap fldB
  | 0, a, l, q, h, h0, h1 => by
    simp only [readFs, Option.some.injEq, Prod.mk.injEq] at h
    obtain ⟨rfl, rfl⟩ := h
    exact ⟨by omega, by omega, rfl, fun f hf => (by cases hf), (by simp)⟩
  | k + 1, a, l, q, h, h0, h1 => by
    simp only [readFs] at h
    split at h
    · cases h
    · rename_i nm p hb
      split at h
      · cases h
      · rename_i v q1 hu
        rw [Option.map_eq_some_iff] at h
        obtain ⟨⟨l', q'⟩, h2, h3⟩ := h
        simp only [Prod.mk.injEq] at h3
        obtain ⟨rfl, rfl⟩ := h3
        obtain ⟨b1, b2, b3, b4, b5⟩ := readB_canon hb
        have u1 := readU_le hu
        have u2 := readU_canon hu
        obtain ⟨i1, i2, i3, i4, i5⟩ := readFs_canon b k (q1 : Int) h2 (by omega) (by omega)
        refine ⟨by omega, i2, by simp [i3], ?_, ?_⟩
        · intro f hf
          rcases List.mem_cons.1 hf with rfl | hf
          · exact ⟨by show (strOf nm).size ≤ _; rw [strOf_size]; omega, by show (0 : Int) ≤ (v : Int); omega, by show (v : Int) ≤ _; omega⟩
          · exact i4 f hf
        · rw [Int.toNat_natCast] at u2 i5
          rw [cut_cat (i := a.toNat) (j := p) (k := q'.toNat) (by omega) (by omega), cut_cat (i := p) (j := q1) (k := q'.toNat) (by omega) (by omega), b5, u2, i5]
          simp [fldB, strOf_size, strOf_toList]
theorem readR_canon {b : List UInt8} {l : List Fld} {q : Int} (h : readR b = some (l, q)) : 0 < b.length ∧ l.length ≤ 6 ∧ 0 ≤ q ∧ q ≤ b.length ∧ (∀ f ∈ l, okW f) ∧ b.take q.toNat = uvar l.length ++ l.flatMap fldB := by
  unfold readR at h
  split at h
  · cases h
  · rename_i n next hu
    split at h
    · rename_i h6
      have u1 := readU_le hu
      have u2 := readU_canon hu
      obtain ⟨i1, i2, i3, i4, i5⟩ := readFs_canon b n (next : Int) h (by omega) (by omega)
      refine ⟨by omega, by omega, by omega, i2, i4, ?_⟩
      rw [Int.toNat_natCast] at i5
      simp only [Int.toNat_zero, Nat.sub_zero, List.drop_zero] at u2
      have := cut_cat (b := b) (i := 0) (j := next) (k := q.toNat) (by omega) (by omega)
      simp only [Nat.sub_zero, List.drop_zero] at this
      rw [this, u2, i5, i3]
    · cases h
theorem dec_eq (b : List UInt8) : decP b = decS b := by
  unfold decP decS
  cases h : readR b with
  | none => rfl
  | some p =>
    obtain ⟨l, q⟩ := p
    obtain ⟨h1, h2, h3, h4, h5, h6⟩ := readR_canon h
    show (if encR l = b then some l else none) = if recB l = true ∧ q = (b.length : Int) then some l else none
    cases hr : recB l with
    | false =>
      rw [encR_no hr, if_neg (by intro hb; rw [← hb] at h1; simp at h1), if_neg (by simp)]
    | true =>
      rw [encR_eq hr, ← h6]
      by_cases hq : q = (b.length : Int)
      · rw [if_pos (by rw [hq, Int.toNat_natCast, List.take_length]), if_pos ⟨rfl, hq⟩]
      · rw [if_neg (by
          intro hb
          have := congrArg List.length hb
          rw [List.length_take] at this
          omega), if_neg (fun h => hq h.2)]
/-- What is read of a list of fields that was encoded. -/
theorem readB_at (pre nm rest : List UInt8) (h : nm.length ≤ 8) : readB (pre ++ (uvar nm.length ++ (nm ++ rest))) (pre.length : Int) 8 = some (nm, pre.length + (uvar nm.length).length + nm.length) := by
  have hr := readU_appU pre (nm ++ rest) (n := (nm.length : Int)) (by omega) (by omega)
  rw [Int.toNat_natCast] at hr
  unfold readB
  rw [show pre ++ (uvar nm.length ++ (nm ++ rest)) = pre ++ uvar nm.length ++ (nm ++ rest) by simp, hr]
  simp only []
  rw [if_pos ⟨by omega, by simp only [List.length_append]; omega⟩, ← List.length_append, List.drop_left, List.take_left]
theorem readFs_enc : ∀ (l : List Fld) (pre rest : List UInt8), (∀ f ∈ l, okW f ∧ f.1.size ≤ 8) → readFs (pre ++ (l.flatMap fldB ++ rest)) l.length (pre.length : Int) = some (l, ((pre.length + (l.flatMap fldB).length : Nat) : Int))
  | [], pre, rest, _ => by simp [readFs]
  | f :: l, pre, rest, h => by
    obtain ⟨⟨-, h2, h3⟩, h4⟩ := h f (by simp)
    obtain ⟨s, x⟩ := f
    simp only at h2 h3 h4
    have hs : s.data.toList.length = s.size := str_len' s
    have e : pre ++ (((s, x) :: l).flatMap fldB ++ rest) = pre ++ (uvar s.data.toList.length ++ (s.data.toList ++ (uvar x.toNat ++ (l.flatMap fldB ++ rest)))) := by
      simp [fldB]
    have e2 : pre ++ (uvar s.data.toList.length ++ (s.data.toList ++ (uvar x.toNat ++ (l.flatMap fldB ++ rest)))) = (pre ++ uvar s.data.toList.length ++ s.data.toList) ++ uvar x.toNat ++ (l.flatMap fldB ++ rest) := by simp
    have e3 : (pre ++ uvar s.data.toList.length ++ s.data.toList) ++ uvar x.toNat ++ (l.flatMap fldB ++ rest) = ((pre ++ uvar s.data.toList.length ++ s.data.toList) ++ uvar x.toNat) ++ (l.flatMap fldB ++ rest) := rfl
    have hb := readB_at pre s.data.toList (uvar x.toNat ++ (l.flatMap fldB ++ rest)) (by omega)
    have hu := readU_appU (pre ++ uvar s.data.toList.length ++ s.data.toList) (l.flatMap fldB ++ rest) (n := x) h2 h3
    have hi := readFs_enc l ((pre ++ uvar s.data.toList.length ++ s.data.toList) ++ uvar x.toNat) rest (fun g hg => h g (by simp [hg]))
    rw [e, List.length_cons]
    simp only [readFs]
    rw [hb]
    simp only []
    have el : pre.length + (uvar s.data.toList.length).length + s.data.toList.length = (pre ++ uvar s.data.toList.length ++ s.data.toList).length := by simp only [List.length_append]
    rw [el, e2, hu]
    simp only []
    rw [show (pre ++ uvar s.data.toList.length ++ s.data.toList).length + (uvar x.toNat).length = ((pre ++ uvar s.data.toList.length ++ s.data.toList) ++ uvar x.toNat).length by simp only [List.length_append], hi]
    simp only [Option.map_some, strOf_data, Option.some.injEq, Prod.mk.injEq]
    refine ⟨by rw [Int.toNat_of_nonneg h2], ?_⟩
    simp only [fldB, List.flatMap_cons, List.length_append, hs]
    omega
theorem dec_encR {l : List Fld} (h : recB l = true) : decP (encR l) = some l := by
  have h6 := recB_len h
  have hr : readR (encR l) = some (l, ((encR l).length : Int)) := by
    rw [encR_eq h]
    have hu := readU_appU [] (l.flatMap fldB) (n := (l.length : Int)) (by omega) (by omega)
    rw [Int.toNat_natCast, List.nil_append] at hu
    simp only [List.length_nil, Nat.zero_add] at hu
    have hi := readFs_enc l (uvar l.length) [] (fun f hf => ⟨recB_okW h f hf, by have := nameB_len ((recB_iff.1 h).2.1 f hf).1; rw [str_len'] at this; omega⟩)
    rw [List.append_nil] at hi
    unfold readR
    rw [show ((0 : Nat) : Int) = 0 from rfl] at hu
    rw [hu]
    simp only []
    rw [if_pos h6, hi, List.length_append]
  unfold decP
  rw [hr]
  simp only [if_true]
end Go.Proofs.Ytbbngihmjdndoaa
