/-
  Proved, of no program: the key that a text may spell, and that a text whose number is no numeral spells none. Conditions: none.
  By an AI agent; no person has read it.
-/
import Derived.Test.YtnbhdijmbpdgoaaDoorFmtK
import Derived.Test.YtnbhdijmbpdgoaaDoorPInt
import Derived.Lib.IndexMore
namespace Go.Proofs.YtnbhdijmbpdgoaaDoor
open Go.Lib

/-- What stands ahead of the first quote, and what stands from it on. -/
def headA (l : List UInt8) : List UInt8 := l.takeWhile (fun b => b != 39)
def restB (l : List UInt8) : List UInt8 := l.dropWhile (fun b => b != 39)
/-- The number's digits, its sign taken off. -/
def bodyA (l : List UInt8) : List UInt8 := match headA l with
  | b :: r => if b = 45 then r else b :: r
  | [] => []
def negA (l : List UInt8) : Bool := (headA l).head? == some 45
/-- The parts of the key that a text may spell. -/
def pkK (l : List UInt8) : Int := if restB l = [] then 1 else if headA l = [] then 2 else 3
def pkN (l : List UInt8) : Int := if negA l then -piN (strOf (bodyA l)) else piN (strOf (bodyA l))
def pkT (l : List UInt8) : ByteArray := strOf (restB l).tail
/-- The text spells that key. -/
def pkOk (s : ByteArray) : Bool := keyB (pkK s.data.toList) (pkN s.data.toList) (pkT s.data.toList) && decide (fmtK (pkK s.data.toList) (pkN s.data.toList) (pkT s.data.toList) = s)

theorem head_rest (l : List UInt8) : headA l ++ restB l = l := List.takeWhile_append_dropWhile
theorem rest_quote {l : List UInt8} (h : restB l ≠ []) : ∃ t, restB l = 39 :: t := by
  unfold restB at h ⊢
  induction l with
  | nil => simp at h
  | cons b r ih =>
    by_cases hb : b = 39
    · subst hb
      exact ⟨r, by simp⟩
    · have e : (b :: r).dropWhile (fun b => b != 39) = r.dropWhile (fun b => b != 39) := by simp [hb]
      rw [e] at h ⊢
      exact ih h
theorem piN_nil : piN (strOf []) = 0 := (pi_none (by rw [strOf_toList]; rfl)).1
theorem piN_bad {l : List UInt8} (h : piB (strOf l) = false) : piN (strOf l) = 0 := by
  unfold piB at h
  unfold piN
  cases hi : intV (strOf l).data.toList with
  | none => rfl
  | some n => rw [hi] at h; cases h
theorem piB_zero : piB (strOf [48]) = true := (pi_some (n := 0) (by rw [strOf_toList]; have := intV_digits (n := 0) (by omega); rwa [decDigits_one (by omega)] at this)).2
theorem itoa_zero : itoa 0 = [48] := by
  unfold itoa
  rw [if_neg (by omega)]
  show decDigits 0 = _
  rw [decDigits_one (by omega)]
  rfl
/-- Where the number is no numeral, the text spells no key. -/
theorem pk_bad {s : ByteArray} (hA : headA s.data.toList ≠ []) (h : piB (strOf (bodyA s.data.toList)) = false) : pkOk s = false := by
  cases hk : pkOk s with
  | false => rfl
  | true =>
    exfalso
    unfold pkOk at hk
    simp only [Bool.and_eq_true, decide_eq_true_eq] at hk
    obtain ⟨h1, h2⟩ := hk
    have hN : pkN s.data.toList = 0 := by
      unfold pkN
      rw [piN_bad h]
      simp
    rw [hN] at h1 h2
    have h3 : (strOf (itoa 0)).data.toList = [48] := by rw [strOf_toList, itoa_zero]
    have key : headA s.data.toList = [48] → False := by
      intro e
      have : bodyA s.data.toList = [48] := by
        unfold bodyA
        rw [e]
        rfl
      rw [this, piB_zero] at h
      cases h
    unfold fmtK at h2
    rw [h1] at h2
    simp only [Bool.true_eq_false, if_false] at h2
    apply key
    by_cases hr : restB s.data.toList = []
    · have e1 : pkK s.data.toList = 1 := by unfold pkK; rw [if_pos hr]
      rw [e1, if_pos rfl] at h2
      have := head_rest s.data.toList
      rw [hr, List.append_nil] at this
      rw [this, ← h2, h3]
    · have e1 : pkK s.data.toList = 3 := by unfold pkK; rw [if_neg hr, if_neg hA]
      rw [e1, if_neg (by omega), if_neg (by omega)] at h2
      have e2 : ∃ T : List UInt8, s.data.toList = 48 :: 39 :: T := by
        refine ⟨(pkT s.data.toList).data.toList, ?_⟩
        have : (strOf (itoa 0) ++ ⟨#[39]⟩ ++ pkT s.data.toList).data.toList = (strOf (itoa 0)).data.toList ++ [39] ++ (pkT s.data.toList).data.toList := by simp
        rw [h2] at this
        exact this.trans (by rw [h3]; rfl)
      obtain ⟨T, e2⟩ := e2
      rw [e2]
      simp [headA]
theorem index_quote (l : List UInt8) : index l [39] = if restB l = [] then -1 else ((headA l).length : Int) := by
  induction l with
  | nil => rfl
  | cons b r ih =>
    by_cases hb : b = 39
    · subst hb
      simp [index, restB, headA]
    · have e1 : restB (b :: r) = restB r := by simp [restB, hb]
      have e2 : headA (b :: r) = b :: headA r := by simp [headA, hb]
      have hb' : ¬ 39 = b := fun h => hb h.symm
      rw [e1, e2, index, ih]
      by_cases hr : restB r = []
      · simp [hr, hb', List.isPrefixOf]
      · have : ¬ (((headA r).length : Int) = -1) := by omega
        simp [hr, hb', List.isPrefixOf, this]
theorem cut_quote (l : List UInt8) : cut l [39] = (headA l, (restB l).tail, !decide (restB l = [])) := by
  unfold cut
  have hh := head_rest l
  rw [index_quote]
  by_cases hr : restB l = []
  · rw [hr, List.append_nil] at hh
    rw [if_pos hr, if_neg (by decide), hr, hh]
    rfl
  · rw [if_neg hr, if_pos (by omega)]
    obtain ⟨t, ht⟩ := rest_quote hr
    rw [ht] at hh ⊢
    have h1 : l.take (headA l).length = headA l := (congrArg (List.take (headA l).length) hh).symm.trans (by simp)
    have h2 : l.drop ((headA l).length + 1) = t := by
      have := congrArg (List.drop ((headA l).length + 1)) hh
      rw [← this]
      simp
    simp only [Int.toNat_natCast, List.length_cons, List.length_nil, Nat.zero_add]
    rw [h1, h2]
    simp
theorem trim_body (l : List UInt8) : trimPrefix (headA l) [45] = bodyA l := by
  unfold trimPrefix hasPrefix bodyA
  cases headA l with
  | nil => rfl
  | cons b r =>
    by_cases hb : b = 45
    · subst hb
      simp [List.isPrefixOf]
    · have hb' : ¬ 45 = b := fun h => hb h.symm
      simp [List.isPrefixOf, hb, hb']
theorem prefix_neg (l : List UInt8) : hasPrefix (headA l) [45] = negA l := by
  unfold hasPrefix negA
  cases headA l with
  | nil => rfl
  | cons b r =>
    by_cases hb : b = 45
    · subst hb
      simp [List.isPrefixOf]
    · have e1 : ((45 : UInt8) == b) = false := beq_eq_false_iff_ne.2 (fun h => hb h.symm)
      have e2 : (b == (45 : UInt8)) = false := beq_eq_false_iff_ne.2 hb
      show ((45 == b) && List.isPrefixOf [] r) = (b == 45)
      rw [e1, e2]
      rfl
/-- The empty text spells none. -/
theorem pk_empty : pkOk ⟨#[]⟩ = false := by
  have e1 : pkK [] = 1 := rfl
  have e2 : pkN [] = 0 := by
    unfold pkN
    show (if false = true then _ else piN (strOf [])) = 0
    rw [if_neg (by decide), piN_nil]
  have e3 : pkT [] = ⟨#[]⟩ := rfl
  show (keyB (pkK []) (pkN []) (pkT []) && decide (fmtK (pkK []) (pkN []) (pkT []) = ⟨#[]⟩)) = false
  rw [e1, e2, e3]
  have : fmtK 1 0 ⟨#[]⟩ ≠ ⟨#[]⟩ := by
    unfold fmtK
    split
    · rename_i h
      exact absurd h (by decide)
    · rw [if_pos rfl, itoa_zero]
      intro h
      have := congrArg ByteArray.size h
      exact absurd this (by decide)
  rw [decide_eq_false this, Bool.and_false]
end Go.Proofs.YtnbhdijmbpdgoaaDoor
