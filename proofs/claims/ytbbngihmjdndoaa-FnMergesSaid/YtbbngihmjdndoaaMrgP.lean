/-
  Proved: the plain laws of merges of records: the program's way and the reference's way give one answer; what a merge takes over. Conditions: those that each statement names.
  By an AI agent; no person has read it.
-/
import Derived.Test.YtbbngihmjdndoaaRecS
namespace Go.Proofs.Ytbbngihmjdndoaa
open Go.RowKit

/-- The names of fields, in their order. -/
def sortedF (l : List Fld) : Prop := l.Pairwise (fun f g => ltN f.1 g.1 = true)
def sortedN (l : List ByteArray) : Prop := l.Pairwise (fun a b => ltN a b = true)
theorem sortedF_ext : ∀ {l m : List Fld}, sortedF l → sortedF m → (∀ f, f ∈ l ↔ f ∈ m) → l = m
  | [], [], _, _, _ => rfl
  | [], g :: m, _, _, h => absurd ((h g).2 (by simp)) (by simp)
  | f :: l, [], _, _, h => absurd ((h f).1 (by simp)) (by simp)
  | f :: l, g :: m, hl, hm, h => by
    obtain ⟨hl1, hl2⟩ := List.pairwise_cons.1 hl
    obtain ⟨hm1, hm2⟩ := List.pairwise_cons.1 hm
    have hfg : f = g := by
      rcases List.mem_cons.1 ((h f).1 (by simp)) with h1 | h1
      · exact h1
      · rcases List.mem_cons.1 ((h g).2 (by simp)) with h2 | h2
        · exact h2.symm
        · have a1 := hm1 f h1
          have a2 := hl1 g h2
          rw [ltN_asymm a1] at a2
          cases a2
    subst hfg
    refine congrArg _ (sortedF_ext hl2 hm2 fun x => ?_)
    have irr : ∀ x, x ∈ l → x ≠ f := fun x hx e => by
      have := hl1 x hx
      rw [e, ltN_irr] at this
      cases this
    have irm : ∀ x, x ∈ m → x ≠ f := fun x hx e => by
      have := hm1 x hx
      rw [e, ltN_irr] at this
      cases this
    constructor
    · intro hx
      rcases List.mem_cons.1 ((h x).1 (by simp [hx])) with h1 | h1
      · exact absurd h1 (irr x hx)
      · exact h1
    · intro hx
      rcases List.mem_cons.1 ((h x).2 (by simp [hx])) with h1 | h1
      · exact absurd h1 (irm x hx)
      · exact h1
theorem sorted_of_rec {l : List Fld} (h : recB l = true) : sortedF l := (recB_iff.1 h).1
theorem find_some_mem {l : List Fld} {nm : ByteArray} {f : Fld} (h : l.find? (pN nm) = some f) : f ∈ l ∧ f.1 = nm :=
  ⟨List.mem_of_find?_eq_some h, pN_iff.1 (List.find?_some h)⟩
/-- In a sorted list a field is found by its name. -/
theorem getF_mem {l : List Fld} (hs : sortedF l) {nm : ByteArray} {x : Int} : (nm, x) ∈ l ↔ getF l nm = (x, true) := by
  constructor
  · intro hm
    cases hf : l.find? (pN nm) with
    | none =>
      rw [List.find?_eq_none] at hf
      exact absurd (pN_iff.2 rfl) (hf _ hm)
    | some g =>
      obtain ⟨hg, hn⟩ := find_some_mem hf
      have : g = (nm, x) := by
        rw [sortedF, List.pairwise_iff_getElem] at hs
        obtain ⟨i, hi, ei⟩ := List.getElem_of_mem hg
        obtain ⟨j, hj, ej⟩ := List.getElem_of_mem hm
        rcases Nat.lt_trichotomy i j with h | h | h
        · have := hs i j hi hj h
          rw [ei, ej, hn] at this
          simp only [ltN_irr] at this
          cases this
        · subst h
          rw [← ei, ej]
        · have := hs j i hj hi h
          rw [ei, ej, hn] at this
          simp only [ltN_irr] at this
          cases this
      unfold getF
      rw [hf, this]
  · intro h
    unfold getF at h
    split at h
    · rename_i f hf
      obtain ⟨hg, hn⟩ := find_some_mem hf
      obtain rfl : f.2 = x := (Prod.mk.inj h).1
      rw [← hn]
      exact hg
    · cases (Prod.mk.inj h).2
theorem getF_no {l : List Fld} {nm : ByteArray} (h : (getF l nm).2 = false) : getF l nm = (0, false) := by
  unfold getF at *
  split at h
  · cases h
  · rfl
theorem getF_off {l : List Fld} {nm : ByteArray} (h : ∀ x, (nm, x) ∉ l) : getF l nm = (0, false) := by
  refine getF_none ?_
  rw [List.find?_eq_none]
  intro f hf hp
  refine h f.2 ?_
  rw [← pN_iff.1 hp]
  exact hf
theorem rec_ext {l m : List Fld} (hl : sortedF l) (hm : sortedF m) (h : ∀ nm, getF l nm = getF m nm) : l = m :=
  sortedF_ext hl hm fun f => by
    obtain ⟨nm, x⟩ := f
    rw [getF_mem hl, getF_mem hm, h]

/-- The field of one name in a merge: its number and whether it stays. -/
def mgF (o x y : Int × Bool) : Int × Bool := if x = o then y else if y = o then x else (max x.1 y.1, x.2 || y.2)
def mgN (lo la lb : List Fld) (nm : ByteArray) : Int × Bool := mgF (getF lo nm) (getF la nm) (getF lb nm)
def mgO (lo la lb : List Fld) (nm : ByteArray) : Option Fld := if (mgN lo la lb nm).2 then some (nm, (mgN lo la lb nm).1) else none
/-- The fields that a merge makes out of names. -/
def mgL (lo la lb : List Fld) (ns : List ByteArray) : List Fld := ns.filterMap (mgO lo la lb)
theorem mgO_some {lo la lb : List Fld} {nm : ByteArray} {f : Fld} (h : mgO lo la lb nm = some f) : f.1 = nm ∧ mgN lo la lb nm = (f.2, true) := by
  unfold mgO at h
  split at h
  · rename_i h2
    injection h with h
    subst h
    exact ⟨rfl, Prod.ext rfl h2⟩
  · cases h
theorem mgN_no {lo la lb : List Fld} {nm : ByteArray} (h : (mgN lo la lb nm).2 = false) : mgN lo la lb nm = (0, false) := by
  unfold mgN mgF at *
  split at h
  · rename_i h1
    rw [if_pos h1]
    exact getF_no h
  · rename_i h1
    rw [if_neg h1]
    split at h
    · rename_i h2
      rw [if_pos h2]
      exact getF_no h
    · rename_i h2
      rw [if_neg h2]
      have h3 := Bool.or_eq_false_iff.1 h
      rw [getF_no h3.1, getF_no h3.2]
      rfl
theorem mgL_sorted {lo la lb : List Fld} : ∀ {ns : List ByteArray}, sortedN ns → sortedF (mgL lo la lb ns)
  | [], _ => List.Pairwise.nil
  | nm :: ns, h => by
    obtain ⟨h1, h2⟩ := List.pairwise_cons.1 h
    have ih := mgL_sorted (lo := lo) (la := la) (lb := lb) h2
    unfold mgL
    rw [List.filterMap_cons]
    cases hm : mgO lo la lb nm with
    | none => exact ih
    | some f =>
      refine List.pairwise_cons.2 ⟨fun g hg => ?_, ih⟩
      obtain ⟨n2, hn2, hg2⟩ := List.mem_filterMap.1 hg
      rw [(mgO_some hm).1, (mgO_some hg2).1]
      exact h1 n2 hn2
/-- The names that matter: those of the two sides. -/
def sideN (la lb : List Fld) (nm : ByteArray) : Prop := (∃ x, (nm, x) ∈ la) ∨ ∃ x, (nm, x) ∈ lb
theorem mgO_off {lo la lb : List Fld} {nm : ByteArray} (h : ¬ sideN la lb nm) : mgO lo la lb nm = none := by
  have ha : getF la nm = (0, false) := getF_off fun x hx => h (.inl ⟨x, hx⟩)
  have hb : getF lb nm = (0, false) := getF_off fun x hx => h (.inr ⟨x, hx⟩)
  have hm : mgN lo la lb nm = (0, false) := by
    unfold mgN mgF
    rw [ha, hb]
    split
    · rfl
    · rfl
  unfold mgO
  rw [hm]
  rfl
theorem mgL_mem {lo la lb : List Fld} {ns : List ByteArray} (h : ∀ nm, sideN la lb nm → nm ∈ ns) {nm : ByteArray} {x : Int} : (nm, x) ∈ mgL lo la lb ns ↔ mgN lo la lb nm = (x, true) := by
  unfold mgL
  rw [List.mem_filterMap]
  constructor
  · rintro ⟨n2, hn2, h2⟩
    obtain ⟨h3, h4⟩ := mgO_some h2
    simp only at h3 h4
    rw [h3]
    exact h4
  · intro h2
    have ho : mgO lo la lb nm = some (nm, x) := by
      unfold mgO
      rw [h2]
      rfl
    refine ⟨nm, h nm ?_, ho⟩
    apply Classical.byContradiction
    intro hno
    rw [mgO_off hno] at ho
    cases ho
theorem mgL_eq {lo la lb : List Fld} {ns ms : List ByteArray} (hn : sortedN ns) (hm : sortedN ms) (h1 : ∀ nm, sideN la lb nm → nm ∈ ns) (h2 : ∀ nm, sideN la lb nm → nm ∈ ms) : mgL lo la lb ns = mgL lo la lb ms :=
  sortedF_ext (mgL_sorted hn) (mgL_sorted hm) fun f => by
    obtain ⟨nm, x⟩ := f
    rw [mgL_mem h1, mgL_mem h2]

/-- The names of the two sides as the reference goes over them. -/
def uniN (la lb : List Fld) : List ByteArray :=
  match la, lb with
  | [], lb => lb.map (·.1)
  | f :: la, [] => (f :: la).map (·.1)
  | f :: la, g :: lb => if ltN g.1 f.1 then g.1 :: uniN (f :: la) lb else if g.1 = f.1 then f.1 :: uniN la lb else f.1 :: uniN la (g :: lb)
termination_by la.length + lb.length
theorem uniN_nil (lb : List Fld) : uniN [] lb = lb.map (·.1) := by unfold uniN; rfl
theorem uniN_nilr (la : List Fld) : uniN la [] = la.map (·.1) := by
  cases la with
  | nil => rw [uniN_nil]
  | cons f la => unfold uniN; rfl
theorem uniN_cons (f g : Fld) (la lb : List Fld) : uniN (f :: la) (g :: lb) = if ltN g.1 f.1 then g.1 :: uniN (f :: la) lb else if g.1 = f.1 then f.1 :: uniN la lb else f.1 :: uniN la (g :: lb) := by
  rw [uniN]
theorem mem_names {l : List Fld} {nm : ByteArray} : nm ∈ l.map (·.1) ↔ ∃ x, (nm, x) ∈ l := by
  rw [List.mem_map]
  constructor
  · rintro ⟨⟨a, x⟩, h, rfl⟩
    exact ⟨x, h⟩
  · rintro ⟨x, h⟩
    exact ⟨_, h, rfl⟩
theorem uniN_mem (la lb : List Fld) (nm : ByteArray) : nm ∈ uniN la lb ↔ sideN la lb nm := by
  fun_induction uniN la lb with
  | case1 lb => simp only [mem_names, sideN, List.not_mem_nil, exists_false, false_or]
  | case2 f la => simp only [mem_names, sideN, List.not_mem_nil, exists_false, or_false]
  | case3 f la g lb h ih =>
    rw [List.mem_cons, ih]
    unfold sideN
    constructor
    · rintro (rfl | ⟨x, hx⟩ | ⟨x, hx⟩)
      · exact .inr ⟨g.2, by simp⟩
      · exact .inl ⟨x, hx⟩
      · exact .inr ⟨x, by simp [hx]⟩
    · rintro (⟨x, hx⟩ | ⟨x, hx⟩)
      · exact .inr (.inl ⟨x, hx⟩)
      · rcases List.mem_cons.1 hx with h2 | h2
        · exact .inl (by rw [← h2])
        · exact .inr (.inr ⟨x, h2⟩)
  | case4 f la g lb h h2 ih =>
    rw [List.mem_cons, ih]
    unfold sideN
    constructor
    · rintro (rfl | ⟨x, hx⟩ | ⟨x, hx⟩)
      · exact .inl ⟨f.2, by simp⟩
      · exact .inl ⟨x, by simp [hx]⟩
      · exact .inr ⟨x, by simp [hx]⟩
    · rintro (⟨x, hx⟩ | ⟨x, hx⟩)
      · rcases List.mem_cons.1 hx with h3 | h3
        · exact .inl (by rw [← h3])
        · exact .inr (.inl ⟨x, h3⟩)
      · rcases List.mem_cons.1 hx with h3 | h3
        · exact .inl (by rw [← h2, ← h3])
        · exact .inr (.inr ⟨x, h3⟩)
  | case5 f la g lb h h2 ih =>
    rw [List.mem_cons, ih]
    unfold sideN
    constructor
    · rintro (rfl | ⟨x, hx⟩ | ⟨x, hx⟩)
      · exact .inl ⟨f.2, by simp⟩
      · exact .inl ⟨x, by simp [hx]⟩
      · exact .inr ⟨x, hx⟩
    · rintro (⟨x, hx⟩ | ⟨x, hx⟩)
      · rcases List.mem_cons.1 hx with h3 | h3
        · exact .inl (by rw [← h3])
        · exact .inr (.inl ⟨x, h3⟩)
      · exact .inr (.inr ⟨x, hx⟩)
theorem sortedN_names {l : List Fld} (h : sortedF l) : sortedN (l.map (·.1)) := List.pairwise_map.2 h
theorem head_lt {f : Fld} {l : List Fld} (h : sortedF (f :: l)) {nm : ByteArray} {x : Int} (hx : (nm, x) ∈ l) : ltN f.1 nm = true := (List.pairwise_cons.1 h).1 _ hx
theorem uniN_sorted (la lb : List Fld) (ha : sortedF la) (hb : sortedF lb) : sortedN (uniN la lb) := by
  fun_induction uniN la lb with
  | case1 lb => exact sortedN_names hb
  | case2 f la => exact sortedN_names ha
  | case3 f la g lb h ih =>
    refine List.pairwise_cons.2 ⟨fun nm hnm => ?_, ih ha (List.pairwise_cons.1 hb).2⟩
    rcases (uniN_mem _ _ _).1 hnm with ⟨x, hx⟩ | ⟨x, hx⟩
    · rcases List.mem_cons.1 hx with h3 | h3
      · rw [show nm = f.1 by rw [← h3]]
        exact h
      · exact ltN_trans h (head_lt ha h3)
    · exact head_lt hb hx
  | case4 f la g lb h h2 ih =>
    refine List.pairwise_cons.2 ⟨fun nm hnm => ?_, ih (List.pairwise_cons.1 ha).2 (List.pairwise_cons.1 hb).2⟩
    rcases (uniN_mem _ _ _).1 hnm with ⟨x, hx⟩ | ⟨x, hx⟩
    · exact head_lt ha hx
    · rw [← h2]
      exact head_lt hb hx
  | case5 f la g lb h h2 ih =>
    have hfg : ltN f.1 g.1 = true := by
      cases e : ltN f.1 g.1 with
      | true => rfl
      | false => exact absurd (ltN_tri e (by simpa using h)).symm h2
    refine List.pairwise_cons.2 ⟨fun nm hnm => ?_, ih (List.pairwise_cons.1 ha).2 hb⟩
    rcases (uniN_mem _ _ _).1 hnm with ⟨x, hx⟩ | ⟨x, hx⟩
    · exact head_lt ha hx
    · rcases List.mem_cons.1 hx with h3 | h3
      · rw [show nm = g.1 by rw [← h3]]
        exact hfg
      · exact ltN_trans hfg (head_lt hb h3)
theorem uniN_len (la lb : List Fld) : (uniN la lb).length ≤ la.length + lb.length := by
  fun_induction uniN la lb with
  | case1 lb => simp
  | case2 f la => simp
  | case3 f la g lb h ih => simp only [List.length_cons] at ih ⊢; omega
  | case4 f la g lb h h2 ih => simp only [List.length_cons] at ih ⊢; omega
  | case5 f la g lb h h2 ih => simp only [List.length_cons] at ih ⊢; omega

/-- What a merge answers. -/
def mrgL (lo la lb : List Fld) : List Fld := mgL lo la lb (uniN la lb)
def mrgR (lo la lb : List Fld) : List Fld × Bool := if recB lo && recB la && recB lb && recB (mrgL lo la lb) then (mrgL lo la lb, true) else (la, false)
/-- The program's way: any names in their order among which those of the sides are. -/
theorem mrg_impl {lo la lb : List Fld} {ns : List ByteArray} (hn : sortedN ns) (h : ∀ nm, sideN la lb nm → nm ∈ ns) : mrgR lo la lb = if recB lo && recB la && recB lb && recB (mgL lo la lb ns) then (mgL lo la lb ns, true) else (la, false) := by
  unfold mrgR
  cases h2 : recB la
  · simp
  cases h3 : recB lb
  · simp
  rw [show mgL lo la lb ns = mrgL lo la lb from mgL_eq hn (uniN_sorted la lb (sorted_of_rec h2) (sorted_of_rec h3)) h (fun nm hnm => (uniN_mem _ _ _).2 hnm)]
theorem mrgL_get {lo la lb : List Fld} (ha : sortedF la) (hb : sortedF lb) (nm : ByteArray) : getF (mrgL lo la lb) nm = mgN lo la lb nm := by
  have hs : sortedF (mrgL lo la lb) := mgL_sorted (uniN_sorted la lb ha hb)
  have hm := fun (nm : ByteArray) (x : Int) => mgL_mem (lo := lo) (la := la) (lb := lb) (ns := uniN la lb) (fun nm hnm => (uniN_mem _ _ _).2 hnm) (nm := nm) (x := x)
  cases e : (mgN lo la lb nm).2 with
  | true =>
    obtain ⟨x, hx⟩ : ∃ x, mgN lo la lb nm = (x, true) := ⟨_, Prod.ext rfl e⟩
    rw [hx, ← getF_mem hs]
    exact (hm nm x).2 hx
  | false =>
    rw [mgN_no e]
    refine getF_off fun x hx => ?_
    have := (hm nm x).1 hx
    rw [this] at e
    cases e
theorem mrgL_sorted {lo la lb : List Fld} (ha : sortedF la) (hb : sortedF lb) : sortedF (mrgL lo la lb) := mgL_sorted (uniN_sorted la lb ha hb)
theorem mgF_comm (o x y : Int × Bool) : mgF o x y = mgF o y x := by
  unfold mgF
  by_cases h1 : x = o
  · by_cases h2 : y = o
    · rw [if_pos h1, if_pos h2, h1, h2]
    · rw [if_pos h1, if_neg h2, if_pos h1]
  · by_cases h2 : y = o
    · rw [if_neg h1, if_pos h2, if_pos h2]
    · rw [if_neg h1, if_neg h2, if_neg h2, if_neg h1]
      refine Prod.ext ?_ (Bool.or_comm _ _)
      show max x.1 y.1 = max y.1 x.1
      omega
theorem mgF_left (o x : Int × Bool) : mgF o x o = x := by
  unfold mgF
  by_cases h1 : x = o
  · rw [if_pos h1, h1]
  · rw [if_neg h1, if_pos rfl]
theorem mgF_right (o y : Int × Bool) : mgF o o y = y := by
  unfold mgF
  rw [if_pos rfl]
theorem mgF_self (o x : Int × Bool) : mgF o x x = x := by
  unfold mgF
  by_cases h1 : x = o
  · rw [if_pos h1]
  · rw [if_neg h1, if_neg h1]
    refine Prod.ext ?_ (Bool.or_self _)
    show max x.1 x.1 = x.1
    omega
theorem mrgL_comm {lo la lb : List Fld} (ha : sortedF la) (hb : sortedF lb) : mrgL lo la lb = mrgL lo lb la :=
  rec_ext (mrgL_sorted ha hb) (mrgL_sorted hb ha) fun nm => by
    rw [mrgL_get ha hb, mrgL_get hb ha]
    exact mgF_comm _ _ _
theorem mrgL_left {lo la : List Fld} (ho : sortedF lo) (ha : sortedF la) : mrgL lo la lo = la :=
  rec_ext (mrgL_sorted ha ho) ha fun nm => by
    rw [mrgL_get ha ho]
    exact mgF_left _ _
theorem mrgL_right {lo lb : List Fld} (ho : sortedF lo) (hb : sortedF lb) : mrgL lo lo lb = lb :=
  rec_ext (mrgL_sorted ho hb) hb fun nm => by
    rw [mrgL_get ho hb]
    exact mgF_right _ _
theorem mrgL_self {lo la : List Fld} (ha : sortedF la) : mrgL lo la la = la :=
  rec_ext (mrgL_sorted ha ha) ha fun nm => by
    rw [mrgL_get ha ha]
    exact mgF_self _ _
/-- All that the law on merges asks. -/
theorem mrg_law (lo la lb : List Fld) :
    (mrgR lo lb la).2 = (mrgR lo la lb).2 ∧ ((mrgR lo la lb).2 = false → (mrgR lo la lb).1 = la) ∧
    ((mrgR lo la lb).2 = true → (mrgR lo lb la).1 = (mrgR lo la lb).1 ∧ mrgR lo la lo = (la, true) ∧ mrgR lo lo lb = (lb, true) ∧ mrgR lo la la = (la, true)) := by
  cases h1 : recB lo
  · simp [mrgR, h1]
  cases h2 : recB la
  · simp [mrgR, h1, h2]
  cases h3 : recB lb
  · simp [mrgR, h1, h2, h3]
  have so := sorted_of_rec h1
  have sa := sorted_of_rec h2
  have sb := sorted_of_rec h3
  unfold mrgR
  rw [mrgL_comm sb sa, mrgL_left so sa, mrgL_right so sb, mrgL_self sa, h1, h2, h3]
  cases h4 : recB (mrgL lo la lb) <;> simp
end Go.Proofs.Ytbbngihmjdndoaa
