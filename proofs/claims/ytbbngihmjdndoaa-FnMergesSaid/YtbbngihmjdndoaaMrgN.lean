/-
  Proved: the library's Sort and Compact on a row of names of the run's own give the names in their order, each once. Conditions: those that each statement names.
  By an AI agent; no person has read it.
-/
import Derived.Test.YtbbngihmjdndoaaSort
import Derived.Test.YtbbngihmjdndoaaMrgP
import Derived.Test.YtbbngihmjdndoaaStr
import Derived.Sort.OwnSorted
import Derived.Lib.SlicesCompact
namespace Go.Proofs.Ytbbngihmjdndoaa
open Go.RowKit

abbrev Nm := List UInt8
abbrev eS : Nm → Value := encStr
def leN (a b : Nm) : Bool := decide (a ≤ b)
/-- The names sorted; the names in their order, each once. -/
def srtN (xs : List Nm) : List Nm := xs.mergeSort leN
def namesK (xs : List Nm) : List Nm := Lib.compact (srtN xs)
theorem leN_trans (a b c : Nm) : leN a b = true → leN b c = true → leN a c = true := by
  simp only [leN, decide_eq_true_eq]
  exact List.le_trans
theorem leN_total (a b : Nm) : (leN a b || leN b a) = true := by
  simp only [leN, Bool.or_eq_true, decide_eq_true_eq]
  exact List.le_total a b
theorem srtN_sorted (xs : List Nm) : (srtN xs).Pairwise fun a b => a ≤ b := by
  have h := List.pairwise_mergeSort leN_trans leN_total xs
  refine h.imp fun h => ?_
  simpa [leN] using h
theorem srtN_mem {xs : List Nm} {a : Nm} : a ∈ srtN xs ↔ a ∈ xs := List.mem_mergeSort
theorem srtN_len (xs : List Nm) : (srtN xs).length = xs.length := List.length_mergeSort xs
theorem lt_of_le_ne' {a b : Nm} (h : a ≤ b) (hn : a ≠ b) : a < b := by
  apply Classical.byContradiction
  intro h2
  exact hn (List.le_antisymm h (List.not_lt.1 h2))
theorem cmp_inv {zs : List Nm} (hz : zs.Pairwise fun a b => a ≤ b) : ∀ m, m ≤ zs.length →
    (Lib.compactUpTo zs.toArray m).Pairwise (fun a b => a < b) ∧ (∀ a ∈ Lib.compactUpTo zs.toArray m, ∃ j, j < m ∧ zs[j]? = some a) ∧ (∀ j, j < m → ∀ a, zs[j]? = some a → a ∈ Lib.compactUpTo zs.toArray m)
  | 0, _ => ⟨by simp [Lib.compactUpTo], by simp [Lib.compactUpTo], fun j hj => by omega⟩
  | m + 1, hm => by
    obtain ⟨i1, i2, i3⟩ := cmp_inv hz m (by omega)
    have hmm : m < zs.length := by omega
    have hg : ∀ j, j < zs.length → zs[j]? = some zs.toArray[j]! := fun j hj => by simp [hj]
    rw [Lib.compactUpTo_succ]
    rw [List.pairwise_iff_getElem] at hz
    have hle : ∀ j, j < m → zs.toArray[j]! ≤ zs.toArray[m]! := fun j hj => by
      have := hz j m (by omega) hmm hj
      simpa [show j < zs.length by omega, hmm] using this
    by_cases hk : Lib.keeps zs.toArray m = true
    · rw [if_pos hk]
      refine ⟨List.pairwise_append.2 ⟨i1, List.pairwise_singleton _ _, fun a ha b hb => ?_⟩, fun a ha => ?_, fun j hj a ha => ?_⟩
      · obtain rfl : b = zs.toArray[m]! := by simpa using hb
        obtain ⟨j, hj, hja⟩ := i2 a ha
        rw [hg j (by omega)] at hja
        injection hja with hja
        rw [← hja]
        have h0 : m = 0 ∨ zs.toArray[m]! ≠ zs.toArray[m - 1]! := by simpa [Lib.keeps] using hk
        have h1 : zs.toArray[m]! ≠ zs.toArray[m - 1]! := by
          rcases h0 with h0 | h0
          · omega
          · exact h0
        have h2 : zs.toArray[m - 1]! < zs.toArray[m]! := lt_of_le_ne' (hle (m - 1) (by omega)) (fun e => h1 e.symm)
        have h3 : zs.toArray[j]! ≤ zs.toArray[m - 1]! := by
          rcases (by omega : j = m - 1 ∨ j < m - 1) with e | e
          · rw [e]
            exact List.le_refl _
          · have := hz j (m - 1) (by omega) (by omega) e
            simpa [show j < zs.length by omega, show m - 1 < zs.length by omega] using this
        exact List.lt_of_le_of_lt h3 h2
      · rcases List.mem_append.1 ha with h | h
        · obtain ⟨j, hj, hja⟩ := i2 a h
          exact ⟨j, by omega, hja⟩
        · obtain rfl : a = zs.toArray[m]! := by simpa using h
          exact ⟨m, by omega, hg m hmm⟩
      · rcases (by omega : j < m ∨ j = m) with h | h
        · exact List.mem_append_left _ (i3 j h a ha)
        · subst h
          rw [hg j hmm] at ha
          injection ha with ha
          rw [← ha]
          simp
    · rw [if_neg hk, List.append_nil]
      refine ⟨i1, fun a ha => ?_, fun j hj a ha => ?_⟩
      · obtain ⟨j, hj, hja⟩ := i2 a ha
        exact ⟨j, by omega, hja⟩
      · rcases (by omega : j < m ∨ j = m) with h | h
        · exact i3 j h a ha
        · subst h
          have h0 : j ≠ 0 ∧ zs.toArray[j]! = zs.toArray[j - 1]! := by simpa [Lib.keeps] using hk
          rw [hg j hmm, h0.2] at ha
          exact i3 (j - 1) (by omega) a (by rw [hg (j - 1) (by omega)]; exact ha)
theorem namesK_sorted (xs : List Nm) : (namesK xs).Pairwise fun a b => a < b := (cmp_inv (srtN_sorted xs) _ (Nat.le_refl _)).1
theorem namesK_mem {xs : List Nm} {a : Nm} (h : a ∈ xs) : a ∈ namesK xs := by
  have h1 := srtN_mem.2 h
  obtain ⟨j, hj, e⟩ := List.getElem_of_mem h1
  exact (cmp_inv (srtN_sorted xs) _ (Nat.le_refl _)).2.2 j hj a (by rw [List.getElem?_eq_getElem hj, e])
theorem compact_len (zs : List Nm) : (Lib.compact zs).length ≤ zs.length := by
  unfold Lib.compact Lib.compactUpTo
  rw [List.length_map]
  refine Nat.le_trans (List.length_filter_le _ _) ?_
  rw [List.length_range]
  exact Nat.le_refl _
theorem namesK_len (xs : List Nm) : (namesK xs).length ≤ xs.length := by
  have := compact_len (srtN xs)
  rw [srtN_len] at this
  exact this
theorem namesK_sortedN (xs : List Nm) : sortedN ((namesK xs).map strOf) := by
  refine List.pairwise_map.2 ((namesK_sorted xs).imp fun h => ?_)
  rw [ltN_eq, decide_eq_true_eq]
  have : ∀ l : Nm, (strOf l).toList = l := fun l => by rw [ByteArray.toList_eq]; exact strOf_toList l
  rw [this, this]
  exact h

/-- The names of fields. -/
def nmF (l : List Fld) : List Nm := l.map fun f => f.1.data.toList
theorem nmF_side {lo la lb : List Fld} {nm : ByteArray} (h : sideN la lb nm) : nm ∈ (namesK (nmF lo ++ nmF la ++ nmF lb)).map strOf := by
  refine List.mem_map.2 ⟨nm.data.toList, namesK_mem ?_, strOf_data nm⟩
  simp only [List.mem_append, nmF, List.mem_map]
  rcases h with ⟨x, hx⟩ | ⟨x, hx⟩
  · exact .inl (.inr ⟨_, hx, rfl⟩)
  · exact .inr ⟨_, hx, rfl⟩
theorem eS_name (s : ByteArray) : eS s.data.toList = .string s := by
  show Value.string (strOf s.data.toList) = _
  rw [strOf_data]

theorem own_cutN {w : World} {base : Nat} {e : TypeId} {A : Option Addr} {n c q : Nat} {xs : List Value} (h : w.ownsRow base e 1 (.slice A n c) n xs) (hq : q ≤ n) (h0 : 0 < n) : w.ownsRow base e 1 (.slice A q c) q (xs.take q) := by
  have hl : xs.length = n := by have := h.1; omega
  refine ⟨by simp; omega, ?_⟩
  rcases h.2 with ⟨_, hn⟩ | ⟨g, cap, cur, hv, hg, hh, h1, h2, h3, h4⟩
  · omega
  · injection hv with e1 e2 e3
    refine .inr ⟨g, cap, cur, by rw [e1, e3], hg, hh, by omega, h2, h3, ?_⟩
    rw [Nat.mul_one] at h4 ⊢
    rw [← h4, List.take_take, Nat.min_eq_left hq]

theorem sortNames_any (base : Nat) (A : Option Addr) (n c : Nat) (xs : List Nm) (w : World) (hn : n ≤ 1099511627776) (hb : base ≤ w.heap.size) (ho : w.ownsRow base 9 1 (.slice A n c) n (xs.map eS)) :
    Calls Try.prog 77 #[.slice A n c] w fun e w' => e = .returned (.tuple #[]) ∧ w'.ownsRow base 9 1 (.slice A n c) n ((srtN xs).map eS) ∧ Below base w w' := by
  have hl : xs.length = n := by have := ho.1; simpa using this
  rcases Nat.eq_zero_or_pos n with h0 | h0
  · subst h0
    have hx : xs = [] := List.eq_nil_of_length_eq_zero hl
    subst hx
    refine (Try.slices_Sort_string_none A c w).mono ?_
    rintro e w' ⟨rfl, rfl⟩
    exact ⟨rfl, by simpa [srtN] using ho, Below.refl _ _⟩
  · rcases ho.2 with ⟨_, hz⟩ | ⟨g, cap, cur, hv, hg, hh, h1, h2, h3, h4⟩
    · omega
    · injection hv with e1 e2 e3
      subst e1
      subst e3
      subst hl
      refine (Try.slices_Sort_string g 0 c xs w (holds_of_block hh (by simpa using h4)) (Array.getElem?_eq_some_iff.1 hh).1 (by omega)).mono ?_
      rintro e w' ⟨rfl, k, os, rfl⟩
      refine ⟨rfl, ownsRow_sorted (ts := srtN xs) (srtN_len xs) hg hh h1 h2 h3, ?_⟩
      exact (Below.refl _ _).grown (grownBy_sorted _) hb (fun k hk => by injection hk with hk; omega)

theorem compactNames_any (base : Nat) (A : Option Addr) (n c : Nat) (zs : List Nm) (w : World) (hn : n ≤ 1099511627776) (hb : base ≤ w.heap.size) (ho : w.ownsRow base 9 1 (.slice A n c) n (zs.map eS)) :
    Calls Try.prog 78 #[.slice A n c] w fun e w' => e = .returned (.slice A (Lib.compact zs).length c) ∧ w'.ownsRow base 9 1 (.slice A (Lib.compact zs).length c) (Lib.compact zs).length ((Lib.compact zs).map eS) ∧ Below base w w' ∧ w.grownBy w' (A.map (·.block)) := by
  have hl : zs.length = n := by have := ho.1; simpa using this
  rcases Nat.eq_zero_or_pos n with h0 | h0
  · subst h0
    have hx : zs = [] := List.eq_nil_of_length_eq_zero hl
    subst hx
    refine (Try.slices_Compact_string_empty A c w).mono ?_
    rintro e w' ⟨rfl, rfl⟩
    exact ⟨rfl, ho, Below.refl _ _, World.grownBy.refl _ _⟩
  · rcases ho.2 with ⟨_, hz⟩ | ⟨g, cap, cur, hv, hg, hh, h1, h2, h3, h4⟩
    · omega
    · injection hv with e1 e2 e3
      subst e1
      subst e3
      subst hl
      refine (Try.slices_Compact_string g 0 c zs w (holds_of_block hh (by simpa using h4)) (by omega) h1).mono ?_
      rintro e w' ⟨rfl, k, rfl⟩
      have hcl := compact_len zs
      have hw : (Go.Sort.grow (Go.Sort.putRow encStr (Go.Sort.ahead w k) g 0 (Lib.compact zs ++ List.replicate (zs.length - (Lib.compact zs).length) []).toArray) #[]) = Go.Sort.putRow encStr (Go.Sort.ahead w k) g 0 (Lib.compact zs ++ List.replicate (zs.length - (Lib.compact zs).length) []).toArray := Go.Sort.grow_empty _
      rw [← hw]
      have ho2 := ownsRow_sorted (n := k) (os := #[]) (e := 9) (ss := zs) (ts := Lib.compact zs ++ List.replicate (zs.length - (Lib.compact zs).length) []) (by simp; omega) hg hh h1 h2 h3
      refine ⟨rfl, ?_, (Below.refl _ _).grown (grownBy_sorted _) hb (fun k hk => by injection hk with hk; omega), grownBy_sorted _⟩
      have h5 := own_cutN ho2 hcl h0
      have h6 : ((Lib.compact zs ++ List.replicate (zs.length - (Lib.compact zs).length) []).map encStr).take (Lib.compact zs).length = (Lib.compact zs).map eS := by
        rw [List.map_append, ← List.length_map (f := encStr), List.take_left]
      rw [h6] at h5
      exact h5
end Go.Proofs.Ytbbngihmjdndoaa
