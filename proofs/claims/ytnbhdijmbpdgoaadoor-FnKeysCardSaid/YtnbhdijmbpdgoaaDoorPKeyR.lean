/-
  Proved, of no program: a valid key is read back from its text. Conditions: the key is valid.
  By an AI agent; no person has read it.
-/
import Derived.Test.YtnbhdijmbpdgoaaDoorPKeyI
namespace Go.Proofs.YtnbhdijmbpdgoaaDoor
open Go.RowKit Go.Lib

theorem digits_all (u : Nat) : ∀ c ∈ decDigits u, 48 ≤ c.toNat ∧ c.toNat ≤ 57 := by
  induction u using Nat.strongRecOn with
  | _ u ih =>
    have hd : ∀ d : Nat, d < 10 → 48 ≤ (UInt8.ofNat (48 + d)).toNat ∧ (UInt8.ofNat (48 + d)).toNat ≤ 57 := by
      intro d hd
      rw [UInt8.toNat_ofNat']
      omega
    intro c hc
    rw [decDigits] at hc
    by_cases h : u < 10
    · rw [dif_pos h, List.mem_singleton] at hc
      rw [hc]
      exact hd u h
    · rw [dif_neg h, List.mem_append, List.mem_singleton] at hc
      rcases hc with hc | hc
      · exact ih (u / 10) (by omega) c hc
      · rw [hc]
        exact hd _ (by omega)
theorem itoa_noquote (n : Int) : ∀ c ∈ itoa n, (c != 39) = true := by
  intro c hc
  have h39 : 48 ≤ c.toNat → (c != 39) = true := by
    intro h
    rw [bne_iff_ne]
    rintro rfl
    exact absurd h (by decide)
  unfold itoa at hc
  split at hc
  · rcases List.mem_cons.1 hc with rfl | hc
    · decide
    · exact h39 (digits_all _ c hc).1
  · exact h39 (digits_all _ c hc).1
theorem head_take {l m : List UInt8} (h : ∀ c ∈ l, (c != 39) = true) (hm : m = [] ∨ ∃ t, m = 39 :: t) : headA (l ++ m) = l ∧ restB (l ++ m) = m := by
  unfold headA restB
  induction l with
  | nil =>
    rcases hm with rfl | ⟨t, rfl⟩
    · exact ⟨rfl, rfl⟩
    · exact ⟨rfl, rfl⟩
  | cons b r ih =>
    have hb : (b != 39) = true := h b List.mem_cons_self
    have := ih (fun c hc => h c (List.mem_cons_of_mem _ hc))
    simp only [List.cons_append, List.takeWhile_cons, List.dropWhile_cons, hb, if_true]
    exact ⟨by rw [this.1], this.2⟩
theorem piN_digits {u : Nat} (h : u ≤ 1000000000000) : piN (strOf (decDigits u)) = (u : Int) := by
  unfold piN
  rw [strOf_toList, intV_digits h]
  rfl
theorem pkN_itoa {l : List UInt8} {n : Int} (hn : -1000000000000 ≤ n ∧ n ≤ 1000000000000) (h : headA l = itoa n) : pkN l = n := by
  unfold pkN negA bodyA
  rw [h]
  unfold itoa
  by_cases h0 : n < 0
  · rw [if_pos h0]
    show (if ((some (45 : UInt8)) == some 45) = true then -piN (strOf (if (45 : UInt8) = 45 then decDigits n.natAbs else _)) else _) = n
    rw [if_pos (by decide), if_pos rfl, piN_digits (by omega)]
    omega
  · rw [if_neg h0]
    obtain ⟨c, r, e, hc⟩ := digits_first n.toNat
    have hne : c ≠ 45 := by
      rintro rfl
      exact absurd hc (by decide)
    have e2 : ((some c) == some (45 : UInt8)) = false := by
      rw [beq_eq_false_iff_ne]
      intro h
      injection h with h
      exact hne h
    have e3 := piN_digits (u := n.toNat) (by omega)
    rw [e] at e3 ⊢
    show (if ((some c) == some (45 : UInt8)) = true then -piN (strOf (if c = 45 then r else c :: r)) else piN (strOf (if c = 45 then r else c :: r))) = n
    rw [e2, if_neg (by decide), if_neg hne, e3]
    omega
theorem str_back (s : ByteArray) : strOf s.data.toList = s := strOf_data s
theorem itoa_ne (n : Int) : itoa n ≠ [] := by
  unfold itoa
  split
  · simp
  · exact digits_ne _
/-- A valid key is read back from its text. -/
theorem pk_fmt {k n : Int} {s : ByteArray} (h : keyB k n s = true) : pkOk (fmtK k n s) = true ∧ rkK (fmtK k n s) = k ∧ rkN (fmtK k n s) = n ∧ rkT (fmtK k n s) = s := by
  obtain ⟨h1, h2, h3, h4, h5⟩ := keyB_parts h
  have key : pkK (fmtK k n s).data.toList = k ∧ pkN (fmtK k n s).data.toList = n ∧ pkT (fmtK k n s).data.toList = s := by
    unfold fmtK
    rw [if_neg (by rw [h]; decide)]
    by_cases k1 : k = 1
    · rw [if_pos k1, strOf_toList]
      obtain rfl := h5 k1
      have := head_take (l := itoa n) (m := []) (itoa_noquote n) (.inl rfl)
      rw [List.append_nil] at this
      refine ⟨?_, pkN_itoa h2 this.1, ?_⟩
      · unfold pkK
        rw [if_pos this.2, k1]
      · unfold pkT
        rw [this.2]
        rfl
    · rw [if_neg k1]
      by_cases k2 : k = 2
      · rw [if_pos k2]
        obtain rfl := h4 k2
        have e : ((⟨#[39]⟩ : ByteArray) ++ s).data.toList = [] ++ 39 :: s.data.toList := by simp
        have := head_take (l := []) (m := 39 :: s.data.toList) (fun c hc => by cases hc) (.inr ⟨_, rfl⟩)
        rw [e]
        refine ⟨?_, ?_, ?_⟩
        · unfold pkK
          rw [this.2, if_neg (by simp), if_pos this.1, k2]
        · unfold pkN negA bodyA
          rw [this.1]
          show (if (none == some (45 : UInt8)) = true then _ else piN (strOf [])) = 0
          rw [if_neg (by decide), piN_nil]
        · unfold pkT
          rw [this.2]
          exact str_back s
      · rw [if_neg k2]
        have e : (strOf (itoa n) ++ (⟨#[39]⟩ : ByteArray) ++ s).data.toList = itoa n ++ 39 :: s.data.toList := by
          have h6 : (strOf (itoa n) ++ (⟨#[39]⟩ : ByteArray) ++ s).data.toList = (strOf (itoa n)).data.toList ++ [39] ++ s.data.toList := by simp
          rw [h6, strOf_toList]
          simp
        have := head_take (l := itoa n) (m := 39 :: s.data.toList) (itoa_noquote n) (.inr ⟨_, rfl⟩)
        rw [e]
        refine ⟨?_, pkN_itoa h2 this.1, ?_⟩
        · unfold pkK
          rw [this.2, if_neg (by simp), this.1, if_neg (itoa_ne n)]
          omega
        · unfold pkT
          rw [this.2]
          exact str_back s
  obtain ⟨e1, e2, e3⟩ := key
  have hok : pkOk (fmtK k n s) = true := by
    unfold pkOk
    rw [e1, e2, e3, h, Bool.true_and, decide_eq_true rfl]
  obtain ⟨r1, r2, r3⟩ := rk_yes hok
  exact ⟨hok, by rw [r1, e1], by rw [r2, e2], by rw [r3, e3]⟩
/-- Where a text spells a key, the key is valid and its text is that text. -/
theorem pk_back {s : ByteArray} (h : pkOk s = true) : keyB (rkK s) (rkN s) (rkT s) = true ∧ fmtK (rkK s) (rkN s) (rkT s) = s := by
  obtain ⟨r1, r2, r3⟩ := rk_yes h
  rw [r1, r2, r3]
  unfold pkOk at h
  simpa only [Bool.and_eq_true, decide_eq_true_eq] using h
end Go.Proofs.YtnbhdijmbpdgoaaDoor
