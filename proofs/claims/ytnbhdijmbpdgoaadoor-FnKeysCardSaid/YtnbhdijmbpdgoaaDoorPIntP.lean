/-
  Proved, of no program: what a numeral without leading zeros is, and that Go's Atoi reads it. Conditions: none.
  By an AI agent; no person has read it.
-/
import Derived.Test.YtnbhdijmbpdgoaaDoorTypes
import Derived.Lib.ItoaNum
import Derived.Lib.AtoiAll
import Derived.Lib.AtoiTie
namespace Go.Proofs.YtnbhdijmbpdgoaaDoor
open Go.Lib

/-- The number that a text spells as FormatInt would spell it; none beyond 10^12 or where it does not. -/
def intV (l : List UInt8) : Option Nat :=
  match decNat l with
  | some n => if n ≤ 1000000000000 ∧ decDigits n = l then some n else none
  | none => none
theorem decFrom_snoc : ∀ (l : List UInt8) (acc n : Nat) (b : UInt8) (d : Nat), decFrom acc l = some n → digitVal b = some d → decFrom acc (l ++ [b]) = some (n * 10 + d)
  | [], acc, n, b, d, h, hd => by
    simp only [decFrom, Option.some.injEq] at h
    subst h
    simp [decFrom, hd]
  | a :: t, acc, n, b, d, h, hd => by
    simp only [List.cons_append, decFrom] at h ⊢
    cases ha : digitVal a with
    | none => rw [ha] at h; cases h
    | some e =>
      rw [ha] at h
      exact decFrom_snoc t _ n b d h hd
theorem digit_of {d : Nat} (h : d < 10) : digitVal (UInt8.ofNat (48 + d)) = some d := by
  have e : (UInt8.ofNat (48 + d)).toNat = 48 + d := by
    rw [UInt8.toNat_ofNat']
    omega
  unfold digitVal
  rw [e, if_pos (by omega)]
  congr 1
  omega
theorem dec_digits (u : Nat) : decFrom 0 (decDigits u) = some u := by
  induction u using Nat.strongRecOn with
  | _ u ih =>
    rw [decDigits]
    by_cases h : u < 10
    · rw [dif_pos h]
      show (match digitVal (UInt8.ofNat (48 + u)) with | some d => decFrom (0 * 10 + d) [] | none => none) = some u
      rw [digit_of h]
      simp [decFrom]
    · rw [dif_neg h, decFrom_snoc _ _ _ _ _ (ih (u / 10) (by omega)) (digit_of (by omega))]
      congr 1
      omega
theorem digits_ne (u : Nat) : decDigits u ≠ [] := by
  rw [decDigits]
  split <;> simp
theorem decNat_digits (u : Nat) : decNat (decDigits u) = some u := by
  unfold decNat
  rw [if_neg (by simp [digits_ne]), dec_digits]
theorem intV_digits {n : Nat} (h : n ≤ 1000000000000) : intV (decDigits n) = some n := by
  unfold intV
  rw [decNat_digits]
  exact if_pos ⟨h, rfl⟩
theorem intV_some {l : List UInt8} {n : Nat} (h : intV l = some n) : n ≤ 1000000000000 ∧ l = decDigits n := by
  unfold intV at h
  split at h
  · split at h
    · rename_i hh
      simp only [Option.some.injEq] at h
      subst h
      exact ⟨hh.1, hh.2.symm⟩
    · cases h
  · cases h
theorem digits_len {n : Nat} (h : n ≤ 1000000000000) : 1 ≤ (decDigits n).length ∧ (decDigits n).length ≤ 13 := by
  rw [decDigits_length]
  refine ⟨nDigits_pos n, ?_⟩
  rcases Nat.lt_or_ge (nDigits n) 14 with h1 | h1
  · omega
  · exfalso
    obtain ⟨k, hk⟩ : ∃ k, nDigits n = k + 1 := ⟨nDigits n - 1, by omega⟩
    have key : ∀ (j u : Nat), nDigits u = j + 1 → 0 < j → 10 ^ j ≤ u := by
      intro j
      induction j with
      | zero => intro u _ h; omega
      | succ j ih =>
        intro u hu _
        have hb : ¬ u < 10 := by
          intro hs
          rw [nDigits_small hs] at hu
          omega
        rw [nDigits_big hb] at hu
        rcases Nat.eq_zero_or_pos j with h0 | h0
        · subst h0
          omega
        · have := ih (u / 10) (by omega) h0
          rw [Nat.pow_succ]
          omega
    have h2 := key k n hk (by omega)
    have h3 : 10 ^ 13 ≤ 10 ^ k := Nat.pow_le_pow_right (by decide) (by omega)
    have e : (10 : Nat) ^ 13 = 10000000000000 := by decide
    omega
theorem digits_first (n : Nat) : ∃ c r, decDigits n = c :: r ∧ 48 ≤ c.toNat := by
  cases h : decDigits n with
  | nil => exact absurd h (digits_ne n)
  | cons c r =>
    refine ⟨c, r, rfl, ?_⟩
    have := dec_digits n
    rw [h] at this
    obtain ⟨d, hd⟩ := digit_of_decFrom _ _ _ this 0 c rfl
    exact (digitVal_eq hd).1
theorem atoiAll_digits {n : Nat} (h : n ≤ 1000000000000) : atoiAll (decDigits n) = .ok (n : Int) := by
  rw [atoiAll_short _ (by have := (digits_len h).2; omega)]
  obtain ⟨c, r, e, hc⟩ := digits_first n
  have hv := decNat_digits n
  rw [e] at hv ⊢
  have h1 : (c == 45) = false := by
    rw [beq_eq_false_iff_ne]
    rintro rfl
    exact absurd hc (by decide)
  have h2 : (c == 43) = false := by
    rw [beq_eq_false_iff_ne]
    rintro rfl
    exact absurd hc (by decide)
  simp only [atoi, h1, h2, hv]
  rfl
/-- What Atoi's answer says of it: it is the number, or the text is no such numeral. -/
theorem intV_ok {l : List UInt8} {v : Int} (h : atoiAll l = .ok v) : intV l = if (0 ≤ v ∧ v ≤ 1000000000000) ∧ itoa v = l then some v.toNat else none := by
  by_cases hc : (0 ≤ v ∧ v ≤ 1000000000000) ∧ itoa v = l
  · rw [if_pos hc]
    obtain ⟨⟨h0, h1⟩, h2⟩ := hc
    unfold itoa at h2
    rw [if_neg (by omega)] at h2
    rw [← h2]
    exact intV_digits (by omega)
  · rw [if_neg hc]
    cases hi : intV l with
    | none => rfl
    | some n =>
      exfalso
      obtain ⟨h1, rfl⟩ := intV_some hi
      rw [atoiAll_digits h1] at h
      simp only [NumEnd.ok.injEq] at h
      subst h
      apply hc
      refine ⟨by omega, ?_⟩
      unfold itoa
      rw [if_neg (by omega)]
      simp
theorem intV_bad {l : List UInt8} (h : ∀ v, atoiAll l ≠ .ok v) : intV l = none := by
  cases hi : intV l with
  | none => rfl
  | some n =>
    obtain ⟨h1, rfl⟩ := intV_some hi
    exact absurd (atoiAll_digits h1) (h _)
/-- What the digits' loop says of it. -/
theorem intV_dec {l : List UInt8} {n : Nat} (h : decFrom 0 l = some n) (hl : 1 ≤ l.length) : intV l = if n ≤ 1000000000000 ∧ decDigits n = l then some n else none := by
  unfold intV decNat
  rw [if_neg (by cases l <;> simp at hl ⊢), h]
theorem intV_len {l : List UInt8} (h : ¬ (1 ≤ l.length ∧ l.length ≤ 13)) : intV l = none := by
  cases hi : intV l with
  | none => rfl
  | some n =>
    obtain ⟨h1, rfl⟩ := intV_some hi
    exact absurd (digits_len h1) h
theorem intV_nodigit {l : List UInt8} {k : Nat} {b : UInt8} (h : l[k]? = some b) (hd : digitVal b = none) : intV l = none := by
  cases hi : intV l with
  | none => rfl
  | some n =>
    obtain ⟨h1, rfl⟩ := intV_some hi
    obtain ⟨d, hd'⟩ := digit_of_decFrom _ _ _ (dec_digits n) k b h
    rw [hd] at hd'
    cases hd'
end Go.Proofs.YtnbhdijmbpdgoaaDoor
