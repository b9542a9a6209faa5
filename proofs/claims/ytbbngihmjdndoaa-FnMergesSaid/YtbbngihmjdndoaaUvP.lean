/-
  Proved: the plain laws of varints: what is appended for a number, what is read back. No program is named. Conditions: those that each statement names.
  By an AI agent; no person has read it.
-/
import Derived.Test.YtbbngihmjdndoaaBase
import Derived.Laws.BitsAllLaws
import Derived.Laws.BitsLemmas
namespace Go.Proofs.Ytbbngihmjdndoaa
open Go.RowKit

/-- The varint of n, with fuel. -/
def uvarF : Nat → Nat → List UInt8
  | 0, _ => []
  | f + 1, n => if n < 128 then [UInt8.ofNat n] else UInt8.ofNat (n % 128 + 128) :: uvarF f (n / 128)
def uvar (n : Nat) : List UInt8 := uvarF (n + 1) n
theorem uvarF_fuel : ∀ (f g n : Nat), n < f → n < g → uvarF f n = uvarF g n
  | 0, _, _, h, _ => by omega
  | _, 0, _, _, h => by omega
  | f + 1, g + 1, n, h1, h2 => by
    simp only [uvarF]
    by_cases h : n < 128
    · rw [if_pos h, if_pos h]
    · rw [if_neg h, if_neg h, uvarF_fuel f g (n / 128) (by omega) (by omega)]
theorem uvar_small {n : Nat} (h : n < 128) : uvar n = [UInt8.ofNat n] := by simp [uvar, uvarF, h]
theorem uvar_big {n : Nat} (h : 128 ≤ n) : uvar n = UInt8.ofNat (n % 128 + 128) :: uvar (n / 128) := by
  unfold uvar
  rw [uvarF, if_neg (by omega), uvarF_fuel n (n / 128 + 1) (n / 128) (by omega) (by omega)]
theorem uvar_pos (n : Nat) : 0 < (uvar n).length := by
  by_cases h : n < 128
  · rw [uvar_small h]; simp
  · rw [uvar_big (by omega)]; simp
theorem uvar_len : ∀ (k n : Nat), n < 128 ^ k → 1 ≤ k → (uvar n).length ≤ k
  | 0, _, _, h => by omega
  | k + 1, n, h, _ => by
    by_cases hn : n < 128
    · rw [uvar_small hn]; simp
    · rw [uvar_big (by omega)]
      have hk : 1 ≤ k := by
        rcases Nat.eq_zero_or_pos k with h0 | h0
        · subst h0
          simp at h
          omega
        · exact h0
      have h2 : n / 128 < 128 ^ k := by
        rw [Nat.pow_succ] at h
        exact Nat.div_lt_of_lt_mul (by omega)
      have := uvar_len k (n / 128) h2 hk
      simp only [List.length_cons]
      omega
theorem uvar_len6 {n : Nat} (h : n ≤ 1000000000000) : (uvar n).length ≤ 6 := uvar_len 6 n (by omega) (by omega)

/-- What AppendUvarint gives. -/
def appU (l : List UInt8) (n : Int) : List UInt8 := if 0 ≤ n ∧ n ≤ 1000000000000 then l ++ uvar n.toNat else l
theorem appU_in (l : List UInt8) {n : Int} (h1 : 0 ≤ n) (h2 : n ≤ 1000000000000) : appU l n = l ++ uvar n.toNat := if_pos ⟨h1, h2⟩
theorem appU_out (l : List UInt8) {n : Int} (h : ¬ (0 ≤ n ∧ n ≤ 1000000000000)) : appU l n = l := if_neg h
theorem appU_len (l : List UInt8) (n : Int) : (appU l n).length ≤ l.length + 6 := by
  unfold appU
  split
  · rename_i h
    have := uvar_len6 (n := n.toNat) (by omega)
    simp
    omega
  · omega
theorem appU_nil_cat (l : List UInt8) (n : Int) : appU l n = l ++ appU [] n := by
  unfold appU
  split <;> simp

/-- Reading a varint: r is the rest behind i bytes that gave n; f is the fuel. -/
def readGo : Nat → Nat → Nat → List UInt8 → Option (Nat × Nat)
  | 0, _, _, _ => none
  | _ + 1, _, _, [] => none
  | f + 1, i, n, x :: r =>
    if x.toNat < 128 then
      if 0 < i ∧ x.toNat = 0 ∨ 1000000000000 < n + x.toNat * 128 ^ i then none else some (n + x.toNat * 128 ^ i, i + 1)
    else readGo f (i + 1) (n + (x.toNat - 128) * 128 ^ i) r
/-- ReadUvarint at a place: the number, the place behind it. -/
def readU (l : List UInt8) (at_ : Int) : Option (Nat × Nat) :=
  if 0 ≤ at_ ∧ at_ < l.length then (readGo 6 0 0 (l.drop at_.toNat)).map fun p => (p.1, at_.toNat + p.2) else none

theorem readGo_le : ∀ (f i n : Nat) (r : List UInt8) {m k : Nat}, readGo f i n r = some (m, k) → i < k ∧ k ≤ i + r.length ∧ m ≤ 1000000000000
  | 0, _, _, _, _, _, h => by simp [readGo] at h
  | f + 1, _, _, [], _, _, h => by simp [readGo] at h
  | f + 1, i, n, x :: r, m, k, h => by
    simp only [readGo] at h
    split at h
    · split at h
      · cases h
      · rename_i h1 h2
        simp only [Option.some.injEq, Prod.mk.injEq] at h
        simp only [List.length_cons]
        omega
    · have := readGo_le f (i + 1) _ r h
      simp only [List.length_cons]
      omega
theorem readU_le {l : List UInt8} {a : Int} {m k : Nat} (h : readU l a = some (m, k)) : 0 ≤ a ∧ a < k ∧ k ≤ l.length ∧ m ≤ 1000000000000 := by
  unfold readU at h
  split at h
  · rename_i h1
    rw [Option.map_eq_some_iff] at h
    obtain ⟨⟨m', k'⟩, h2, h3⟩ := h
    simp only [Prod.mk.injEq] at h3
    have := readGo_le _ _ _ _ h2
    rw [List.length_drop] at this
    omega
  · cases h

/-- What is read of a varint that was appended. -/
theorem readGo_uvar : ∀ (f i n m : Nat) (r : List UInt8), m < 128 ^ f → 1 ≤ f → (0 < i → 0 < m) → n + m * 128 ^ i ≤ 1000000000000 → readGo f i n (uvar m ++ r) = some (n + m * 128 ^ i, i + (uvar m).length)
  | 0, _, _, _, _, _, h, _, _ => by omega
  | f + 1, i, n, m, r, hm, _, hi, hb => by
    by_cases h : m < 128
    · rw [uvar_small h]
      have e : (UInt8.ofNat m).toNat = m := by rw [UInt8.toNat_ofNat']; omega
      simp only [List.cons_append, List.nil_append, readGo, e, if_pos h, List.length_cons, List.length_nil]
      rw [if_neg (by
        rintro (⟨h1, h2⟩ | h3)
        · have := hi h1; omega
        · omega)]
    · rw [uvar_big (by omega)]
      have e : (UInt8.ofNat (m % 128 + 128)).toNat = m % 128 + 128 := by rw [UInt8.toNat_ofNat']; omega
      simp only [List.cons_append, readGo, e, List.length_cons]
      rw [if_neg (by omega)]
      have hf : 1 ≤ f := by
        rcases Nat.eq_zero_or_pos f with h0 | h0
        · subst h0
          simp at hm
          omega
        · exact h0
      have h2 : m / 128 < 128 ^ f := by
        rw [Nat.pow_succ] at hm
        exact Nat.div_lt_of_lt_mul (by omega)
      have hsplit : m * 128 ^ i = (m % 128) * 128 ^ i + (m / 128) * 128 ^ (i + 1) := by
        rw [Nat.pow_succ, Nat.mul_comm (128 ^ i) 128, ← Nat.mul_assoc, ← Nat.add_mul]
        congr 1
        omega
      have hsub : m % 128 + 128 - 128 = m % 128 := by omega
      rw [hsub, readGo_uvar f (i + 1) _ (m / 128) r h2 hf (fun _ => by omega) (by omega)]
      simp only [Option.some.injEq, Prod.mk.injEq]
      omega
theorem readU_appU (l r : List UInt8) {n : Int} (h1 : 0 ≤ n) (h2 : n ≤ 1000000000000) : readU (l ++ uvar n.toNat ++ r) (l.length : Int) = some (n.toNat, l.length + (uvar n.toNat).length) := by
  have hp := uvar_pos n.toNat
  unfold readU
  rw [if_pos (by simp; omega)]
  have : (l ++ uvar n.toNat ++ r).drop ((l.length : Int)).toNat = uvar n.toNat ++ r := by simp
  rw [this, readGo_uvar 6 0 0 n.toNat r (by omega) (by omega) (by omega) (by omega)]
  simp

/-- One round of the reading, as the loop makes it. -/
theorem readGo_step {f i n : Nat} {l : List UInt8} {a : Nat} {x : UInt8} (hx : l[a]? = some x) : readGo (f + 1) i n (l.drop a) =
    if x.toNat < 128 then
      if 0 < i ∧ x.toNat = 0 ∨ 1000000000000 < n + x.toNat * 128 ^ i then none else some (n + x.toNat * 128 ^ i, i + 1)
    else readGo f (i + 1) (n + (x.toNat - 128) * 128 ^ i) (l.drop (a + 1)) := by
  obtain ⟨h, rfl⟩ := List.getElem?_eq_some_iff.1 hx
  rw [List.drop_eq_getElem_cons h]
  rfl
theorem readGo_end {f i n a : Nat} {l : List UInt8} (h : l.length ≤ a) : readGo f i n (l.drop a) = none := by
  rw [List.drop_eq_nil_of_le h]
  cases f <;> rfl

/-! ### bits of ints -/
theorem ofInt_i64 (a : Nat) (ha : a < 9223372036854775808) : (BitVec.ofInt 64 (a : Int)).toNat = a := by
  rw [BitVec.ofInt_natCast, BitVec.toNat_ofNat]; exact Nat.mod_eq_of_lt (by omega)
theorem i64_and_nat (a b : Nat) (ha : a < 9223372036854775808) (hb : b < 9223372036854775808) : bits .and .i64 (a : Int) (b : Int) = ((a &&& b : Nat) : Int) := by
  have hx : a &&& b < 2 ^ 63 := Nat.and_lt_two_pow _ (by omega)
  show IntKind.i64.wrap ((BitVec.ofInt 64 (a : Int) &&& BitVec.ofInt 64 (b : Int)).toNat : Int) = _
  rw [BitVec.toNat_and, ofInt_i64 a ha, ofInt_i64 b hb, IntKind.wrap_i64]
  omega
theorem i64_or_nat (a b : Nat) (ha : a < 9223372036854775808) (hb : b < 9223372036854775808) : bits .or .i64 (a : Int) (b : Int) = ((a ||| b : Nat) : Int) := by
  have hx : a ||| b < 2 ^ 63 := Nat.or_lt_two_pow (by omega) (by omega)
  show IntKind.i64.wrap ((BitVec.ofInt 64 (a : Int) ||| BitVec.ofInt 64 (b : Int)).toNat : Int) = _
  rw [BitVec.toNat_or, ofInt_i64 a ha, ofInt_i64 b hb, IntKind.wrap_i64]
  omega
theorem and127 (a : Nat) : a &&& 127 = a % 128 := by
  have := Nat.and_two_pow_sub_one_eq_mod a 7
  simpa using this
/-- n | y << 7i, where n lies below the place. -/
theorem or_shift {n y i : Nat} (h : n < 128 ^ i) : n ||| (y * 128 ^ i) = n + y * 128 ^ i := by
  have e : (128 : Nat) ^ i = 2 ^ (7 * i) := by rw [Nat.pow_mul]
  rw [e] at h ⊢
  rw [← Nat.shiftLeft_eq, Nat.or_comm, ← Nat.shiftLeft_add_eq_or_of_lt h, Nat.add_comm]
theorem or128 {a : Nat} (h : a < 128) : a ||| 128 = a + 128 := by
  have := or_shift (n := a) (y := 1) (i := 1) (by omega)
  simpa using this
end Go.Proofs.Ytbbngihmjdndoaa
