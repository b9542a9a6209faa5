/-
  Proved, of no program: the encodings of keys are ordered like the keys; the order of keys is antisymmetric and transitive, and equal keys alone compare equal. Conditions: the keys are valid, where a statement names them.
  By an AI agent; no person has read it.
-/
import Derived.Test.YtnbhdijmbpdgoaaDoorKeyK
namespace Go.Proofs.YtnbhdijmbpdgoaaDoor
open Go.RowKit

theorem cmpB_cons (a b : UInt8) (x y : List UInt8) : Lib.compareBytes (a :: x) (b :: y) = if a < b then -1 else if b < a then 1 else Lib.compareBytes x y := rfl
theorem cmpB_anti : ∀ x y : List UInt8, Lib.compareBytes y x = - Lib.compareBytes x y
  | [], [] => rfl
  | [], _ :: _ => rfl
  | _ :: _, [] => rfl
  | a :: x, b :: y => by
    rw [cmpB_cons, cmpB_cons, cmpB_anti x y]
    rcases Nat.lt_trichotomy a.toNat b.toNat with h | h | h
    · rw [if_neg (by rw [UInt8.lt_iff_toNat_lt]; omega), if_pos (UInt8.lt_iff_toNat_lt.2 h), if_pos (UInt8.lt_iff_toNat_lt.2 h)]
      rfl
    · rw [if_neg (by rw [UInt8.lt_iff_toNat_lt]; omega), if_neg (by rw [UInt8.lt_iff_toNat_lt]; omega), if_neg (by rw [UInt8.lt_iff_toNat_lt]; omega), if_neg (by rw [UInt8.lt_iff_toNat_lt]; omega)]
    · rw [if_pos (UInt8.lt_iff_toNat_lt.2 h), if_neg (by rw [UInt8.lt_iff_toNat_lt]; omega), if_pos (UInt8.lt_iff_toNat_lt.2 h)]
theorem cmpB_zero : ∀ {x y : List UInt8}, Lib.compareBytes x y = 0 → x = y
  | [], [], _ => rfl
  | [], _ :: _, h => by cases h
  | _ :: _, [], h => by cases h
  | a :: x, b :: y, h => by
    rw [cmpB_cons] at h
    split at h
    · cases h
    · rename_i h1
      split at h
      · cases h
      · rename_i h2
        rw [UInt8.lt_iff_toNat_lt] at h1 h2
        have e : a = b := UInt8.toNat_inj.1 (by omega)
        rw [e, cmpB_zero h]
theorem cmpB_trans : ∀ {x y z : List UInt8}, Lib.compareBytes x y ≤ 0 → Lib.compareBytes y z ≤ 0 → Lib.compareBytes x z ≤ 0
  | [], _, [], _, _ => by decide
  | [], _, _ :: _, _, _ => by show (-1 : Int) ≤ 0; omega
  | _ :: _, [], _, h, _ => by exact absurd h (by show ¬ (1 : Int) ≤ 0; omega)
  | _ :: _, _ :: _, [], _, h => by exact absurd h (by show ¬ (1 : Int) ≤ 0; omega)
  | a :: x, b :: y, c :: z, h1, h2 => by
    rw [cmpB_cons] at h1 h2 ⊢
    simp only [UInt8.lt_iff_toNat_lt] at h1 h2 ⊢
    by_cases e1 : a.toNat < c.toNat
    · rw [if_pos e1]; omega
    · rw [if_neg e1]
      have k1 : ¬ b.toNat < a.toNat := by
        intro hh
        rw [if_neg (by omega), if_pos hh] at h1
        omega
      have k2 : ¬ c.toNat < b.toNat := by
        intro hh
        rw [if_neg (by omega), if_pos hh] at h2
        omega
      rw [if_neg (by omega), if_neg k1] at h1
      rw [if_neg (by omega), if_neg k2] at h2
      rw [if_neg (by omega)]
      exact cmpB_trans h1 h2

theorem val_lt : ∀ {l m : List UInt8} {a b : Nat}, l.length = m.length → a < b → l.foldl (fun n x => n * 256 + x.toNat) a < m.foldl (fun n x => n * 256 + x.toNat) b
  | [], [], a, b, _, h => h
  | [], _ :: _, _, _, h, _ => by cases h
  | _ :: _, [], _, _, h, _ => by cases h
  | x :: l, y :: m, a, b, h, hab => by
    rw [List.foldl_cons, List.foldl_cons]
    have hx := x.toNat_lt
    exact val_lt (by simpa using h) (by omega)
theorem cmpB_val : ∀ {l m : List UInt8} (a : Nat), l.length = m.length → Lib.compareBytes l m = cmpI (l.foldl (fun n x => n * 256 + x.toNat) a : Nat) (m.foldl (fun n x => n * 256 + x.toNat) a : Nat)
  | [], [], a, _ => (cmpI_eq _).symm
  | [], _ :: _, _, h => by cases h
  | _ :: _, [], _, h => by cases h
  | x :: l, y :: m, a, h => by
    have hl : l.length = m.length := by simpa using h
    rw [cmpB_cons, List.foldl_cons, List.foldl_cons]
    rcases Nat.lt_trichotomy x.toNat y.toNat with e | e | e
    · rw [if_pos (UInt8.lt_iff_toNat_lt.2 e), cmpI_lt]
      have := val_lt (a := a * 256 + x.toNat) (b := a * 256 + y.toNat) hl (by omega)
      omega
    · rw [if_neg (by rw [UInt8.lt_iff_toNat_lt]; omega), if_neg (by rw [UInt8.lt_iff_toNat_lt]; omega), ← e]
      exact cmpB_val _ hl
    · rw [if_neg (by rw [UInt8.lt_iff_toNat_lt]; omega), if_pos (UInt8.lt_iff_toNat_lt.2 e), cmpI_gt]
      have := val_lt (a := a * 256 + y.toNat) (b := a * 256 + x.toNat) hl.symm (by omega)
      omega
theorem cmpB_be6 {m n : Nat} (hm : m < 281474976710656) (hn : n < 281474976710656) : Lib.compareBytes (be6 m) (be6 n) = cmpI m n := by
  have h := cmpB_val (l := be6 m) (m := be6 n) 0 rfl
  have h1 : val6 (be6 m) = m := val6_be6 hm
  have h2 : val6 (be6 n) = n := val6_be6 hn
  unfold val6 at h1 h2
  rw [h, h1, h2]
theorem cmpB_app : ∀ {l m : List UInt8} (s t : List UInt8), l.length = m.length → Lib.compareBytes (l ++ s) (m ++ t) = if Lib.compareBytes l m = 0 then Lib.compareBytes s t else Lib.compareBytes l m
  | [], [], s, t, _ => (if_pos rfl).symm
  | [], _ :: _, _, _, h => by cases h
  | _ :: _, [], _, _, h => by cases h
  | x :: l, y :: m, s, t, h => by
    rw [List.cons_append, List.cons_append, cmpB_cons, cmpB_cons]
    by_cases h1 : x < y
    · rw [if_pos h1, if_pos h1]; rfl
    · rw [if_neg h1, if_neg h1]
      by_cases h2 : y < x
      · rw [if_pos h2, if_pos h2]; rfl
      · rw [if_neg h2, if_neg h2]
        exact cmpB_app s t (by simpa using h)
theorem cmpI_zero {a b : Int} : cmpI a b = 0 ↔ a = b := by
  unfold cmpI
  split
  · constructor
    · intro h; cases h
    · intro h; omega
  · split
    · constructor
      · intro h; cases h
      · intro h; omega
    · exact ⟨fun _ => by omega, fun _ => rfl⟩
theorem cmpI_add {a b : Int} (c : Int) : cmpI (a + c) (b + c) = cmpI a b := by
  unfold cmpI
  by_cases h : a < b
  · rw [if_pos h, if_pos (by omega)]
  · rw [if_neg h, if_neg (by omega)]
    by_cases h2 : b < a
    · rw [if_pos h2, if_pos (by omega)]
    · rw [if_neg h2, if_neg (by omega)]

/-- The encodings are ordered like the keys. -/
theorem cmp_enc {k n : Int} {s : ByteArray} {k2 n2 : Int} {s2 : ByteArray} (h : keyB k n s = true) (h2 : keyB k2 n2 s2 = true) : cmpK k n s k2 n2 s2 = Lib.compareBytes (encK k n s) (encK k2 n2 s2) := by
  obtain ⟨a1, a2, a3, a4, a5⟩ := keyB_parts h
  obtain ⟨b1, b2, b3, b4, b5⟩ := keyB_parts h2
  unfold cmpK
  rw [if_pos ⟨h, h2⟩]
  have e1 : (UInt8.ofNat k.toNat).toNat = k.toNat := by rw [UInt8.toNat_ofNat']; omega
  have e2 : (UInt8.ofNat k2.toNat).toNat = k2.toNat := by rw [UInt8.toNat_ofNat']; omega
  by_cases hk : k = k2
  · subst hk
    rw [if_pos rfl]
    by_cases hk2 : k = 2
    · rw [a4 hk2] at h ⊢
      rw [b4 hk2] at h2 ⊢
      rw [if_pos rfl, encK_two h hk2, encK_two h2 hk2, cmpB_cons, if_neg (UInt8.lt_irrefl _), if_neg (UInt8.lt_irrefl _)]
    · rw [encK_num h hk2, encK_num h2 hk2, cmpB_cons, if_neg (UInt8.lt_irrefl _), if_neg (UInt8.lt_irrefl _), cmpB_app (l := be6 (n + 1000000000000).toNat) (m := be6 (n2 + 1000000000000).toNat) _ _ rfl, cmpB_be6 (by omega) (by omega)]
      have e3 : (((n + 1000000000000).toNat : Nat) : Int) = n + 1000000000000 := by omega
      have e4 : (((n2 + 1000000000000).toNat : Nat) : Int) = n2 + 1000000000000 := by omega
      rw [e3, e4, cmpI_add]
      by_cases hn : n = n2
      · rw [if_pos hn, if_pos (cmpI_zero.2 hn)]
      · rw [if_neg hn, if_neg (fun e => hn (cmpI_zero.1 e))]
  · rw [if_neg hk]
    have e5 : ∀ r r2 : List UInt8, Lib.compareBytes (UInt8.ofNat k.toNat :: r) (UInt8.ofNat k2.toNat :: r2) = cmpI k k2 := by
      intro r r2
      rw [cmpB_cons]
      simp only [UInt8.lt_iff_toNat_lt, e1, e2]
      rcases (by omega : k < k2 ∨ k2 < k) with e | e
      · rw [if_pos (by omega), cmpI_lt e]
      · rw [if_neg (by omega), if_pos (by omega), cmpI_gt e]
    by_cases hk2 : k = 2
    · rw [encK_two h hk2, encK_num h2 (by omega)]
      exact (e5 _ _).symm
    · by_cases hk3 : k2 = 2
      · rw [encK_num h hk2, encK_two h2 hk3]
        exact (e5 _ _).symm
      · rw [encK_num h hk2, encK_num h2 hk3]
        exact (e5 _ _).symm
theorem enc_inj {k n : Int} {s : ByteArray} {k2 n2 : Int} {s2 : ByteArray} (h : keyB k n s = true) (h2 : keyB k2 n2 s2 = true) (he : encK k n s = encK k2 n2 s2) : k = k2 ∧ n = n2 ∧ s = s2 := by
  have e1 := dec_enc_key h
  have e2 := dec_enc_key h2
  rw [he, e2] at e1
  simp only [Option.some.injEq, Prod.mk.injEq] at e1
  exact ⟨e1.1.symm, e1.2.1.symm, e1.2.2.symm⟩
theorem cmpK_anti {k n : Int} {s : ByteArray} {k2 n2 : Int} {s2 : ByteArray} (h : keyB k n s = true) (h2 : keyB k2 n2 s2 = true) : cmpK k2 n2 s2 k n s = - cmpK k n s k2 n2 s2 := by
  rw [cmp_enc h h2, cmp_enc h2 h, cmpB_anti]
theorem cmpK_zero {k n : Int} {s : ByteArray} {k2 n2 : Int} {s2 : ByteArray} (h : keyB k n s = true) (h2 : keyB k2 n2 s2 = true) : cmpK k n s k2 n2 s2 = 0 ↔ (k = k2 ∧ n = n2 ∧ s = s2) := by
  rw [cmp_enc h h2]
  constructor
  · intro e
    exact enc_inj h h2 (cmpB_zero e)
  · rintro ⟨rfl, rfl, rfl⟩
    exact cmp_self _
theorem cmpK_trans {k n : Int} {s : ByteArray} {k2 n2 : Int} {s2 : ByteArray} {k3 n3 : Int} {s3 : ByteArray} (h : keyB k n s = true) (h2 : keyB k2 n2 s2 = true) (h3 : keyB k3 n3 s3 = true)
    (ha : cmpK k n s k2 n2 s2 ≤ 0) (hb : cmpK k2 n2 s2 k3 n3 s3 ≤ 0) : cmpK k n s k3 n3 s3 ≤ 0 := by
  rw [cmp_enc h h2] at ha
  rw [cmp_enc h2 h3] at hb
  rw [cmp_enc h h3]
  exact cmpB_trans ha hb
end Go.Proofs.YtnbhdijmbpdgoaaDoor
