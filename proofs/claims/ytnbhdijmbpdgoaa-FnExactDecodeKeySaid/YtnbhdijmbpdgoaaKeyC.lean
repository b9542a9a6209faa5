/-
  Proved: plain facts on keys as bytes: six bytes and their number, a key's encoding, reading it. No program. Conditions: those that each statement names.
  By an AI agent; no person has read it.
-/
import Derived.Test.YtnbhdijmbpdgoaaKeyP
namespace Go.Proofs.Ytnbhdijmbpdgoaa
open Go.RowKit

/-- The six bytes of a number, the greatest first. -/
def be6 (m : Nat) : List UInt8 := [UInt8.ofNat (m / 1099511627776), UInt8.ofNat (m / 4294967296), UInt8.ofNat (m / 16777216), UInt8.ofNat (m / 65536), UInt8.ofNat (m / 256), UInt8.ofNat m]
def val6 (l : List UInt8) : Nat := l.foldl (fun n x => n * 256 + x.toNat) 0
theorem be6_len (m : Nat) : (be6 m).length = 6 := rfl
theorem six {l : List UInt8} (h : l.length = 6) : ∃ a b c d e f, l = [a, b, c, d, e, f] := by
  match l, h with
  | [a, b, c, d, e, f], _ => exact ⟨a, b, c, d, e, f, rfl⟩
theorem ofNat_eq {m : Nat} {x : UInt8} (h : m % 256 = x.toNat) : UInt8.ofNat m = x := by
  apply UInt8.toNat_inj.1
  rw [UInt8.toNat_ofNat', h]
theorem be6_val {l : List UInt8} (h : l.length = 6) : be6 (val6 l) = l := by
  obtain ⟨a, b, c, d, e, f, rfl⟩ := six h
  have ha := a.toNat_lt
  have hb := b.toNat_lt
  have hc := c.toNat_lt
  have hd := d.toNat_lt
  have he := e.toNat_lt
  have hf := f.toNat_lt
  simp only [be6, val6, List.foldl_cons, List.foldl_nil]
  rw [ofNat_eq (x := a) (by omega), ofNat_eq (x := b) (by omega), ofNat_eq (x := c) (by omega), ofNat_eq (x := d) (by omega), ofNat_eq (x := e) (by omega), ofNat_eq (x := f) (by omega)]
theorem val6_be6 {m : Nat} (h : m < 281474976710656) : val6 (be6 m) = m := by
  simp only [be6, val6, List.foldl_cons, List.foldl_nil, UInt8.toNat_ofNat']
  omega
theorem val6_lt {l : List UInt8} (h : l.length = 6) : val6 l < 281474976710656 := by
  obtain ⟨a, b, c, d, e, f, rfl⟩ := six h
  have ha := a.toNat_lt
  have hb := b.toNat_lt
  have hc := c.toNat_lt
  have hd := d.toNat_lt
  have he := e.toNat_lt
  have hf := f.toNat_lt
  simp only [val6, List.foldl_cons, List.foldl_nil]
  omega
theorem val6_step {l : List UInt8} {k : Nat} {x : UInt8} (hx : l[k]? = some x) : val6 (l.take (k + 1)) = val6 (l.take k) * 256 + x.toNat := by
  rw [take_snoc hx, val6, List.foldl_append]
  rfl
theorem be6_at {m j : Nat} (h : j < 6) : (be6 m)[j]? = some (UInt8.ofNat (m / 2 ^ (8 * (5 - j)))) := by
  rcases (by omega : j = 0 ∨ j = 1 ∨ j = 2 ∨ j = 3 ∨ j = 4 ∨ j = 5) with rfl | rfl | rfl | rfl | rfl | rfl <;> simp [be6]

theorem keyB_parts {k n : Int} {s : ByteArray} (h : keyB k n s = true) : (1 ≤ k ∧ k ≤ 3) ∧ (-1000000000000 ≤ n ∧ n ≤ 1000000000000) ∧ textB s.data.toList = true ∧ (k = 2 → n = 0) ∧ (k = 1 → s = ⟨#[]⟩) := by
  simp only [keyB, inR, Bool.and_eq_true, decide_eq_true_eq, Bool.not_eq_true', Bool.and_eq_false_iff, decide_eq_false_iff_not, Bool.not_eq_false'] at h
  obtain ⟨h1, h2, h3, h4, h5⟩ := h
  refine ⟨h1, h2, h3, fun e => ?_, fun e => ?_⟩
  · rcases h4 with h4 | h4
    · exact absurd e h4
    · exact h4
  · rcases h5 with h5 | h5
    · exact absurd e h5
    · exact h5
theorem textB_len {l : List UInt8} (h : textB l = true) : l.length ≤ 12 := by
  simp only [textB, Bool.and_eq_true, decide_eq_true_eq] at h
  exact h.2
theorem keyB_len {k n : Int} {s : ByteArray} (h : keyB k n s = true) : s.size ≤ 12 := by
  have := textB_len (keyB_parts h).2.2.1
  rwa [str_len] at this

/-- A key's encoding. -/
def encK (k n : Int) (s : ByteArray) : List UInt8 := if keyB k n s = true then UInt8.ofNat k.toNat :: ((if k = 2 then [] else be6 (n + 1000000000000).toNat) ++ s.data.toList) else []
theorem encK_out {k n : Int} {s : ByteArray} (h : keyB k n s = false) : encK k n s = [] := by
  unfold encK
  rw [h]
  rfl
theorem encK_two {k n : Int} {s : ByteArray} (h : keyB k n s = true) (h2 : k = 2) : encK k n s = UInt8.ofNat k.toNat :: s.data.toList := by
  unfold encK
  rw [if_pos h, if_pos h2]
  rfl
theorem encK_num {k n : Int} {s : ByteArray} (h : keyB k n s = true) (h2 : ¬ k = 2) : encK k n s = UInt8.ofNat k.toNat :: (be6 (n + 1000000000000).toNat ++ s.data.toList) := by
  unfold encK
  rw [if_pos h, if_neg h2]
theorem encK_len (k n : Int) (s : ByteArray) : (encK k n s).length ≤ 19 := by
  cases h : keyB k n s
  · rw [encK_out h]
    simp
  · have h1 := keyB_len h
    have h3 := str_len s
    by_cases h2 : k = 2
    · rw [encK_two h h2]
      simp only [List.length_cons]
      omega
    · rw [encK_num h h2]
      simp only [List.length_cons, List.length_append, be6_len]
      omega

/-- The key that bytes stand for. -/
def decK (l : List UInt8) : Option (Int × Int × ByteArray) :=
  match l with
  | [] => none
  | x :: r =>
    if x.toNat = 2 then (if keyB 2 0 ⟨r.toArray⟩ = true then some (2, 0, ⟨r.toArray⟩) else none)
    else if r.length < 6 then none
    else if keyB x.toNat (val6 (r.take 6) - 1000000000000) ⟨(r.drop 6).toArray⟩ = true then some (x.toNat, val6 (r.take 6) - 1000000000000, ⟨(r.drop 6).toArray⟩) else none
theorem str_of_list (l : List UInt8) : (⟨l.toArray⟩ : ByteArray).data.toList = l := by simp
theorem enc_two {x : UInt8} {r : List UInt8} (hx : x.toNat = 2) (h : keyB 2 0 ⟨r.toArray⟩ = true) : encK 2 0 ⟨r.toArray⟩ = x :: r := by
  rw [encK_two h rfl, str_of_list]
  congr 1
  exact ofNat_eq (by rw [hx]; rfl)
theorem enc_num {x : UInt8} {r : List UInt8} (hx : ¬ x.toNat = 2) (hr : 6 ≤ r.length) (h : keyB x.toNat (val6 (r.take 6) - 1000000000000) ⟨(r.drop 6).toArray⟩ = true) :
    encK x.toNat (val6 (r.take 6) - 1000000000000) ⟨(r.drop 6).toArray⟩ = x :: r := by
  rw [encK_num h (by omega), str_of_list, show ((val6 (r.take 6) : Int) - 1000000000000 + 1000000000000).toNat = val6 (r.take 6) by omega, be6_val (by rw [List.length_take]; omega), List.take_append_drop]
  congr 1
  have := x.toNat_lt
  exact ofNat_eq (by rw [Int.toNat_natCast]; omega)
theorem enc_ne {k n : Int} {s : ByteArray} {x : UInt8} {r : List UInt8} (h : keyB k n s = false) : ¬ encK k n s = x :: r := by
  rw [encK_out h]
  simp
theorem decK_some {l : List UInt8} {k n : Int} {s : ByteArray} (h : decK l = some (k, n, s)) : keyB k n s = true ∧ encK k n s = l := by
  unfold decK at h
  split at h
  · cases h
  · rename_i x r
    split at h
    · rename_i hx
      split at h
      · rename_i hk
        simp only [Option.some.injEq, Prod.mk.injEq] at h
        obtain ⟨rfl, rfl, rfl⟩ := h
        exact ⟨hk, enc_two hx hk⟩
      · cases h
    · rename_i hx
      split at h
      · cases h
      · rename_i hr
        split at h
        · rename_i hk
          simp only [Option.some.injEq, Prod.mk.injEq] at h
          obtain ⟨rfl, rfl, rfl⟩ := h
          exact ⟨hk, enc_num hx (by omega) hk⟩
        · cases h
theorem dec_enc_key {k n : Int} {s : ByteArray} (h : keyB k n s = true) : decK (encK k n s) = some (k, n, s) := by
  obtain ⟨h1, h2, h3, h4, h5⟩ := keyB_parts h
  have hs : (⟨s.data.toList.toArray⟩ : ByteArray) = s := by simp
  have hk : (UInt8.ofNat k.toNat).toNat = k.toNat := by rw [UInt8.toNat_ofNat']; omega
  by_cases h6 : k = 2
  · obtain rfl := h4 h6
    subst h6
    rw [encK_two h rfl]
    simp only [decK, hs, h]
    simp
  · rw [encK_num h h6]
    have e1 : (be6 (n + 1000000000000).toNat ++ s.data.toList).take 6 = be6 (n + 1000000000000).toNat := List.take_left' rfl
    have e2 : (be6 (n + 1000000000000).toNat ++ s.data.toList).drop 6 = s.data.toList := List.drop_left' rfl
    have e3 : (val6 (be6 (n + 1000000000000).toNat) : Int) - 1000000000000 = n := by rw [val6_be6 (by omega)]; omega
    have e4 : ((k.toNat : Nat) : Int) = k := by omega
    simp only [decK, hk, e1, e2, e3, e4, hs, h]
    rw [if_neg (by omega), if_neg (by simp [be6_len])]
    exact if_pos trivial
end Go.Proofs.Ytnbhdijmbpdgoaa
