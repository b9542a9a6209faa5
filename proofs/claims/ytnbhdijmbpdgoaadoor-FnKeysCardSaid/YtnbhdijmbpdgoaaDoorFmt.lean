/-
  Proved: the reference's FormatInt returns the decimal numeral of its argument, for every int. Conditions: none.
  By an AI agent; no person has read it.
-/
import Derived.Test.YtnbhdijmbpdgoaaDoorStr
import Derived.Laws.Concat
import Derived.Deep.RegionHeld3
import Derived.Lib.ItoaNum
namespace Go.Proofs.YtnbhdijmbpdgoaaDoor
open Go.RowKit

/-- The digits of a number ahead of a text, with fuel. -/
def digsD : Nat → Nat → ByteArray → ByteArray
  | 0, _, out => out
  | f + 1, k, out => if k = 0 then out else digsD f (k / 10) (strOf [UInt8.ofNat (48 + k % 10)] ++ out)
theorem digsD_eq : ∀ (f k : Nat) (out : ByteArray), 0 < k → k ≤ f → digsD f k out = strOf (Lib.decDigits k) ++ out
  | 0, k, out, h0, h1 => by omega
  | f + 1, k, out, h0, h1 => by
    rw [digsD, if_neg (by omega), Lib.decDigits]
    by_cases h : k < 10
    · rw [dif_pos h, show k / 10 = 0 by omega, show k % 10 = k by omega]
      cases f <;> simp [digsD]
    · rw [dif_neg h, digsD_eq f (k / 10) _ (by omega) (by omega)]
      apply ByteArray.ext
      simp [strOf]
theorem alT {a w : World} {o : Obj} (h : Below a.heap.size a w) : Below a.heap.size a (w.alloc o) := h.alloc h.size o
theorem catD_size (a b : ByteArray) : (a ++ b).size = a.size + b.size := ByteArray.size_append
theorem catD_nil (a : ByteArray) : a ++ (⟨#[]⟩ : ByteArray) = a := by
  apply ByteArray.ext
  simp

set_option maxRecDepth 100000 in
theorem specFormatInt_pos (k : Nat) (w : World) (h0 : 0 < k) (h1 : k ≤ 9223372036854775807) :
    Calls Tryd.prog 21 #[.int .i64 (k : Int)] w fun e w' => e = .returned (.string (strOf (Lib.decDigits k))) ∧ Below w.heap.size w w' := by
  go_enter Tryd.func21, Tryd.ntmps21
  go_wp2
  go_loopw [3, 4, 5] (fun o v _ wr => ∃ (j f : Nat) (out : ByteArray), v = .int .i64 (j : Int) ∧ o = .string out ∧ j ≤ f ∧ digsD f j out = digsD k k ⟨#[]⟩ ∧ out.size + j ≤ k ∧ Below w.heap.size w wr) (fun _ v _ _ => (intOf v).toNat)
  case atStart => exact ⟨k, k, ⟨#[]⟩, rfl, rfl, Nat.le_refl _, rfl, by simp [ByteArray.size], Below.refl _ _⟩
  case round =>
    obtain ⟨j, f, out, rfl, rfl, hjf, hd, hs, hbel⟩ := hrel
    have HD := Lib.hid hd
    clear hd
    by_cases hj : 0 < j
    · obtain ⟨f, rfl⟩ : ∃ f', f = f' + 1 := ⟨f - 1, by omega⟩
      obtain ⟨D, hDe⟩ : ∃ D, D = strOf [UInt8.ofNat (48 + j % 10)] := ⟨_, rfl⟩
      have hD1 : D.size = 1 := by rw [hDe, strOf_size]; rfl
      have hcv : (convert 28 9 (.slice (some ⟨wr.heap.size, 0, none⟩) 1 1)).run Tryd.prog (wr.alloc (.cells #[.int .u8 (48 + (j : Int) % 10)] 5)) = .ok (.string D) (wr.alloc (.cells #[.int .u8 (48 + (j : Int) % 10)] 5)) := by
        rw [hDe]
        refine run_str_of _ _ _ 5 _ _ _ _ Tryd.underlying28 Tryd.underlying5 Tryd.underlying9 ⟨by simp, fun _ => ⟨_, _, rfl, by simp, fun i u hu => ?_⟩⟩
        match i, hu with
        | 0, hu =>
          simp only [List.map_cons, List.map_nil, List.getElem?_cons_zero, Option.some.injEq] at hu
          subst hu
          simp [bv]
          omega
      have hsum : D.size + out.size ≤ 9223372036854775807 := by omega
      have HN : Hid (digsD f (j / 10) (D ++ out) = digsD k k ⟨#[]⟩) := by
        have := HD.out
        rw [digsD, if_neg (by omega), ← hDe] at this
        exact this
      have hsz2 : (D ++ out).size + j / 10 ≤ k := by rw [catD_size]; omega
      have HZ := Lib.hid hsz2
      clear hsz2 hD1 hDe HD
      go_wp2
      go_roundw
      case rel => exact ⟨j / 10, f, _, by go_num, rfl, by omega, HN.out, HZ.out, alT hbel⟩
      case measure => simp [intOf]; omega
    · obtain rfl : j = 0 := by omega
      have HN : Hid (digsD k k ⟨#[]⟩ = out) := by
        have := HD.out
        cases f with
        | zero => exact this.symm
        | succ f => rw [digsD, if_pos rfl] at this; exact this.symm
      go_wp2
      go_ret
      exact ⟨ret_str (by rw [← HN.out, digsD_eq k k _ h0 (Nat.le_refl _), catD_nil]), hbel⟩
set_option maxRecDepth 100000 in
theorem specFormatInt_neg (k : Nat) (w : World) (h0 : 0 < k) (h1 : k ≤ 9223372036854775808) :
    Calls Tryd.prog 21 #[.int .i64 (-(k : Int))] w fun e w' => e = .returned (.string (strOf (45 :: Lib.decDigits k))) ∧ Below w.heap.size w w' := by
  go_enter Tryd.func21, Tryd.ntmps21
  go_wp2
  go_loopw [3, 4, 5] (fun o v _ wr => ∃ (j f : Nat) (out : ByteArray), v = .int .i64 (-(j : Int)) ∧ o = .string out ∧ j ≤ f ∧ digsD f j out = digsD k k ⟨#[]⟩ ∧ (out.size * 2 + j ≤ k + 1 ∨ (j = 0 ∧ out.size * 2 ≤ k + 2)) ∧ Below w.heap.size w wr) (fun _ v _ _ => (intOf v).natAbs)
  case atStart => exact ⟨k, k, ⟨#[]⟩, rfl, rfl, Nat.le_refl _, rfl, Or.inl (by simp [ByteArray.size]), Below.refl _ _⟩
  case round =>
    obtain ⟨j, f, out, rfl, rfl, hjf, hd, hs, hbel⟩ := hrel
    have HD := Lib.hid hd
    clear hd
    by_cases hj : 0 < j
    · obtain ⟨f, rfl⟩ : ∃ f', f = f' + 1 := ⟨f - 1, by omega⟩
      obtain ⟨D, hDe⟩ : ∃ D, D = strOf [UInt8.ofNat (48 + j % 10)] := ⟨_, rfl⟩
      have hD1 : D.size = 1 := by rw [hDe, strOf_size]; rfl
      have hcv0 : ∀ z : Int, z = 48 + (j : Int) % 10 → (convert 28 9 (.slice (some ⟨wr.heap.size, 0, none⟩) 1 1)).run Tryd.prog (wr.alloc (.cells #[.int .u8 z] 5)) = .ok (.string D) (wr.alloc (.cells #[.int .u8 z] 5)) := by
        intro z hz
        rw [hDe]
        refine run_str_of _ _ _ 5 _ _ _ _ Tryd.underlying28 Tryd.underlying5 Tryd.underlying9 ⟨by simp, fun _ => ⟨_, _, rfl, by simp, fun i u hu => ?_⟩⟩
        match i, hu with
        | 0, hu =>
          simp only [List.map_cons, List.map_nil, List.getElem?_cons_zero, Option.some.injEq] at hu
          subst hu
          simp [bv]
          omega
      have HC := Lib.hid hcv0
      clear hcv0
      have hsum : D.size + out.size ≤ 9223372036854775807 := by omega
      have HN : Hid (digsD f (j / 10) (D ++ out) = digsD k k ⟨#[]⟩) := by
        have := HD.out
        rw [digsD, if_neg (by omega), ← hDe] at this
        exact this
      have hsz2 : ((D ++ out).size * 2 + j / 10 ≤ k + 1 ∨ (j / 10 = 0 ∧ (D ++ out).size * 2 ≤ k + 2)) := by rw [catD_size]; omega
      have HZ := Lib.hid hsz2
      clear hsz2 hD1 hDe HD
      have hw : wrap64 (-((j : Int) / 10)) = -((j : Int) / 10) := by
        unfold wrap64
        omega
      clear hs
      rcases Nat.eq_zero_or_pos (j % 10) with hm | hm
      · have hcv := HC.out (48 + -((j : Int) % 10)) (by omega)
        have hb : decide (0 < (j : Int) % 10) = false := decide_eq_false (by omega)
        clear HC
        go_wp2
        go_roundw
        case rel => exact ⟨j / 10, f, _, by go_num, rfl, by omega, HN.out, HZ.out, alT hbel⟩
        case measure => simp [intOf]; omega
      · have hcv := HC.out (48 + (j : Int) % 10) rfl
        have hb : decide (0 < (j : Int) % 10) = true := decide_eq_true (by omega)
        clear HC
        go_wp2
        go_roundw
        case rel => exact ⟨j / 10, f, _, by go_num, rfl, by omega, HN.out, HZ.out, alT hbel⟩
        case measure => simp [intOf]; omega
    · obtain rfl : j = 0 := by omega
      have HN : Hid (digsD k k ⟨#[]⟩ = out) := by
        have := HD.out
        cases f with
        | zero => exact this.symm
        | succ f => rw [digsD, if_pos rfl] at this; exact this.symm
      have hsum : (⟨#[45]⟩ : ByteArray).size + out.size ≤ 9223372036854775807 := by
        have : (⟨#[45]⟩ : ByteArray).size = 1 := rfl
        omega
      go_wp2
      go_ret
      refine ⟨ret_str ?_, hbel⟩
      rw [← HN.out, digsD_eq k k _ h0 (Nat.le_refl _), catD_nil]
      apply ByteArray.ext
      simp [strOf]
theorem specFormatInt_zero (w : World) :
    Calls Tryd.prog 21 #[.int .i64 0] w fun e w' => e = .returned (.string (strOf (Lib.decDigits 0))) ∧ w' = w := by
  go_enter Tryd.func21, Tryd.ntmps21
  go_wp2
  go_ret
  exact ⟨ret_str (by rw [Lib.decDigits_one (by omega)]; rfl), rfl⟩
theorem specFormatInt_any (n : Int) (w : World) (h : -9223372036854775808 ≤ n ∧ n ≤ 9223372036854775807) :
    Calls Tryd.prog 21 #[.int .i64 n] w fun e w' => e = .returned (.string (strOf (Lib.itoa n))) ∧ Below w.heap.size w w' := by
  unfold Lib.itoa
  by_cases h0 : n < 0
  · rw [if_pos h0]
    obtain ⟨k, hk⟩ : ∃ k : Nat, n = -(k : Int) := ⟨n.natAbs, by omega⟩
    subst hk
    rw [show (-(k : Int)).natAbs = k by omega]
    exact specFormatInt_neg k w (by omega) (by omega)
  · rw [if_neg h0]
    obtain ⟨k, hk⟩ : ∃ k : Nat, n = (k : Int) := ⟨n.toNat, by omega⟩
    subst hk
    rw [Int.toNat_natCast]
    rcases Nat.eq_zero_or_pos k with hz | hz
    · subst hz
      refine (specFormatInt_zero w).mono ?_
      rintro e w' ⟨rfl, rfl⟩
      exact ⟨rfl, Below.refl _ _⟩
    · exact specFormatInt_pos k w hz (by omega)
end Go.Proofs.YtnbhdijmbpdgoaaDoor
