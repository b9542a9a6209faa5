/-
  Proved: the contracts of FormatKey, of the program and of the reference. Conditions: the text's length is a length; for the program: the library's table of powers of ten holds what start-up lays in it.
  By an AI agent; no person has read it.
-/
import Derived.Test.YtnbhdijmbpdgoaaDoorKeyC
import Derived.Test.YtnbhdijmbpdgoaaDoorFmt
import Derived.Test.YtnbhdijmbpdgoaaDoorFmtI
import Derived.Deep.RegionWith
namespace Go.Proofs.YtnbhdijmbpdgoaaDoor
open Go.RowKit

theorem itoa_len (n : Int) (h : -9223372036854775808 ≤ n ∧ n ≤ 9223372036854775807) : (Lib.itoa n).length ≤ 21 := by
  have key : ∀ u : Nat, u < 18446744073709551616 → (Lib.decDigits u).length ≤ 20 := by
    intro u hu
    rw [Lib.decDigits_length]
    rcases Nat.eq_zero_or_pos u with h0 | h0
    · subst h0
      rw [Lib.nDigits_small (by omega)]
      omega
    · have := Lib.numDigits_eq u h0 hu
      have h2 := this.1
      have h3 := this.2
      split at h2 <;> omega
  unfold Lib.itoa
  split
  · have := key n.natAbs (by omega)
    simp only [List.length_cons]
    omega
  · have := key n.toNat (by omega)
    omega
theorem itoa_size (n : Int) (h : -9223372036854775808 ≤ n ∧ n ≤ 9223372036854775807) : (strOf (Lib.itoa n)).size ≤ 21 := by
  rw [strOf_size]
  exact itoa_len n h

/-- A key's text. -/
def fmtK (k n : Int) (s : ByteArray) : ByteArray :=
  if keyB k n s = false then ⟨#[]⟩
  else if k = 1 then strOf (Lib.itoa n)
  else if k = 2 then ⟨#[39]⟩ ++ s
  else strOf (Lib.itoa n) ++ ⟨#[39]⟩ ++ s
theorem nil_cat (a : ByteArray) : (⟨#[]⟩ : ByteArray) ++ a = a := by
  apply ByteArray.ext
  simp

set_option maxRecDepth 100000 in
theorem specFormatKey_any (k n : Int) (s : ByteArray) (w : World) (hs : s.size ≤ maxLen) :
    Calls Tryd.prog 24 #[.agg #[.int .i64 k, .int .i64 n, .string s]] w fun e w' => e = .returned (.string (fmtK k n s)) ∧ Below w.heap.size w w' := by
  cases H : keyB k n s
  · have HF := Lib.hid (show fmtK k n s = ⟨#[]⟩ by rw [fmtK, if_pos H])
    have HK := Lib.hid H.symm
    clear H
    go_enter Tryd.func24, Tryd.ntmps24
    go_wp2_with fail
    refine (specIsKey_any _ _ s false _ hs HK.out).mono ?_
    rintro e w1 ⟨rfl, b1⟩
    have B1 := (key_cells b1).1
    clear b1
    go_wp2
    go_ret
    exact ⟨ret_str HF.out, B1⟩
  · obtain ⟨hk, hn, ht, h2, h1⟩ := keyB_parts H
    have hsl : s.size ≤ 12 := keyB_len H
    have hi := itoa_size n (by omega)
    obtain ⟨D, hD⟩ : ∃ D, D = strOf (Lib.itoa n) := ⟨_, rfl⟩
    rw [← hD] at hi
    have HD := Lib.hid hD
    have HK := Lib.hid H.symm
    have e39 : (⟨#[39]⟩ : ByteArray).size = 1 := rfl
    have e0 : (⟨#[]⟩ : ByteArray).size = 0 := rfl
    have HF : Hid (fmtK k n s = (if k = 1 then D else if k = 2 then ⟨#[39]⟩ ++ s else D ++ ⟨#[39]⟩ ++ s)) := by
      show _ = _
      rw [fmtK, H, hD]
      rfl
    clear H hD ht h1 h2
    go_enter Tryd.func24, Tryd.ntmps24
    go_wp2_with fail
    refine (specIsKey_any _ _ s true _ hs HK.out).mono ?_
    rintro e w1 ⟨rfl, b1⟩
    obtain ⟨B1, c0, c1, c2⟩ := key_cells b1
    clear b1
    rcases (by omega : k = 1 ∨ k = 2 ∨ k = 3) with rfl | rfl | rfl
    · go_wp2_with fail
      refine (specFormatInt_any n _ (by omega)).mono ?_
      rintro e w2 ⟨rfl, b2⟩
      replace c0 := kcell b2 c0
      have B2 := B1.trans (b2.mono B1.size)
      clear c1 c2 b2 B1
      go_wp2
      go_ret
      exact ⟨ret_str (by rw [HF.out, HD.out]; rfl), B2⟩
    · have hsum : (⟨#[]⟩ : ByteArray).size + (⟨#[39]⟩ : ByteArray).size ≤ 9223372036854775807 := by omega
      have hsum2 : ((⟨#[]⟩ : ByteArray) ++ ⟨#[39]⟩).size + s.size ≤ 9223372036854775807 := by rw [catD_size]; omega
      go_wp2
      go_ret
      exact ⟨ret_str (by rw [HF.out, nil_cat]; rfl), B1⟩
    · go_wp2_with fail
      refine (specFormatInt_any n _ (by omega)).mono ?_
      rw [← HD.out]
      rintro e w2 ⟨rfl, b2⟩
      replace c0 := kcell b2 c0
      replace c2 := kcell b2 c2
      have B2 := B1.trans (b2.mono B1.size)
      clear c1 b2 B1
      have hsum : D.size + (⟨#[39]⟩ : ByteArray).size ≤ 9223372036854775807 := by omega
      have hsum2 : (D ++ (⟨#[39]⟩ : ByteArray)).size + s.size ≤ 9223372036854775807 := by rw [catD_size]; omega
      go_wp2
      go_ret
      exact ⟨ret_str (by rw [HF.out]; rfl), B2⟩
set_option maxRecDepth 100000 in
theorem implFormatKey_any (k n : Int) (s : ByteArray) (w : World) (hs : s.size ≤ maxLen) (hp : Pow w) :
    Calls Tryd.prog 18 #[.agg #[.int .i64 k, .int .i64 n, .string s]] w fun e w' => e = .returned (.string (fmtK k n s)) ∧ Below w.heap.size w w' := by
  cases H : keyB k n s
  · have HF := Lib.hid (show fmtK k n s = ⟨#[]⟩ by rw [fmtK, if_pos H])
    have HK := Lib.hid H.symm
    clear H
    go_enter Tryd.func18, Tryd.ntmps18
    go_wp2_with fail
    refine (implIsKey_any _ _ s false _ hs HK.out).mono ?_
    rintro e w1 ⟨rfl, b1⟩
    have B1 := (key_cells b1).1
    clear b1
    go_wp2
    go_ret
    exact ⟨ret_str HF.out, B1⟩
  · obtain ⟨hk, hn, ht, h2, h1⟩ := keyB_parts H
    have hsl : s.size ≤ 12 := keyB_len H
    have hi := itoa_size n (by omega)
    obtain ⟨D, hD⟩ : ∃ D, D = strOf (Lib.itoa n) := ⟨_, rfl⟩
    rw [← hD] at hi
    have HD := Lib.hid hD
    have HK := Lib.hid H.symm
    have e39 : (⟨#[39]⟩ : ByteArray).size = 1 := rfl
    have e0 : (⟨#[]⟩ : ByteArray).size = 0 := rfl
    have HF : Hid (fmtK k n s = (if k = 1 then D else if k = 2 then ⟨#[39]⟩ ++ s else D ++ ⟨#[39]⟩ ++ s)) := by
      show _ = _
      rw [fmtK, H, hD]
      rfl
    clear H hD ht h1 h2
    go_enter Tryd.func18, Tryd.ntmps18
    go_wp2_with fail
    refine (implIsKey_any _ _ s true _ hs HK.out).mono ?_
    rintro e w1 ⟨rfl, b1⟩
    obtain ⟨B1, c0, c1, c2⟩ := key_cells b1
    clear b1
    rcases (by omega : k = 1 ∨ k = 2 ∨ k = 3) with rfl | rfl | rfl
    · go_wp2_with fail
      refine (implFormatInt_any n _ (by omega) (hp.keep B1)).mono ?_
      rintro e w2 ⟨rfl, b2⟩
      replace c0 := kcell b2 c0
      have B2 := B1.trans (b2.mono B1.size)
      clear c1 c2 b2 B1
      go_wp2
      go_ret
      exact ⟨ret_str (by rw [HF.out, HD.out]; rfl), B2⟩
    · have hsum : (⟨#[39]⟩ : ByteArray).size + s.size ≤ 9223372036854775807 := by omega
      go_wp2
      go_ret
      exact ⟨ret_str (by rw [HF.out]; rfl), B1⟩
    · have hsum : D.size + (⟨#[39]⟩ : ByteArray).size ≤ 9223372036854775807 := by omega
      have hsum2 : (D ++ (⟨#[39]⟩ : ByteArray)).size + s.size ≤ 9223372036854775807 := by rw [catD_size]; omega
      have hpw := hp.keep B1
      go_wp2
      go_region_with (go_at_call 22; refine (implFormatInt_any n _ (by omega) (hpw.keep (below_drewN (Below.refl _ _) _))).mono ?_; rw [← HD.out]; rintro e w2 ⟨rfl, b2⟩; have c2' := kcell b2 c2)
      all_goals
        have B2 : Below w.heap.size w w2 := by first | exact (B1.drew).trans (b2.mono B1.size) | exact B1.trans (b2.mono B1.size) | exact (below_drewN B1 _).trans (b2.mono B1.size)
        clear c1 c2 b2 B1 c2'
        go_wp2
        go_ret
        exact ⟨ret_str (by rw [HF.out]; rfl), B2⟩
end Go.Proofs.YtnbhdijmbpdgoaaDoor
