/-
  Proved: the contract of the reference's ParseInt. Conditions: the text's length is a length.
  By an AI agent; no person has read it.
-/
import Derived.Test.YtnbhdijmbpdgoaaDoorIn
import Derived.Test.YtnbhdijmbpdgoaaDoorFmt
import Derived.Test.YtnbhdijmbpdgoaaDoorPIntP
import Derived.Test.YtnbhdijmbpdgoaaDoorKeyT
import Derived.Laws.Concat
namespace Go.Proofs.YtnbhdijmbpdgoaaDoor
open Go.RowKit Go.Lib

/-- What ParseInt answers. -/
def piN (s : ByteArray) : Int := (((intV s.data.toList).getD 0 : Nat) : Int)
def piB (s : ByteArray) : Bool := (intV s.data.toList).isSome
theorem pi_none {s : ByteArray} (h : intV s.data.toList = none) : piN s = 0 ∧ piB s = false := by
  unfold piN piB
  rw [h]
  exact ⟨rfl, rfl⟩
theorem pi_some {s : ByteArray} {n : Nat} (h : intV s.data.toList = some n) : piN s = (n : Int) ∧ piB s = true := by
  unfold piN piB
  rw [h]
  exact ⟨rfl, rfl⟩
theorem str_beq {a b : ByteArray} (h : a ≠ b) : (a.toList == b.toList) = false := by
  rw [beq_eq_false_iff_ne]
  intro e
  apply h
  rw [ByteArray.toList_eq, ByteArray.toList_eq] at e
  rw [← strOf_data a, ← strOf_data b, e]
theorem data_len (s : ByteArray) : s.data.toList.length = s.size := by rw [← strOf_size, strOf_data]

set_option maxRecDepth 100000 in
set_option maxHeartbeats 1000000 in
theorem specParseInt_any (s : ByteArray) (w : World) (hs : s.size ≤ maxLen) :
    Calls Tryd.prog 26 #[.string s] w fun e w' => e = .returned (.tuple #[.int .i64 (piN s), .bool (piB s)]) ∧ Below w.heap.size w w' := by
  unfold maxLen at hs
  by_cases hl : ¬ (1 ≤ s.size ∧ s.size ≤ 13)
  · have HP := Lib.hid (pi_none (intV_len (l := s.data.toList) (by rw [data_len]; exact hl)))
    go_enter Tryd.func26, Tryd.ntmps26
    go_wp2_with fail
    refine (l1In_any _ _ _ false _ (inR_false (by omega)).symm).mono ?_
    rintro e w' ⟨rfl, rfl⟩
    go_wp2
    go_ret2
    exact ⟨by rw [HP.out.1, HP.out.2]; rfl, Below.refl _ _⟩
  have hl2 : 1 ≤ s.size ∧ s.size ≤ 13 := by omega
  clear hl
  go_enter Tryd.func26, Tryd.ntmps26
  go_wp2_with fail
  refine (l1In_any _ _ _ true _ (inR_true (by omega) (by omega)).symm).mono ?_
  rintro e w' ⟨rfl, rfl⟩
  go_wp2
  go_loopw [4, 5] (fun v i wr => ∃ k m : Nat, k ≤ s.size ∧ i = .int .i64 k ∧ v = .int .i64 (m : Int) ∧ decFrom 0 (s.data.toList.take k) = some m ∧ Below w.heap.size w wr) (fun _ i _ => s.size - (intOf i).toNat)
  case atStart => exact ⟨0, 0, Nat.zero_le _, rfl, rfl, rfl, Below.refl _ _⟩
  case round =>
    obtain ⟨k, m, hk, rfl, rfl, hd, hbel⟩ := hrel
    have hm : m < 100000000000000000 := decFrom_take_lt hd (by omega)
    have HD := Lib.hid hd
    clear hd
    by_cases hlt : k < s.size
    · have HX := Lib.hid (str_at s k hlt)
      by_cases hdg : 48 ≤ s[k].toNat ∧ s[k].toNat ≤ 57
      · have HN := Lib.hid (decFrom_take _ _ _ _ _ (s[k].toNat - 48) HD.out HX.out (by unfold digitVal; rw [if_pos hdg]))
        have hg1 : (48 : Int) ≤ (s[k].toNat : Int) := by omega
        have hg2 : (s[k].toNat : Int) ≤ 57 := by omega
        have HG := Lib.hid hdg
        clear hdg
        go_wp2_with fail
        refine (l1In_any _ _ _ true _ (inR_true (by omega) (by omega)).symm).mono ?_
        rintro e w' ⟨rfl, rfl⟩
        go_wp2
        go_roundw
        case rel => exact ⟨k + 1, m * 10 + (s[k].toNat - 48), by omega, by go_num, by go_num, HN.out, hbel⟩
        case measure => simp [intOf]; omega
      · have HP := Lib.hid (pi_none (intV_nodigit HX.out (by unfold digitVal; rw [if_neg hdg])))
        have hlt256 : s[k].toNat < 256 := UInt8.toNat_lt _
        go_wp2_with fail
        refine (l1In_any _ _ _ false _ (inR_false (by omega)).symm).mono ?_
        rintro e w' ⟨rfl, rfl⟩
        go_wp2
        go_ret2
        exact ⟨by rw [HP.out.1, HP.out.2]; rfl, hbel⟩
    · obtain rfl : k = s.size := by omega
      have HI : Hid (intV s.data.toList = if m ≤ 1000000000000 ∧ decDigits m = s.data.toList then some m else none) := by
        refine intV_dec ?_ (by rw [data_len]; omega)
        have := HD.out
        rwa [← data_len, List.take_length] at this
      by_cases hmx : (1000000000000 : Int) < (m : Int)
      · have HP := Lib.hid (pi_none (by rw [HI.out, if_neg (by omega)]))
        go_wp2
        go_ret2
        exact ⟨by rw [HP.out.1, HP.out.2]; rfl, hbel⟩
      · have HE : Hid (strOf (itoa (m : Int)) = strOf (decDigits m)) := by
          show _ = _
          unfold itoa
          rw [if_neg (by omega), Int.toNat_natCast]
        by_cases hs2 : strOf (decDigits m) = s
        · have HP := Lib.hid (pi_some (n := m) (by rw [HI.out, if_pos ⟨by omega, by rw [← hs2, strOf_toList]⟩]))
          have HS := Lib.hid hs2
          clear hs2
          go_wp2_with fail
          refine (specFormatInt_any _ _ (by omega)).mono ?_
          rw [HE.out, HS.out]
          rintro e w2 ⟨rfl, b2⟩
          have B2 := hbel.trans (b2.mono hbel.size)
          clear b2
          go_wp2
          go_ret2
          exact ⟨by rw [HP.out.1, HP.out.2]; rfl, B2⟩
        · have HP := Lib.hid (pi_none (s := s) (by rw [HI.out, if_neg (by rintro ⟨_, h⟩; exact hs2 (by rw [h, strOf_data]))]))
          obtain ⟨t, ht⟩ : ∃ t, t = strOf (decDigits m) := ⟨_, rfl⟩
          rw [← ht] at hs2
          have HT := Lib.hid ht
          have hne := str_beq hs2
          clear ht hs2
          go_wp2_with fail
          refine (specFormatInt_any _ _ (by omega)).mono ?_
          rw [HE.out, ← HT.out]
          rintro e w2 ⟨rfl, b2⟩
          have B2 := hbel.trans (b2.mono hbel.size)
          clear b2
          go_wp2
          go_ret2
          exact ⟨by rw [HP.out.1, HP.out.2]; rfl, B2⟩
end Go.Proofs.YtnbhdijmbpdgoaaDoor
