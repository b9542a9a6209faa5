/-
  Proved: the contracts of IsName and isWord. Conditions: the string's length is a length.
  By an AI agent; no person has read it.
-/
import Derived.Test.YtbbngihmjdndoaaTypes
import Derived.Test.YtbbngihmjdndoaaIn
import Derived.Deep.QuietTactic
import Derived.BigQuiet
import Derived.Outline
namespace Go.Proofs.Ytbbngihmjdndoaa
open Go.RowKit

def isLow (x : UInt8) : Bool := decide (97 ≤ x.toNat ∧ x.toNat ≤ 122)
def nameB (l : List UInt8) : Bool := l.all isLow && inR l.length 1 8
theorem isLow_true {x : UInt8} (h1 : 97 ≤ x.toNat) (h2 : x.toNat ≤ 122) : isLow x = true := decide_eq_true ⟨h1, h2⟩
theorem isLow_false {x : UInt8} (h : ¬ (97 ≤ x.toNat ∧ x.toNat ≤ 122)) : isLow x = false := decide_eq_false h
theorem nameB_false {l : List UInt8} (h : l.all isLow = false) : nameB l = false := by rw [nameB, h, Bool.false_and]
theorem word_false {l : List UInt8} (most : Int) (h : l.all isLow = false) : (l.all isLow && inR l.length 1 most) = false := by rw [h, Bool.false_and]
set_option maxRecDepth 100000 in
set_option maxHeartbeats 400000 in
theorem specIsName_any (s : ByteArray) (r : Bool) (w : World) (hs : s.size ≤ maxLen) (hr : r = nameB s.data.toList) :
    Calls Try.prog 85 #[.string s] w fun e w' => e = .returned (.bool r) ∧ Below w.heap.size w w' := by
  unfold maxLen at hs
  have HR := Lib.hid hr
  clear hr
  go_enter Try.func85, Try.ntmps85
  go_wp2
  go_loopw [3] (fun i wr => ∃ k : Nat, k ≤ s.size ∧ i = .int .i64 k ∧ (s.data.toList.take k).all isLow = true ∧ Below w.heap.size w wr) (fun i _ => s.size - (intOf i).toNat)
  case atStart => exact ⟨0, Nat.zero_le _, rfl, rfl, Below.refl _ _⟩
  case round =>
    obtain ⟨k, hk, rfl, heq, hbel⟩ := hrel
    have HE := Lib.hid heq
    clear heq
    by_cases hlt : k < s.size
    · have HX := Lib.hid (str_at s k hlt)
      by_cases h1 : 97 ≤ s[k].toNat
      · by_cases h2 : s[k].toNat ≤ 122
        · have HN := Lib.hid (all_take_step HX.out HE.out (isLow_true h1 h2))
          have g1 : ¬ (s[k].toNat : Int) < 97 := by omega
          have g2 : ¬ (122 : Int) < (s[k].toNat : Int) := by omega
          clear h1 h2
          go_wp2
          go_roundw
          case rel => exact ⟨k + 1, by omega, by go_num, HN.out, hbel⟩
          case measure => simp [intOf]; omega
        · have HN := Lib.hid (nameB_false (all_false_at HX.out (isLow_false (by omega))))
          have g1 : ¬ (s[k].toNat : Int) < 97 := by omega
          have g2 : (122 : Int) < (s[k].toNat : Int) := by omega
          clear h1 h2
          go_wp2
          go_ret
          exact ⟨ret_bool (by rw [HR.out, HN.out]), hbel⟩
      · have HN := Lib.hid (nameB_false (all_false_at HX.out (isLow_false (by omega))))
        have g1 : (s[k].toNat : Int) < 97 := by omega
        clear h1
        go_wp2
        go_ret
        exact ⟨ret_bool (by rw [HR.out, HN.out]), hbel⟩
    · obtain rfl : k = s.size := by omega
      have HN : Hid (nameB s.data.toList = inR s.size 1 8) := by
        have := HE.out
        rw [← str_len, List.take_length] at this
        unfold nameB
        rw [this, str_len, Bool.true_and]
        exact rfl
      go_wp2_with (go_at_call 86; refine (l1In_any _ _ _ r _ (HR.out.trans HN.out)).mono ?_; rintro e w' ⟨rfl, rfl⟩)
      go_ret
      exact ⟨rfl, hbel⟩

set_option maxRecDepth 100000 in
set_option maxHeartbeats 400000 in
theorem isWord_any (s : ByteArray) (r : Bool) (most : Int) (w : World) (hs : s.size ≤ maxLen) (hr : r = (s.data.toList.all isLow && inR s.data.toList.length 1 most)) :
    Calls Try.prog 138 #[.string s, .int .i64 most, .bool false] w fun e w' => e = .returned (.bool r) ∧ Below w.heap.size w w' := by
  unfold maxLen at hs
  have HR := Lib.hid hr
  clear hr
  go_enter Try.func138, Try.ntmps138
  go_wp2
  go_loopw [7] (fun i wr => ∃ k : Nat, k ≤ s.size ∧ i = .int .i64 k ∧ (s.data.toList.take k).all isLow = true ∧ Below w.heap.size w wr) (fun i _ => s.size - (intOf i).toNat)
  case atStart => exact ⟨0, Nat.zero_le _, rfl, rfl, Below.refl _ _⟩
  case round =>
    obtain ⟨k, hk, rfl, heq, hbel⟩ := hrel
    have HE := Lib.hid heq
    clear heq
    by_cases hlt : k < s.size
    · have HX := Lib.hid (str_at s k hlt)
      by_cases h1 : 97 ≤ s[k].toNat
      · by_cases h2 : s[k].toNat ≤ 122
        · have HN := Lib.hid (all_take_step HX.out HE.out (isLow_true h1 h2))
          have g1 : ¬ (s[k].toNat : Int) < 97 := by omega
          have g2 : ¬ (122 : Int) < (s[k].toNat : Int) := by omega
          clear h1 h2
          go_wp2
          go_roundw
          case rel => exact ⟨k + 1, by omega, by go_num, HN.out, hbel⟩
          case measure => simp [intOf]; omega
        · have HN := Lib.hid (word_false most (all_false_at HX.out (isLow_false (by omega))))
          have g1 : ¬ (s[k].toNat : Int) < 97 := by omega
          have g2 : (122 : Int) < (s[k].toNat : Int) := by omega
          have g3 : decide ((s[k].toNat : Int) ≤ 122) = false := decide_eq_false (by omega)
          clear h1 h2
          go_wp2
          go_ret
          exact ⟨ret_bool (by rw [HR.out, HN.out]), hbel⟩
      · have HN := Lib.hid (word_false most (all_false_at HX.out (isLow_false (by omega))))
        have g1 : (s[k].toNat : Int) < 97 := by omega
        clear h1
        go_wp2
        go_ret
        exact ⟨ret_bool (by rw [HR.out, HN.out]), hbel⟩
    · obtain rfl : k = s.size := by omega
      have HN : Hid ((s.data.toList.all isLow && inR s.data.toList.length 1 most) = inR s.size 1 most) := by
        have := HE.out
        rw [← str_len, List.take_length] at this
        rw [this, str_len, Bool.true_and]
        exact rfl
      go_wp2_with (go_at_call 88; refine (InRange_any _ _ _ r _ (HR.out.trans HN.out)).mono ?_; rintro e w' ⟨rfl, rfl⟩)
      go_ret
      exact ⟨rfl, hbel⟩

theorem implIsName_any (s : ByteArray) (r : Bool) (w : World) (hs : s.size ≤ maxLen) (hr : r = nameB s.data.toList) :
    Calls Try.prog 87 #[.string s] w fun e w' => e = .returned (.bool r) ∧ Below w.heap.size w w' := by
  have HR := Lib.hid hr
  clear hr
  go_enter Try.func87, Try.ntmps87
  go_wp2_with fail
  refine (isWord_any s r 8 _ hs HR.out).mono ?_
  rintro e w' ⟨rfl, hb⟩
  go_wp2
  go_ret
  exact ⟨rfl, hb⟩
end Go.Proofs.Ytbbngihmjdndoaa
