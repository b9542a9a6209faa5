/-
  Proved: the contracts of the two tests of a key's text. Conditions: the string's length is a length.
  By an AI agent; no person has read it.
-/
import Derived.Test.YtnbhdijmbpdgoaaDoorIn
import Derived.Deep.QuietTactic
import Derived.BigQuiet
namespace Go.Proofs.YtnbhdijmbpdgoaaDoor
open Go.RowKit

def isKt (x : UInt8) : Bool := decide ((97 ≤ x.toNat ∧ x.toNat ≤ 122) ∨ (48 ≤ x.toNat ∧ x.toNat ≤ 57))
def textB (l : List UInt8) : Bool := l.all isKt && decide (l.length ≤ 12)
theorem isKt_true {x : UInt8} (h : (97 ≤ x.toNat ∧ x.toNat ≤ 122) ∨ (48 ≤ x.toNat ∧ x.toNat ≤ 57)) : isKt x = true := decide_eq_true h
theorem isKt_false {x : UInt8} (h : ¬ ((97 ≤ x.toNat ∧ x.toNat ≤ 122) ∨ (48 ≤ x.toNat ∧ x.toNat ≤ 57))) : isKt x = false := decide_eq_false h
theorem textB_false {l : List UInt8} (h : l.all isKt = false) : textB l = false := by rw [textB, h, Bool.false_and]

set_option maxRecDepth 100000 in
set_option maxHeartbeats 400000 in
theorem l4Text_any (s : ByteArray) (r : Bool) (w : World) (hs : s.size ≤ maxLen) (hr : r = textB s.data.toList) :
    Calls Tryd.prog 53 #[.string s] w fun e w' => e = .returned (.bool r) ∧ Below w.heap.size w w' := by
  unfold maxLen at hs
  have HR := Lib.hid hr
  clear hr
  go_enter Tryd.func53, Tryd.ntmps53
  go_wp2
  go_loopw [3] (fun i wr => ∃ k : Nat, k ≤ s.size ∧ i = .int .i64 k ∧ (s.data.toList.take k).all isKt = true ∧ Below w.heap.size w wr) (fun i _ => s.size - (intOf i).toNat)
  case atStart => exact ⟨0, Nat.zero_le _, rfl, rfl, Below.refl _ _⟩
  case round =>
    obtain ⟨k, hk, rfl, heq, hbel⟩ := hrel
    have HE := Lib.hid heq
    clear heq
    by_cases hlt : k < s.size
    · have HX := Lib.hid (str_at s k hlt)
      by_cases h1 : 97 ≤ s[k].toNat
      · by_cases h2 : s[k].toNat ≤ 122
        · have HN := Lib.hid (all_take_step HX.out HE.out (isKt_true (by omega)))
          have g0 : ¬ (s[k].toNat : Int) < 97 := by omega
          have g1 : ¬ (122 : Int) < (s[k].toNat : Int) := by omega
          clear h1 h2
          go_wp2
          go_roundw
          case rel => exact ⟨k + 1, by omega, by go_num, HN.out, hbel⟩
          case measure => simp [intOf]; omega
        · have HN := Lib.hid (textB_false (all_false_at HX.out (isKt_false (by omega))))
          have g0 : ¬ (s[k].toNat : Int) < 97 := by omega
          have g1 : (122 : Int) < (s[k].toNat : Int) := by omega
          have g2 : ¬ (s[k].toNat : Int) < 48 := by omega
          have g3 : (57 : Int) < (s[k].toNat : Int) := by omega
          clear h1 h2
          go_wp2
          go_ret
          exact ⟨ret_bool (by rw [HR.out, HN.out]), hbel⟩
      · by_cases h2 : 48 ≤ s[k].toNat
        · by_cases h3 : s[k].toNat ≤ 57
          · have HN := Lib.hid (all_take_step HX.out HE.out (isKt_true (by omega)))
            have g0 : (s[k].toNat : Int) < 97 := by omega
            have g1 : ¬ (s[k].toNat : Int) < 48 := by omega
            have g2 : ¬ (57 : Int) < (s[k].toNat : Int) := by omega
            clear h1 h2 h3
            go_wp2
            go_roundw
            case rel => exact ⟨k + 1, by omega, by go_num, HN.out, hbel⟩
            case measure => simp [intOf]; omega
          · have HN := Lib.hid (textB_false (all_false_at HX.out (isKt_false (by omega))))
            have g0 : (s[k].toNat : Int) < 97 := by omega
            have g1 : ¬ (s[k].toNat : Int) < 48 := by omega
            have g2 : (57 : Int) < (s[k].toNat : Int) := by omega
            clear h1 h2 h3
            go_wp2
            go_ret
            exact ⟨ret_bool (by rw [HR.out, HN.out]), hbel⟩
        · have HN := Lib.hid (textB_false (all_false_at HX.out (isKt_false (by omega))))
          have g0 : (s[k].toNat : Int) < 97 := by omega
          have g1 : (s[k].toNat : Int) < 48 := by omega
          clear h1 h2
          go_wp2
          go_ret
          exact ⟨ret_bool (by rw [HR.out, HN.out]), hbel⟩
    · obtain rfl : k = s.size := by omega
      have HN : Hid (textB s.data.toList = decide ((s.size : Int) ≤ 12)) := by
        have := HE.out
        rw [← str_len, List.take_length] at this
        unfold textB
        rw [this, str_len, Bool.true_and]
        exact decide_eq_decide.2 (by omega)
      go_wp2
      go_ret
      exact ⟨ret_bool (by rw [HR.out, HN.out]), hbel⟩

set_option maxRecDepth 100000 in
set_option maxHeartbeats 400000 in
theorem isKeyText_any (s : ByteArray) (r : Bool) (w : World) (hs : s.size ≤ maxLen) (hr : r = textB s.data.toList) :
    Calls Tryd.prog 47 #[.string s] w fun e w' => e = .returned (.bool r) ∧ Below w.heap.size w w' := by
  unfold maxLen at hs
  have HR := Lib.hid hr
  clear hr
  go_enter Tryd.func47, Tryd.ntmps47
  go_wp2
  go_loopw [3] (fun i wr => ∃ k : Nat, k ≤ s.size ∧ i = .int .i64 k ∧ (s.data.toList.take k).all isKt = true ∧ Below w.heap.size w wr) (fun i _ => s.size - (intOf i).toNat)
  case atStart => exact ⟨0, Nat.zero_le _, rfl, rfl, Below.refl _ _⟩
  case round =>
    obtain ⟨k, hk, rfl, heq, hbel⟩ := hrel
    have HE := Lib.hid heq
    clear heq
    by_cases hlt : k < s.size
    · have HX := Lib.hid (str_at s k hlt)
      by_cases h1 : 97 ≤ s[k].toNat
      · by_cases h2 : s[k].toNat ≤ 122
        · have HN := Lib.hid (all_take_step HX.out HE.out (isKt_true (by omega)))
          have g0 : (97 : Int) ≤ (s[k].toNat : Int) := by omega
          have g1 : (s[k].toNat : Int) ≤ 122 := by omega
          clear h1 h2
          go_wp2
          go_roundw
          case rel => exact ⟨k + 1, by omega, by go_num, HN.out, hbel⟩
          case measure => simp [intOf]; omega
        · have HN := Lib.hid (textB_false (all_false_at HX.out (isKt_false (by omega))))
          have g0 : (97 : Int) ≤ (s[k].toNat : Int) := by omega
          have g1 : ¬ (s[k].toNat : Int) ≤ 122 := by omega
          have g2 : (48 : Int) ≤ (s[k].toNat : Int) := by omega
          have g3 : ¬ (s[k].toNat : Int) ≤ 57 := by omega
          clear h1 h2
          go_wp2
          go_ret
          exact ⟨ret_bool (by rw [HR.out, HN.out]), hbel⟩
      · by_cases h2 : 48 ≤ s[k].toNat
        · by_cases h3 : s[k].toNat ≤ 57
          · have HN := Lib.hid (all_take_step HX.out HE.out (isKt_true (by omega)))
            have g0 : ¬ (97 : Int) ≤ (s[k].toNat : Int) := by omega
            have g1 : (48 : Int) ≤ (s[k].toNat : Int) := by omega
            have g2 : (s[k].toNat : Int) ≤ 57 := by omega
            clear h1 h2 h3
            go_wp2
            go_roundw
            case rel => exact ⟨k + 1, by omega, by go_num, HN.out, hbel⟩
            case measure => simp [intOf]; omega
          · have HN := Lib.hid (textB_false (all_false_at HX.out (isKt_false (by omega))))
            have g0 : ¬ (97 : Int) ≤ (s[k].toNat : Int) := by omega
            have g1 : (48 : Int) ≤ (s[k].toNat : Int) := by omega
            have g2 : ¬ (s[k].toNat : Int) ≤ 57 := by omega
            clear h1 h2 h3
            go_wp2
            go_ret
            exact ⟨ret_bool (by rw [HR.out, HN.out]), hbel⟩
        · have HN := Lib.hid (textB_false (all_false_at HX.out (isKt_false (by omega))))
          have g0 : ¬ (97 : Int) ≤ (s[k].toNat : Int) := by omega
          have g1 : ¬ (48 : Int) ≤ (s[k].toNat : Int) := by omega
          clear h1 h2
          go_wp2
          go_ret
          exact ⟨ret_bool (by rw [HR.out, HN.out]), hbel⟩
    · obtain rfl : k = s.size := by omega
      have HN : Hid (textB s.data.toList = decide ((s.size : Int) ≤ 12)) := by
        have := HE.out
        rw [← str_len, List.take_length] at this
        unfold textB
        rw [this, str_len, Bool.true_and]
        exact decide_eq_decide.2 (by omega)
      go_wp2
      go_ret
      exact ⟨ret_bool (by rw [HR.out, HN.out]), hbel⟩

end Go.Proofs.YtnbhdijmbpdgoaaDoor
