/-
  Proved: the contracts of slices.Equal at bytes. Conditions: the slices read as lists.
  By an AI agent; no person has read it.
-/
import Derived.Test.YtnbhdijmbpdgoaaDoorProg
import Derived.Test.YtnbhdijmbpdgoaaDoorBase
import Derived.Deep.QuietTactic
import Derived.BigQuiet
import Derived.Outline
namespace Go.Proofs.YtnbhdijmbpdgoaaDoor
open Go.RowKit

set_option maxHeartbeats 400000 in
theorem slicesEqualB_any (A B : Option Addr) (n m c d : Nat) (xs ys : List UInt8) (r : Bool) (w : World) (hn : n ≤ maxLen) (hm : m ≤ maxLen) (ha : Rd w 1 A n (xs.map bv)) (hb : Rd w 1 B m (ys.map bv)) (hr : r = decide (xs = ys)) :
    Calls Tryd.prog 61 #[.slice A n c, .slice B m d] w fun e w' => e = .returned (.bool r) ∧ Below w.heap.size w w' := by
  unfold maxLen at hn hm
  have la := ha.lenB
  have lb := hb.lenB
  have HR := Lib.hid hr
  clear hr
  by_cases hnm : n = m
  · obtain rfl : n = m := hnm
    have HA := Lib.hid la
    have HB := Lib.hid lb
    clear la lb
    go_enter Tryd.func61, Tryd.ntmps61
    go_wp2
    go_loopw [13] (fun i wr => ∃ k : Nat, k ≤ n ∧ i = .int .i64 k ∧ xs.take k = ys.take k ∧ Below w.heap.size w wr) (fun i _ => n - (intOf i).toNat)
    case atStart => exact ⟨0, Nat.zero_le _, rfl, rfl, Below.refl _ _⟩
    case round =>
      obtain ⟨k, hk, rfl, heq, hbel⟩ := hrel
      have HE := Lib.hid heq
      clear heq
      by_cases hlt : k < n
      · obtain ⟨b, o, x, rfl, _hb1, hx, hcx⟩ := (ha.below hbel).byte hlt
        obtain ⟨b', o', y, rfl, _hb2, hy, hcy⟩ := (hb.below hbel).byte hlt
        have HX := Lib.hid hx
        have HY := Lib.hid hy
        clear hx hy
        by_cases e : x = y
        · subst e
          have e1 : ((x.toNat : Int) != (x.toNat : Int)) = false := by simp
          go_wp2
          go_quiet (fail)
          go_wp2
          go_roundw
          case rel => exact ⟨k + 1, by omega, by go_num, take_eq_step HX.out HY.out HE.out rfl, below_drewN hbel _⟩
          case measure => simp [intOf]; omega
        · have e1 : ((x.toNat : Int) != (y.toNat : Int)) = true := by
            rw [bne_iff_ne]
            intro h
            exact e (UInt8.toNat_inj.1 (by omega))
          go_wp2
          go_quiet (fail)
          go_wp2
          go_ret
          exact ⟨ret_bool (by rw [HR.out, decide_eq_false (ne_of_at HX.out HY.out e)]), below_drewN hbel _⟩
      · obtain rfl : k = n := by omega
        have hall : xs = ys := by
          have := HE.out
          rwa [List.take_of_length_le (Nat.le_of_eq HA.out), List.take_of_length_le (Nat.le_of_eq HB.out)] at this
        have HALL := Lib.hid hall
        clear hall
        go_wp2
        go_ret
        exact ⟨ret_bool (by rw [HR.out, decide_eq_true HALL.out]), hbel⟩
  · go_enter Tryd.func61, Tryd.ntmps61
    go_wp2
    go_ret
    exact ⟨ret_bool (by rw [HR.out, decide_eq_false (fun h => hnm (by rw [← la, ← lb, h]))]), Below.refl _ _⟩
end Go.Proofs.YtnbhdijmbpdgoaaDoor
