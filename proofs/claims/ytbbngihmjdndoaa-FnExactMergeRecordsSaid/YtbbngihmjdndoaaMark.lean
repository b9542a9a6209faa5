/-
  Proved: the contracts of the laws' marking of byte slices and of their test that a slice holds the marks. Conditions: the slice is the run's own row (marking), or reads as a list (the test).
  By an AI agent; no person has read it.
-/
import Derived.Test.YtbbngihmjdndoaaTypes
import Derived.Maps.AppendAt
import Derived.Outline
namespace Go.Proofs.Ytbbngihmjdndoaa
open Go.RowKit

/-- The marks from k on. -/
def marksB (k : Int) (n : Nat) : List UInt8 := (List.range n).map fun j => UInt8.ofNat (k.toNat + j)
theorem marksB_len (k : Int) (n : Nat) : (marksB k n).length = n := by simp [marksB]
theorem marksB_at {k : Int} {n j : Nat} (hj : j < n) : (marksB k n)[j]? = some (UInt8.ofNat (k.toNat + j)) := by simp [marksB, hj]
theorem mark_byte {k : Int} {n j : Nat} (h0 : 0 ≤ k) (hj : j < n) : ∃ y : UInt8, (marksB k n)[j]? = some y ∧ IntKind.u8.wrap (k + (j : Int)) = (y.toNat : Int) := by
  refine ⟨_, marksB_at hj, ?_⟩
  rw [IntKind.wrap_u8, UInt8.toNat_ofNat']
  omega

set_option maxHeartbeats 400000 in
theorem markByteS_any (A : Option Addr) (n c base : Nat) (k : Int) (cells : List Value) (w : World) (h0 : 0 ≤ k) (h1 : k + n ≤ 1099511627776) (ha : w.ownsRow base 5 1 (.slice A n c) n cells) :
    Calls Try.prog 44 #[.slice A n c, .int .i64 k] w fun e w' => e = .returned (.int .i64 (k + n)) ∧ w'.ownsRow base 5 1 (.slice A n c) n ((marksB k n).map bv) ∧ w.grownBy w' (A.map (·.block)) := by
  have HC := Lib.hid ha
  clear ha
  go_enter Try.func44, Try.ntmps44
  go_wp2
  go_loopw [1, 5] (fun q i wr => ∃ (j : Nat) (cur : List Value), j ≤ n ∧ i = .int .i64 j ∧ q = .int .i64 (k + j) ∧ wr.ownsRow base 5 1 (.slice A n c) n cur ∧ cur.take j = ((marksB k n).take j).map bv ∧ w.grownBy wr (A.map (·.block))) (fun _ i _ => n - (intOf i).toNat)
  case atStart => exact ⟨0, _, Nat.zero_le _, rfl, by simp, HC.out, rfl, World.grownBy.refl _ _⟩
  case round =>
    obtain ⟨j, cur, hj, rfl, rfl, hown, heq, hgr⟩ := hrel
    have HE := Lib.hid heq
    have HG := Lib.hid hgr
    clear heq hgr
    have hlen : cur.length = n := by have := hown.1; omega
    by_cases hlt : j < n
    · obtain ⟨g, cap, hv, _, hglt⟩ := hown.form (by omega)
      obtain rfl : A = some ⟨g, 0, none⟩ := by injection hv
      clear hv
      obtain ⟨u, hu⟩ : ∃ u, cur[j]? = some u := ⟨cur[j], List.getElem?_eq_getElem (by omega)⟩
      have hcu : wr.cell? ⟨g, j, none⟩ = some u := by rw [hown.cellAt j (by omega), hu]
      have hfu := hown.frozenAt j
      obtain ⟨y, hy, hb⟩ := mark_byte h0 hlt
      have hst := hown.stored j (.int .u8 (y.toNat : Int))
      have HS := Lib.hid (copy_step hlen hlt hy HE.out : (cur.set j (bv y)).take (j + 1) = ((marksB k n).take (j + 1)).map bv)
      have HT := Lib.hid (HG.out.trans hst.2)
      clear hy
      clear hlen hu
      go_wp2
      go_roundw
      case rel => exact ⟨j + 1, _, by omega, by go_num, by go_num, hst.1, HS.out, HT.out⟩
      case measure => simp [intOf]; omega
    · obtain rfl : j = n := by omega
      have hall : cur = (marksB k j).map bv := by
        have := HE.out
        rwa [List.take_of_length_le (Nat.le_of_eq hlen), List.take_of_length_le (Nat.le_of_eq (marksB_len _ _))] at this
      subst hall
      clear hlen
      go_wp2
      go_ret
      exact ⟨rfl, hown, HG.out⟩

set_option maxHeartbeats 400000 in
theorem heldByteS_any (A : Option Addr) (n c : Nat) (k : Int) (w : World) (h0 : 0 ≤ k) (h1 : k + n ≤ 1099511627776) (ha : Rd w 1 A n ((marksB k n).map bv)) :
    Calls Try.prog 45 #[.slice A n c, .int .i64 k] w fun e w' => e = .returned (.int .i64 (k + n)) ∧ Below w.heap.size w w' := by
  go_enter Try.func45, Try.ntmps45
  go_wp2
  go_loopw [1, 5] (fun q i wr => ∃ (j : Nat), j ≤ n ∧ i = .int .i64 j ∧ q = .int .i64 (k + j) ∧ Below w.heap.size w wr) (fun _ i _ => n - (intOf i).toNat)
  case atStart => exact ⟨0, Nat.zero_le _, rfl, by simp, Below.refl _ _⟩
  case round =>
    obtain ⟨j, hj, rfl, rfl, hbel⟩ := hrel
    by_cases hlt : j < n
    · obtain ⟨b, o, x, rfl, _hb1, hx, hcx⟩ := (ha.below hbel).byte hlt
      obtain ⟨y, hy, hb⟩ := mark_byte h0 hlt
      obtain rfl : y = x := by rw [hy] at hx; injection hx
      clear hx hy
      go_wp2
      all_goals go_roundw
      all_goals try (case rel => exact ⟨j + 1, by omega, by go_num, by go_num, hbel⟩)
      all_goals try (case measure => simp [intOf]; omega)
    · obtain rfl : j = n := by omega
      go_wp2
      go_ret
      exact ⟨rfl, hbel⟩
end Go.Proofs.Ytbbngihmjdndoaa
