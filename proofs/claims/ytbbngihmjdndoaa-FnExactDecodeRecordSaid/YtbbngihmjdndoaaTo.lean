/-
  Proved: the contracts of the laws' copies of byte slices and of int slices. Conditions: the slice reads as a list of at most 2^40 elements.
  By an AI agent; no person has read it.
-/
import Derived.Test.YtbbngihmjdndoaaTypes
import Derived.Outline
namespace Go.Proofs.Ytbbngihmjdndoaa
open Go.RowKit

theorem toByteS_any (A : Option Addr) (n c : Nat) (l : List UInt8) (w : World) (hn : n ≤ 1099511627776) (ha : Rd w 1 A n (l.map bv)) :
    Calls Try.prog 49 #[.slice A n c] w (MkB w l) := by
  obtain ⟨i0, hi, hz0, hz1, hz2⟩ := info_parts infoU8
  have la := Lib.hid ha.lenB
  go_enter Try.func49, Try.ntmps49
  go_wp2_with (at_make; refine wpList_make_full _ rfl _ _ 58 rfl w.heap.size 5 i0 (.int .u8 0) 1 Try.underlying58 hi hz0 hz1 _ _ _ _ n rfl rfl rfl rfl ?c1 ?c2 ?c3 ?_)
  case c1 => rw [hz2]; omega
  case c2 => unfold maxLen; omega
  case c3 => exact Nat.le_refl _
  intro w1 hown hgrow
  have hb1 : Below w.heap.size w w1 := (Below.refl _ _).grown hgrow (Nat.le_refl _) (fun k h => by cases h)
  clear hgrow
  go_wp2
  go_loopw [4] (fun i wr => ∃ (k : Nat) (cur : List Value), k ≤ n ∧ i = .int .i64 k ∧ wr.ownsRow w.heap.size 5 1 (.slice (some ⟨w.heap.size, 0, none⟩) n n) n cur ∧ cur.take k = (l.take k).map bv ∧ Below w.heap.size w wr) (fun i _ => n - (intOf i).toNat)
  case atStart => exact ⟨0, _, Nat.zero_le _, rfl, hown, rfl, hb1⟩
  case round =>
    obtain ⟨k, cur, hk, rfl, hownr, heq, hbel⟩ := hrel
    clear hown hb1
    have HE := Lib.hid heq
    clear heq
    have hlen : cur.length = n := by have := hownr.1; omega
    by_cases hlt : k < n
    · obtain ⟨b, o, x, rfl, _hb1, hx, hcx⟩ := (ha.below hbel).byte hlt
      have HX := Lib.hid hx
      clear hx
      obtain ⟨u, hu⟩ : ∃ u, cur[k]? = some u := ⟨cur[k], List.getElem?_eq_getElem (by omega)⟩
      have hcu : wr.cell? ⟨w.heap.size, k, none⟩ = some u := by rw [hownr.cellAt k (by omega), hu]
      have hfu := hownr.frozenAt k
      have hst := (hownr.stored k (.int .u8 (x.toNat : Int))).1
      have HS := Lib.hid (copy_step hlen hlt HX.out HE.out : (cur.set k (bv x)).take (k + 1) = (l.take (k + 1)).map bv)
      have hbs : Below w.heap.size w (wr.setCell ⟨w.heap.size, k, none⟩ (.int .u8 (x.toNat : Int))) := hbel.setCell (Nat.le_refl _) _
      clear hlen hu
      go_wp2
      go_roundw
      case rel => exact ⟨k + 1, _, by omega, by go_num, hst, HS.out, hbs⟩
      case measure => simp [intOf]; omega
    · obtain rfl : k = n := by omega
      have hall : cur = l.map bv := by
        have := HE.out
        rwa [List.take_of_length_le (Nat.le_of_eq hlen), List.take_of_length_le (Nat.le_of_eq la.out)] at this
      subst hall
      clear hlen
      go_wp2
      go_ret
      exact ⟨_, _, _, rfl, hownr, hbel⟩
end Go.Proofs.Ytbbngihmjdndoaa
