/-
  Proved: the contracts of BytesToInts, of the program and of the reference. Conditions: the slice reads as a list.
  By an AI agent; no person has read it.
-/
import Derived.Test.YtiliahafaldfcaaTypes
namespace Go.Proofs.Ytiliahafaldfcaa
open Go.RowKit

def b2iF (l : List UInt8) : List Int := (l.length : Int) :: l.map fun x => (x.toNat : Int)
theorem b2iF_len (l : List UInt8) : (b2iF l).length = l.length + 1 := by simp [b2iF]
theorem b2iF_rng {l : List UInt8} (hl : l.length ≤ 1099511627776) : ∀ z ∈ b2iF l, -9223372036854775808 ≤ z ∧ z ≤ 9223372036854775807 := by
  intro z hz
  simp only [b2iF, List.mem_cons, List.mem_map] at hz
  rcases hz with rfl | ⟨x, _, rfl⟩
  · omega
  · have := x.toNat_lt
    omega
/-- A pushed int, read as an int. -/
theorem push_iv {w : World} {base : Nat} {E : TypeId} {v : Value} {k : Nat} {z : Int} {pre : List Int} (h : w.ownsRow base E 1 v k (pre.map iv ++ [.int .i64 z])) : w.ownsRow base E 1 v k ((pre ++ [z]).map iv) := by
  simpa [iv] using h
/-- The part that is made of the first k bytes. -/
def b2iP (n : Int) (l : List UInt8) (k : Nat) : List Int := n :: (l.take k).map fun x => (x.toNat : Int)
theorem b2i_step {l : List UInt8} {k : Nat} {x : UInt8} (n : Int) (hx : l[k]? = some x) : b2iP n l k ++ [(x.toNat : Int)] = b2iP n l (k + 1) := by
  unfold b2iP
  rw [take_snoc hx]
  simp

set_option maxRecDepth 100000 in
set_option maxHeartbeats 400000 in
theorem implBytesToInts_any (A : Option Addr) (n c : Nat) (l : List UInt8) (w : World) (hn : n ≤ 1099511627000) (ha : Rd w 1 A n (l.map bv)) :
    Calls Try.prog 41 #[.slice A n c] w (MkI w (b2iF l)) := by
  obtain ⟨i0, hi, hz0, hz1, hz2⟩ := info_parts infoI
  have la := Lib.hid ha.lenB
  have HS : Hid ((w.alloc (.cells #[.int .i64 (n : Int)] 3)).ownsRow w.heap.size 3 1 (.slice (some ⟨w.heap.size, 0, none⟩) 1 1) 1 ((b2iP n l 0).map iv)) := World.ownsRow_lit w #[iv n] 1 (Nat.le_refl _) (by decide) (by rfl)
  go_enter Try.func41, Try.ntmps41
  go_wp2
  go_loopw [3, 11] (fun v i wr => ∃ (k : Nat) (B : Option Addr) (m d : Nat), k ≤ n ∧ i = .int .i64 k ∧ v = .slice B m d ∧ m = k + 1 ∧ wr.ownsRow w.heap.size 3 1 (.slice B m d) m ((b2iP n l k).map iv) ∧ Below w.heap.size w wr) (fun _ i _ => n - (intOf i).toNat)
  case atStart => exact ⟨0, _, _, _, Nat.zero_le _, rfl, rfl, rfl, HS.out, (Below.refl _ _).alloc (Nat.le_refl _) _⟩
  case round =>
    obtain ⟨k, B, m, d, hk, rfl, rfl, hm, ho, hbel⟩ := hrel
    have HM := Lib.hid hm
    have hmn : m ≤ 1099511627001 := by omega
    clear hm
    have hbs := hbel.size
    by_cases hlt : k < n
    · obtain ⟨b, o, x, rfl, _hb1, hx, hcx⟩ := (ha.below hbel).byte hlt
      have HX := Lib.hid hx
      have hx2 := byte_lt x
      clear hx
      go_wp2_with (at_builtin; refine wpList_push wr rfl _ _ 28 rfl w.heap.size 3 i0 (.int .i64 0) 8 Try.underlying28 hi hz0 hz1 hz2 rfl B m d _ (by rfl) ho _ (by rfl) (by rfl) ?d1 ?d2 ?d3 ?_)
      case d1 => unfold maxLen; omega
      case d2 => omega
      case d3 => exact hbs
      intro A2 n2 c2 w2 hk2 ho2 hb2
      have ho3 := push_iv ho2
      rw [b2i_step _ HX.out] at ho3
      have HO := Lib.hid ho3
      have HK := Lib.hid hk2
      have HB := Lib.hid (hbel.trans hb2)
      clear hk2 ho2 hb2 ho3
      go_wp2
      go_roundw
      case rel => exact ⟨k + 1, _, _, _, by omega, by go_num, rfl, by rw [HK.out, HM.out], HO.out, HB.out⟩
      case measure => simp [intOf]; omega
    · obtain rfl : k = n := by omega
      have HN : Hid (b2iP k l k = b2iF l) := by
        rw [b2iP, List.take_of_length_le (Nat.le_of_eq la.out), b2iF, la.out]; exact rfl
      have HO := Lib.hid ho
      clear ho
      go_wp2
      go_ret
      exact ⟨_, _, _, rfl, by rw [← HN.out]; exact HO.out, hbel⟩
end Go.Proofs.Ytiliahafaldfcaa
