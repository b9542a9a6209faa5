/-
  Proved: the contracts of Hash, KeyedHash and BytesToInts, of the program and of the reference. Conditions: the slice reads as a list; its numbers are ints of 64 bits.
  By an AI agent; no person has read it.
-/
import Derived.Test.YtiliahafaldfcaaTypes
import Derived.Test.YtiliahafaldfcaaArith
import Derived.Outline
namespace Go.Proofs.Ytiliahafaldfcaa
open Go.RowKit

/-- One step of the hash. -/
def hashS (d v : Int) : Int := (d * 1000003 + v % 2147483647 + 13) % 2147483647
def hashF (l : List Int) : Int := l.foldl hashS 11
theorem hashS_rng (d v : Int) : 0 ≤ hashS d v ∧ hashS d v < 2147483647 := ⟨Int.emod_nonneg _ (by omega), Int.emod_lt_of_pos _ (by omega)⟩
theorem foldl_hash_rng : ∀ (l : List Int) (d : Int), 0 ≤ d → d < 2147483647 → 0 ≤ l.foldl hashS d ∧ l.foldl hashS d < 2147483647
  | [], _, h1, h2 => ⟨h1, h2⟩
  | v :: l, d, _, _ => foldl_hash_rng l (hashS d v) (hashS_rng d v).1 (hashS_rng d v).2
theorem hashF_rng (l : List Int) : 0 ≤ hashF l ∧ hashF l < 2147483647 := foldl_hash_rng l 11 (by omega) (by omega)
theorem hashF_snoc (l : List Int) (v : Int) : hashF (l ++ [v]) = hashS (hashF l) v := by simp [hashF]
theorem modulus_mod (v : Int) : modF v 2147483647 = v % 2147483647 := modF_in (by omega) (by omega)
/-- KeyedHash. -/
def khF (k : Int) (l : List Int) : Int := hashF (k :: l ++ [k])
theorem khF_rng (k : Int) (l : List Int) : 0 ≤ khF k l ∧ khF k l < 2147483647 := hashF_rng _

set_option maxRecDepth 100000 in
set_option maxHeartbeats 400000 in
theorem implHash_any (A : Option Addr) (n c : Nat) (l : List Int) (w : World) (hn : n ≤ 1099511627776) (ha : Rd w 1 A n (l.map iv)) (hr : ∀ z ∈ l, -9223372036854775808 ≤ z ∧ z ≤ 9223372036854775807) :
    Calls Try.prog 14 #[.slice A n c] w fun e w' => e = .returned (.int .i64 (hashF l)) ∧ Below w.heap.size w w' := by
  have la := Lib.hid ha.lenI
  have HR := Lib.hid hr
  clear hr
  go_enter Try.func14, Try.ntmps14
  go_wp2
  go_loopw [3, 8] (fun d i wr => ∃ k : Nat, k ≤ n ∧ i = .int .i64 k ∧ d = .int .i64 (hashF (l.take k)) ∧ Below w.heap.size w wr) (fun _ i _ => n - (intOf i).toNat)
  case atStart => exact ⟨0, Nat.zero_le _, rfl, rfl, Below.refl _ _⟩
  case round =>
    obtain ⟨k, hk, rfl, rfl, hbel⟩ := hrel
    by_cases hlt : k < n
    · obtain ⟨b, o, x, rfl, _hb1, hx, hcx⟩ := (ha.below hbel).int hlt
      have HX := Lib.hid hx
      have HXR := Lib.hid (HR.out x (List.mem_of_getElem? hx))
      clear hx
      obtain ⟨d, hd⟩ : ∃ d, d = hashF (l.take k) := ⟨_, rfl⟩
      have hd1 : 0 ≤ d := by rw [hd]; exact (hashF_rng _).1
      have hd2 : d < 2147483647 := by rw [hd]; exact (hashF_rng _).2
      have HD : Hid (hashF (l.take (k + 1)) = hashS d x) := by rw [take_snoc HX.out, hashF_snoc, hd]; exact rfl
      rw [← hd]
      clear hd
      have hv1 := modF_nonneg x 2147483647
      have hv2 := modF_lt x (m := 2147483647) (by omega)
      go_wp2_with (go_at_call 37; refine (implMod_any _ _ _ HXR.out).mono ?_; rintro e w' ⟨rfl, rfl⟩)
      go_roundw
      case rel => exact ⟨k + 1, by omega, by go_num, by rw [HD.out, hashS, ← modulus_mod]; first | rfl | go_num, hbel⟩
      case measure => simp [intOf]; omega
    · obtain rfl : k = n := by omega
      have HN : Hid (hashF (l.take k) = hashF l) := by rw [List.take_of_length_le (Nat.le_of_eq la.out)]; exact rfl
      go_wp2
      go_ret
      exact ⟨ret_int HN.out.symm, hbel⟩
end Go.Proofs.Ytiliahafaldfcaa
