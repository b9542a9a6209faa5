/-
  Proved: the contracts of EncodeInts, of the program and of the reference. Conditions: the slice reads as a list.
  By an AI agent; no person has read it.
-/
import Derived.Test.YtiliahafaldfcaaUv
namespace Go.Proofs.Ytiliahafaldfcaa
open Go.RowKit

def encI (l : List Int) : List UInt8 := l.foldl appU []
theorem encI_snoc (l : List Int) (n : Int) : encI (l ++ [n]) = appU (encI l) n := by simp [encI]
theorem foldl_appU_len : ∀ (l : List Int) (b : List UInt8), (l.foldl appU b).length ≤ b.length + 6 * l.length
  | [], b => by simp
  | n :: l, b => by
    have h1 := foldl_appU_len l (appU b n)
    have h2 := appU_len b n
    simp only [List.foldl_cons, List.length_cons]
    omega
theorem encI_len (l : List Int) : (encI l).length ≤ 6 * l.length := by have := foldl_appU_len l []; simpa [encI] using this

set_option maxRecDepth 100000 in
set_option maxHeartbeats 400000 in
theorem implEncodeInts_any (A : Option Addr) (n c : Nat) (l : List Int) (w : World) (hn : n ≤ 68719476736) (ha : Rd w 1 A n (l.map iv)) :
    Calls Try.prog 23 #[.slice A n c] w (MkB w (encI l)) := by
  have la := Lib.hid ha.lenI
  go_enter Try.func23, Try.ntmps23
  go_wp2
  go_loopw [3, 9] (fun v i wr => ∃ (k : Nat) (B : Option Addr) (m d : Nat), k ≤ n ∧ i = .int .i64 k ∧ v = .slice B m d ∧ wr.ownsRow w.heap.size 5 1 (.slice B m d) m ((encI (l.take k)).map bv) ∧ Below w.heap.size w wr) (fun _ i _ => n - (intOf i).toNat)
  case atStart => exact ⟨0, _, _, _, Nat.zero_le _, rfl, rfl, own_new (Nat.le_refl _), (Below.refl _ _).alloc (Nat.le_refl _) _⟩
  case round =>
    obtain ⟨k, B, m, d, hk, rfl, rfl, ho, hbel⟩ := hrel
    have hbs := hbel.size
    by_cases hlt : k < n
    · obtain ⟨b, o, x, rfl, _hb1, hx, hcx⟩ := (ha.below hbel).int hlt
      have HX := Lib.hid hx
      have hm : m ≤ 412316860416 := by
        have q1 := own_lenB ho
        have q2 := encI_len (l.take k)
        have q3 : (l.take k).length ≤ k := List.length_take_le _ _
        omega
      have HN : Hid (appU (encI (l.take k)) x = encI (l.take (k + 1))) := by rw [take_snoc hx, encI_snoc]; exact rfl
      clear hx
      go_wp2_with fail
      refine (implAppendUvarint_any B m d _ x wr (by omega) (Rd.of_own ho)).mono ?_
      rintro e w1 ⟨A1, n1, c1, rfl, ho1, hb1⟩
      rw [HN.out] at ho1
      have HO := Lib.hid (own_base ho1 hbs)
      have HB := Lib.hid (hbel.trans (hb1.mono hbs))
      clear ho1 hb1 ho
      go_wp2
      go_roundw
      case rel => exact ⟨k + 1, _, _, _, by omega, by go_num, rfl, HO.out, HB.out⟩
      case measure => simp [intOf]; omega
    · obtain rfl : k = n := by omega
      have HN : Hid (encI (l.take k) = encI l) := by rw [List.take_of_length_le (Nat.le_of_eq la.out)]; exact rfl
      have HO := Lib.hid ho
      clear ho
      go_wp2
      go_ret
      exact ⟨_, _, _, rfl, by rw [← HN.out]; exact HO.out, hbel⟩
end Go.Proofs.Ytiliahafaldfcaa
