/-
  Proved: the contracts of EqualRecords, of the program and of the reference. Conditions: the slices read as lists.
  By an AI agent; no person has read it.
-/
import Derived.Test.YtbbngihmjdndoaaFldL
import Derived.Laws.StructEq
namespace Go.Proofs.Ytbbngihmjdndoaa
open Go.RowKit

/-- The test of two fields. -/
def eqF (f g : Fld) : Bool := f.1.toList == g.1.toList && f.2 == g.2
theorem eqF_iff {f g : Fld} : eqF f g = true ↔ f = g := by
  obtain ⟨⟨⟨a⟩⟩, x⟩ := f
  obtain ⟨⟨⟨b⟩⟩, y⟩ := g
  simp only [eqF, ByteArray.toList_eq, Bool.and_eq_true, beq_iff_eq]
  constructor
  · rintro ⟨rfl, rfl⟩
    rfl
  · intro h
    injection h with h1 h2
    injection h1 with h1
    injection h1 with h1
    exact ⟨h1, h2⟩
theorem eqF_true {f g : Fld} (h : f = g) : eqF f g = true := eqF_iff.2 h
theorem eqF_false {f g : Fld} (h : f ≠ g) : eqF f g = false := by
  cases e : eqF f g
  · rfl
  · exact absurd (eqF_iff.1 e) h
theorem run_neqF (s : ByteArray) (x : Int) (s2 : ByteArray) (x2 : Int) (w : World) :
    (binOp .neq 91 (.agg #[.string s, .int .i64 x]) (.agg #[.string s2, .int .i64 x2])).run Try.prog w = .ok (.bool (!(eqF (s, x) (s2, x2)))) w := by
  have u3 := Try.underlying3
  have u9 := Try.underlying9
  have a3 := Try.isAgg3
  have z3 := Try.sizeOf3
  have a9 := Try.isAgg9
  have z9 := Try.sizeOf9
  have hS : Try.prog.underlying 91 = some (.struct (Try.prog.fieldsOf 91)) := by kernel_rfl
  have hp : Try.prog.stoodInHeld 91 = false := by kernel_rfl
  rw [run_neq_struct, show (10000 : Nat) = 9999 + 1 from rfl, run_equalIn_agg w 9999 91 _ _ hS hp]
  simp only [Program.fieldsOf, Try.underlying91]
  go_simp
  unfold eqF
  by_cases h1 : s.toList = s2.toList <;> by_cases h2 : x = x2 <;> simp [h1, h2]
theorem run_guardF (op : BinOp) (a b : Operand) (xs ys : Array Value) (w : World) : (eqGuard op 91 a b (.agg xs) (.agg ys)).run Try.prog w = .ok () w := run_eqGuard_agg w op 91 a b xs ys (by kernel_rfl)

set_option maxRecDepth 100000 in
theorem slicesEqualF_any (A B : Option Addr) (n m c d : Nat) (xs ys : List Fld) (r : Bool) (w : World) (hn : n ≤ maxLen) (hm : m ≤ maxLen) (ha : Rd w 2 A n (fl xs)) (hb : Rd w 2 B m (fl ys)) (hr : r = decide (xs = ys)) :
    Calls Try.prog 83 #[.slice A n c, .slice B m d] w fun e w' => e = .returned (.bool r) ∧ Below w.heap.size w w' := by
  unfold maxLen at hn hm
  have HR := Lib.hid hr
  have LX := Lib.hid ha.lenF
  have LY := Lib.hid hb.lenF
  clear hr
  by_cases hnm : n = m
  · subst hnm
    go_enter Try.func83, Try.ntmps83
    go_wp2
    go_loopw [5, 13] (fun _ i wr => ∃ k : Nat, k ≤ n ∧ i = .int .i64 k ∧ xs.take k = ys.take k ∧ Below w.heap.size w wr) (fun _ i _ => n - (intOf i).toNat)
    case atStart => exact ⟨0, Nat.zero_le _, rfl, rfl, Below.refl _ _⟩
    case round =>
      obtain ⟨k, hk, rfl, heq, hbel⟩ := hrel
      have HE := Lib.hid heq
      clear heq
      by_cases hlt : k < n
      · obtain ⟨b, o, s, x, rfl, _hb1, hx, hc0, hc1⟩ := (ha.below hbel).fld hlt
        obtain ⟨b2, o2, s2, x2, rfl, _hb2, hx2, hd0, hd1⟩ := (hb.below hbel).fld hlt
        have i0 : (0 : Int) ≤ (k : Int) := by omega
        have i1 : (k : Int) < (n : Int) := by omega
        have hne := run_neqF s x s2 x2
        have hgd := run_guardF
        by_cases hs : (s, x) = (s2, x2)
        · have HN := Lib.hid (take_eq_step hx hx2 HE.out hs)
          have he := eqF_true hs
          clear hx hx2 hs
          go_wp2
          go_quiet (fail)
          go_wp2
          go_roundw
          case rel => exact ⟨k + 1, by omega, by go_num, HN.out, below_drewN hbel _⟩
          case measure => simp [intOf]; omega
        · have HN := Lib.hid (ne_of_at hx hx2 hs)
          have he := eqF_false hs
          clear hx hx2 hs
          go_wp2
          go_quiet (fail)
          go_wp2
          go_ret
          exact ⟨ret_bool (by rw [HR.out]; exact decide_eq_false HN.out), below_drewN hbel _⟩
      · obtain rfl : k = n := by omega
        have HN : Hid (xs = ys) := by
          have := HE.out
          rwa [List.take_of_length_le (Nat.le_of_eq LX.out), List.take_of_length_le (Nat.le_of_eq LY.out)] at this
        go_wp2
        go_ret
        exact ⟨ret_bool (by rw [HR.out]; exact decide_eq_true HN.out), hbel⟩
  · have HN : Hid (xs ≠ ys) := by
      rintro rfl
      exact hnm (LX.out.symm.trans LY.out)
    have h1 : ¬ (n : Int) = (m : Int) := by omega
    go_enter Try.func83, Try.ntmps83
    go_wp2
    go_ret
    exact ⟨ret_bool (by rw [HR.out]; exact decide_eq_false HN.out), Below.refl _ _⟩

theorem implEqualRecords_any (A B : Option Addr) (n m c d : Nat) (xs ys : List Fld) (r : Bool) (w : World) (hn : n ≤ maxLen) (hm : m ≤ maxLen) (ha : Rd w 2 A n (fl xs)) (hb : Rd w 2 B m (fl ys)) (hr : r = decide (xs = ys)) :
    Calls Try.prog 27 #[.agg #[.slice A n c], .agg #[.slice B m d]] w fun e w' => e = .returned (.bool r) ∧ Below w.heap.size w w' := by
  have HR := Lib.hid hr
  clear hr
  go_enter Try.func27, Try.ntmps27
  go_wp2_with fail
  refine (slicesEqualF_any A B n m c d xs ys r _ hn hm ((ha.alloc _).alloc _) ((hb.alloc _).alloc _) HR.out).mono ?_
  rintro e w1 ⟨rfl, b1⟩
  go_wp2
  go_ret
  exact ⟨rfl, Below.trans (al (al (Below.refl _ _))) (b1.mono (by simp; omega))⟩

set_option maxRecDepth 100000 in
theorem specEqualRecords_any (A B : Option Addr) (n m c d : Nat) (xs ys : List Fld) (r : Bool) (w : World) (hn : n ≤ maxLen) (hm : m ≤ maxLen) (ha : Rd w 2 A n (fl xs)) (hb : Rd w 2 B m (fl ys)) (hr : r = decide (xs = ys)) :
    Calls Try.prog 26 #[.agg #[.slice A n c], .agg #[.slice B m d]] w fun e w' => e = .returned (.bool r) ∧ Below w.heap.size w w' := by
  unfold maxLen at hn hm
  have HR := Lib.hid hr
  have LX := Lib.hid ha.lenF
  have LY := Lib.hid hb.lenF
  clear hr
  by_cases hnm : n = m
  · subst hnm
    go_enter Try.func26, Try.ntmps26
    go_wp2
    go_loopw [5] (fun i wr => ∃ k : Nat, k ≤ n ∧ i = .int .i64 k ∧ xs.take k = ys.take k ∧ Below w.heap.size w wr ∧ wr.cell? ⟨w.heap.size, 0, none⟩ = some (.slice A n c) ∧ wr.cell? ⟨w.heap.size + 1, 0, none⟩ = some (.slice B n d)) (fun i _ => n - (intOf i).toNat)
    case atStart => exact ⟨0, Nat.zero_le _, rfl, rfl, al (al (Below.refl _ _)), by simp, by simp⟩
    case round =>
      obtain ⟨k, hk, rfl, heq, hbel, hp0, hp1⟩ := hrel
      have HE := Lib.hid heq
      clear heq
      by_cases hlt : k < n
      · obtain ⟨b, o, s, x, rfl, _hb1, hx, hc0, hc1⟩ := (ha.below hbel).fld hlt
        obtain ⟨b2, o2, s2, x2, rfl, _hb2, hx2, hd0, hd1⟩ := (hb.below hbel).fld hlt
        have i0 : (0 : Int) ≤ (k : Int) := by omega
        have i1 : (k : Int) < (n : Int) := by omega
        have hne := run_neqF s x s2 x2
        have hgd := run_guardF
        by_cases hs : (s, x) = (s2, x2)
        · have HN := Lib.hid (take_eq_step hx hx2 HE.out hs)
          have he := eqF_true hs
          clear hx hx2 hs
          go_wp2
          go_quiet (fail)
          go_wp2
          go_roundw
          case rel => exact ⟨k + 1, by omega, by go_num, HN.out, below_drewN hbel _, by simpa using hp0, by simpa using hp1⟩
          case measure => simp [intOf]; omega
        · have HN := Lib.hid (ne_of_at hx hx2 hs)
          have he := eqF_false hs
          clear hx hx2 hs
          go_wp2
          go_quiet (fail)
          go_wp2
          go_ret
          exact ⟨ret_bool (by rw [HR.out]; exact decide_eq_false HN.out), below_drewN hbel _⟩
      · obtain rfl : k = n := by omega
        have HN : Hid (xs = ys) := by
          have := HE.out
          rwa [List.take_of_length_le (Nat.le_of_eq LX.out), List.take_of_length_le (Nat.le_of_eq LY.out)] at this
        go_wp2
        go_ret
        exact ⟨ret_bool (by rw [HR.out]; exact decide_eq_true HN.out), hbel⟩
  · have HN : Hid (xs ≠ ys) := by
      rintro rfl
      exact hnm (LX.out.symm.trans LY.out)
    have h1 : ¬ (n : Int) = (m : Int) := by omega
    go_enter Try.func26, Try.ntmps26
    go_wp2
    go_ret
    exact ⟨ret_bool (by rw [HR.out]; exact decide_eq_false HN.out), al (al (Below.refl _ _))⟩
end Go.Proofs.Ytbbngihmjdndoaa
