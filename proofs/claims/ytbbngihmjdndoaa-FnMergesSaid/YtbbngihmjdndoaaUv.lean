/-
  Proved: the contracts of copyBytes and of AppendUvarint, of the program and of the reference. Conditions: the slice reads as a list of at most 2^40 bytes.
  By an AI agent; no person has read it.
-/
import Derived.Test.YtbbngihmjdndoaaTypes
import Derived.Test.YtbbngihmjdndoaaArith
import Derived.Test.YtbbngihmjdndoaaUvP
namespace Go.Proofs.Ytbbngihmjdndoaa
open Go.RowKit

theorem copyBytes_any (A : Option Addr) (n c : Nat) (l : List UInt8) (w : World) (hn : n ≤ 1099511627776) (ha : Rd w 1 A n (l.map bv)) :
    Calls Try.prog 141 #[.slice A n c] w (MkB w l) := by
  obtain ⟨i0, hi, hz0, hz1, hz2⟩ := info_parts infoU8
  go_enter Try.func141, Try.ntmps141
  go_wp2_with (at_builtin; refine wpList_cat (w.alloc (.cells #[] 5)) rfl _ _ 58 rfl w.heap.size 5 i0 (.int .u8 0) 1 1 Try.underlying58 hi hz0 hz1 hz2 rfl (by decide) _ _ _ [] rfl (own_new (Nat.le_refl _)) A n c (l.map bv) rfl (ha.alloc _) (ones_bv l) ?c1 ?c2 ?c3 ?_)
  case c1 => unfold maxLen; omega
  case c2 => omega
  case c3 => simp
  intro A' k' c' w1 hk hown hb _
  have HK := Lib.hid hk
  have HB := Lib.hid (((Below.refl _ _).alloc (Nat.le_refl _) _).trans hb : Below w.heap.size w w1)
  clear hk hb
  go_wp2
  go_ret
  exact ⟨_, _, _, rfl, hown, HB.out⟩

theorem bv_of {n : Nat} {z : Int} (h : n < 256) (hz : z = (n : Int)) : Value.int .u8 z = bv (UInt8.ofNat n) := by
  unfold bv
  rw [hz, UInt8.toNat_ofNat', Nat.mod_eq_of_lt h]

/-- A pushed byte, read as a byte. -/
theorem push_bv {w : World} {base : Nat} {E : TypeId} {v : Value} {k n : Nat} {z : Int} {pre : List UInt8} (h : w.ownsRow base E 1 v k (pre.map bv ++ [.int .u8 z])) (hn : n < 256) (hz : z = (n : Int)) :
    w.ownsRow base E 1 v k ((pre ++ [UInt8.ofNat n]).map bv) := by
  rw [bv_of hn hz] at h
  simpa using h
theorem uvar_step {m : Nat} {pre l : List UInt8} (hm : 128 ≤ m) (h : pre ++ uvar m = l) : (pre ++ [UInt8.ofNat (m % 128 + 128)]) ++ uvar (m / 128) = l := by
  rw [uvar_big hm] at h
  rw [← h]
  simp
theorem uvar_last {m : Nat} {pre l : List UInt8} (hm : m < 128) (h : pre ++ uvar m = l) : pre ++ [UInt8.ofNat m] = l := by
  rw [uvar_small hm] at h
  exact h

set_option maxRecDepth 100000 in
set_option maxHeartbeats 400000 in
theorem implAppendUvarint_any (A : Option Addr) (n c : Nat) (l : List UInt8) (x : Int) (w : World) (hn : n ≤ 1099511627776) (ha : Rd w 1 A n (l.map bv)) :
    Calls Try.prog 96 #[.slice A n c, .int .i64 x] w (MkB w (appU l x)) := by
  obtain ⟨i0, hi, hz0, hz1, hz2⟩ := info_parts infoU8
  have la := ha.lenB
  by_cases hx : 0 ≤ x ∧ x ≤ 1000000000000
  · obtain ⟨m0, rfl⟩ : ∃ m0 : Nat, x = (m0 : Int) := ⟨x.toNat, by omega⟩
    have HL := Lib.hid la
    have HF := Lib.hid (appU_in l hx.1 hx.2)
    have hl6 := uvar_len6 (n := m0) (by omega)
    have hx2 := hx.2
    clear la
    go_enter Try.func96, Try.ntmps96
    go_wp2_with fail
    refine (copyBytes_any A n c l w hn ha).mono ?_
    rintro e w1 ⟨A1, n1, c1, rfl, ho1, hb1⟩
    have hl1 := own_lenB ho1
    have HL1 := Lib.hid hl1
    have hn1 : n1 ≤ 1099511627776 := by have := HL.out; omega
    clear hl1
    go_wp2_with (go_at_call 88; refine (InRange_any _ _ _ true _ (inR_true hx.1 hx.2).symm).mono ?_; rintro e w' ⟨rfl, rfl⟩)
    go_loopw [1, 5] (fun q v wr => ∃ (m : Nat) (B : Option Addr) (k d : Nat) (pre : List UInt8), m ≤ 1000000000000 ∧ q = .int .i64 m ∧ v = .slice B k d ∧ wr.ownsRow w.heap.size 5 1 (.slice B k d) k (pre.map bv) ∧ pre ++ uvar m = l ++ uvar m0 ∧ Below w.heap.size w wr) (fun q _ _ => (intOf q).toNat)
    case atStart => exact ⟨m0, _, _, _, l, by omega, rfl, rfl, ho1, rfl, hb1⟩
    case round =>
      obtain ⟨m, B, k, d, pre, hm, rfl, rfl, ho, heq, hbel⟩ := hrel
      clear ho1 hb1
      have hk : k ≤ 1099511627800 := by
        have h1 := congrArg List.length heq
        have h2 := own_lenB ho
        have h3 := HL.out
        simp only [List.length_append] at h1
        omega
      have HE := Lib.hid heq
      clear heq
      have hbs := hbel.size
      by_cases hlt : 128 ≤ m
      · go_wp2_with (at_builtin; refine wpList_push wr rfl _ _ 58 rfl w.heap.size 5 i0 (.int .u8 0) 1 Try.underlying58 hi hz0 hz1 hz2 rfl B k d _ (by rfl) ho _ (by rfl) (by rfl) ?c1 ?c2 ?c3 ?_)
        case c1 => unfold maxLen; omega
        case c2 => omega
        case c3 => exact hbs
        intro A' k' c' w2 hk2 ho2 hb2
        have HO := Lib.hid (push_bv ho2 (n := m % 128 + 128) (by omega) (by simp))
        have HE2 := Lib.hid (uvar_step hlt HE.out)
        have HB := Lib.hid (hbel.trans hb2)
        clear hk2 ho2 hb2
        go_wp2
        go_roundw
        case rel => exact ⟨m / 128, _, _, _, _, by omega, by go_num, rfl, HO.out, HE2.out, HB.out⟩
        case measure => simp [intOf]; omega
      · go_wp2_with (at_builtin; refine wpList_push wr rfl _ _ 58 rfl w.heap.size 5 i0 (.int .u8 0) 1 Try.underlying58 hi hz0 hz1 hz2 rfl B k d _ (by rfl) ho _ (by rfl) (by rfl) ?d1 ?d2 ?d3 ?_)
        case d1 => unfold maxLen; omega
        case d2 => omega
        case d3 => exact hbs
        intro A' k' c' w2 hk2 ho2 hb2
        have HO := Lib.hid (push_bv ho2 (n := m) (by omega) rfl)
        have HE2 := Lib.hid (uvar_last (by omega) HE.out)
        have HB := Lib.hid (hbel.trans hb2)
        clear hk2 ho2 hb2
        go_wp2
        go_ret
        exact ⟨_, _, _, rfl, by rw [HF.out]; have := HO.out; rw [HE2.out] at this; simpa using this, HB.out⟩
  · have HF := Lib.hid (appU_out l hx)
    have HX := Lib.hid (decide_eq_false hx : inR x 0 1000000000000 = false)
    clear hx la
    go_enter Try.func96, Try.ntmps96
    go_wp2_with fail
    refine (copyBytes_any A n c l w hn ha).mono ?_
    rintro e w1 ⟨A1, n1, c1, rfl, ho1, hb1⟩
    go_wp2_with (go_at_call 88; refine (InRange_any _ _ _ false _ HX.out.symm).mono ?_; rintro e w' ⟨rfl, rfl⟩)
    go_ret
    exact ⟨_, _, _, rfl, by rw [HF.out]; exact ho1, hb1⟩

set_option maxRecDepth 100000 in
set_option maxHeartbeats 400000 in
theorem specAppendUvarint_any (A : Option Addr) (n c : Nat) (l : List UInt8) (x : Int) (w : World) (hn : n ≤ 1099511627776) (ha : Rd w 1 A n (l.map bv)) :
    Calls Try.prog 94 #[.slice A n c, .int .i64 x] w (MkB w (appU l x)) := by
  obtain ⟨i0, hi, hz0, hz1, hz2⟩ := info_parts infoU8
  have la := ha.lenB
  go_enter Try.func94, Try.ntmps94
  go_wp2_with (at_builtin; refine wpList_cat (w.alloc (.cells #[] 5)) rfl _ _ 58 rfl w.heap.size 5 i0 (.int .u8 0) 1 1 Try.underlying58 hi hz0 hz1 hz2 rfl (by decide) _ _ _ [] rfl (own_new (Nat.le_refl _)) A n c (l.map bv) rfl (ha.alloc _) (ones_bv l) ?c1 ?c2 ?c3 ?_)
  case c1 => unfold maxLen; omega
  case c2 => omega
  case c3 => simp
  intro A1 n1 c1 w1 hk1 ho1 hb0 _
  have hb1 : Below w.heap.size w w1 := ((Below.refl _ _).alloc (Nat.le_refl _) _).trans hb0
  have HO1 := Lib.hid ho1
  have HB1 := Lib.hid hb1
  have HL1 : Hid (l.length = n1) := by have := own_lenB (by simpa using ho1 : w1.ownsRow w.heap.size 5 1 (.slice A1 n1 c1) n1 (l.map bv)); exact this
  have HL := Lib.hid la
  clear hk1 ho1 hb0 hb1 la
  by_cases hx : 0 ≤ x ∧ x ≤ 1000000000000
  · obtain ⟨m0, rfl⟩ : ∃ m0 : Nat, x = (m0 : Int) := ⟨x.toNat, by omega⟩
    have HF := Lib.hid (appU_in l hx.1 hx.2)
    have hl6 := uvar_len6 (n := m0) (by omega)
    have hx2 := hx.2
    go_wp2_with (go_at_call 86; refine (l1In_any _ _ _ true _ (inR_true hx.1 hx.2).symm).mono ?_; rintro e w' ⟨rfl, rfl⟩)
    go_loopw [1, 5] (fun q v wr => ∃ (m : Nat) (B : Option Addr) (k d : Nat) (pre : List UInt8), m ≤ 1000000000000 ∧ q = .int .i64 m ∧ v = .slice B k d ∧ wr.ownsRow w.heap.size 5 1 (.slice B k d) k (pre.map bv) ∧ pre ++ uvar m = l ++ uvar m0 ∧ Below w.heap.size w wr) (fun q _ _ => (intOf q).toNat)
    case atStart => exact ⟨m0, _, _, _, l, by omega, rfl, rfl, by simpa using HO1.out, rfl, HB1.out⟩
    case round =>
      obtain ⟨m, B, k, d, pre, hm, rfl, rfl, ho, heq, hbel⟩ := hrel
      clear HO1 HB1
      have hk : k ≤ 1099511627800 := by
        have h1 := congrArg List.length heq
        have h2 := own_lenB ho
        have h3 := HL.out
        simp only [List.length_append] at h1
        omega
      have HE := Lib.hid heq
      clear heq
      have hbs := hbel.size
      by_cases hlt : 128 ≤ m
      · obtain ⟨q, hq⟩ : ∃ q : Nat, q = m % 128 := ⟨_, rfl⟩
        have hand : bits .and .i64 (m : Int) 127 = (q : Int) := (i64_and_nat m 127 (by omega) (by omega)).trans (by rw [and127, hq])
        have hq2 : q < 128 := by omega
        have hor : bits .or .i64 (q : Int) 128 = (q : Int) + 128 := (i64_or_nat q 128 (by omega) (by omega)).trans (by rw [or128 hq2]; rfl)
        have HQ := Lib.hid hq
        clear hq
        go_wp2_with (at_builtin; refine wpList_push wr rfl _ _ 58 rfl w.heap.size 5 i0 (.int .u8 0) 1 Try.underlying58 hi hz0 hz1 hz2 rfl B k d _ (by rfl) ho _ (by rfl) (by rfl) ?e1 ?e2 ?e3 ?_)
        case e1 => unfold maxLen; omega
        case e2 => omega
        case e3 => exact hbs
        intro A' k' c' w2 hk2 ho2 hb2
        have HO := Lib.hid (push_bv ho2 (n := m % 128 + 128) (by omega) (by rw [← HQ.out]; rfl))
        have HE2 := Lib.hid (uvar_step hlt HE.out)
        have HB := Lib.hid (hbel.trans hb2)
        clear hk2 ho2 hb2
        go_wp2
        go_roundw
        case rel => exact ⟨m / 128, _, _, _, _, by omega, by go_num, rfl, HO.out, HE2.out, HB.out⟩
        case measure => simp [intOf]; omega
      · go_wp2_with (at_builtin; refine wpList_push wr rfl _ _ 58 rfl w.heap.size 5 i0 (.int .u8 0) 1 Try.underlying58 hi hz0 hz1 hz2 rfl B k d _ (by rfl) ho _ (by rfl) (by rfl) ?d1 ?d2 ?d3 ?_)
        case d1 => unfold maxLen; omega
        case d2 => omega
        case d3 => exact hbs
        intro A' k' c' w2 hk2 ho2 hb2
        have HO := Lib.hid (push_bv ho2 (n := m) (by omega) rfl)
        have HE2 := Lib.hid (uvar_last (by omega) HE.out)
        have HB := Lib.hid (hbel.trans hb2)
        clear hk2 ho2 hb2
        go_wp2
        go_ret
        exact ⟨_, _, _, rfl, by rw [HF.out]; have := HO.out; rw [HE2.out] at this; simpa using this, HB.out⟩
  · have HF := Lib.hid (appU_out l hx)
    have HX := Lib.hid (decide_eq_false hx : inR x 0 1000000000000 = false)
    clear hx
    go_wp2_with (go_at_call 86; refine (l1In_any _ _ _ false _ HX.out.symm).mono ?_; rintro e w' ⟨rfl, rfl⟩)
    go_ret
    exact ⟨_, _, _, rfl, by rw [HF.out]; simpa using HO1.out, HB1.out⟩
end Go.Proofs.Ytbbngihmjdndoaa
