/-
  Proved: the contracts of the laws' marking of fields and records, and of their test that these hold the marks. Conditions: the slice is the run's own row (marking), or reads as a list (the test).
  By an AI agent; no person has read it.
-/
import Derived.Test.YtbbngihmjdndoaaFldL
import Derived.Test.YtbbngihmjdndoaaStr
import Derived.Laws.Concat
import Derived.Deep.RegionHeld3
namespace Go.Proofs.Ytbbngihmjdndoaa
open Go.RowKit

/-- The digits of a number ahead of a text, with fuel. -/
def digs : Nat → Nat → ByteArray → ByteArray
  | 0, _, out => out
  | f + 1, k, out => if k = 0 then out else digs f (k / 10) (strOf [UInt8.ofNat (48 + k % 10)] ++ out)
/-- The text that marks k. -/
def mtxt (k : Nat) : ByteArray := strOf [109] ++ digs k k ⟨#[]⟩
theorem cat_size (a b : ByteArray) : (a ++ b).size = a.size + b.size := ByteArray.size_append

set_option maxRecDepth 100000 in
theorem markText_any (k : Nat) (w : World) (h0 : 0 < k) (h1 : k ≤ 1099511627776) :
    Calls Try.prog 116 #[.int .i64 (k : Int)] w fun e w' => e = .returned (.string (mtxt k)) ∧ Below w.heap.size w w' := by
  go_enter Try.func116, Try.ntmps116
  go_wp2
  go_loopw [0, 3] (fun v o wr => ∃ (j f : Nat) (out : ByteArray), v = .int .i64 (j : Int) ∧ o = .string out ∧ j ≤ f ∧ digs f j out = digs k k ⟨#[]⟩ ∧ out.size + j ≤ k ∧ Below w.heap.size w wr) (fun v _ _ => (intOf v).toNat)
  case atStart => exact ⟨k, k, ⟨#[]⟩, rfl, rfl, Nat.le_refl _, rfl, by simp [ByteArray.size], Below.refl _ _⟩
  case round =>
    obtain ⟨j, f, out, rfl, rfl, hjf, hd, hs, hbel⟩ := hrel
    have HD := Lib.hid hd
    clear hd
    by_cases hj : 0 < j
    · obtain ⟨f, rfl⟩ : ∃ f', f = f' + 1 := ⟨f - 1, by omega⟩
      obtain ⟨D, hDe⟩ : ∃ D, D = strOf [UInt8.ofNat (48 + j % 10)] := ⟨_, rfl⟩
      have hD1 : D.size = 1 := by rw [hDe, strOf_size]; rfl
      have hcv : (convert 58 9 (.slice (some ⟨wr.heap.size, 0, none⟩) 1 1)).run Try.prog (wr.alloc (.cells #[.int .u8 (48 + (j : Int) % 10)] 5)) = .ok (.string D) (wr.alloc (.cells #[.int .u8 (48 + (j : Int) % 10)] 5)) := by
        rw [hDe]
        refine run_str_of _ _ _ 5 _ _ _ _ Try.underlying58 Try.underlying5 Try.underlying9 ⟨by simp, fun _ => ⟨_, _, rfl, by simp, fun i u hu => ?_⟩⟩
        match i, hu with
        | 0, hu =>
          simp only [List.map_cons, List.map_nil, List.getElem?_cons_zero, Option.some.injEq] at hu
          subst hu
          simp [bv]
          omega
      have hsum : D.size + out.size ≤ 9223372036854775807 := by omega
      have HN : Hid (digs f (j / 10) (D ++ out) = digs k k ⟨#[]⟩) := by
        have := HD.out
        rw [digs, if_neg (by omega), ← hDe] at this
        exact this
      have hsz2 : (D ++ out).size + j / 10 ≤ k := by rw [cat_size]; omega
      have HZ := Lib.hid hsz2
      clear hsz2 hD1 hDe HD
      go_wp2
      go_roundw
      case rel => exact ⟨j / 10, f, _, by go_num, rfl, by omega, HN.out, HZ.out, al hbel⟩
      case measure => simp [intOf]; omega
    · obtain rfl : j = 0 := by omega
      have HN : Hid (digs k k ⟨#[]⟩ = out) := by
        have := HD.out
        cases f with
        | zero => exact this.symm
        | succ f => rw [digs, if_pos rfl] at this; exact this.symm
      go_wp2
      go_ret
      exact ⟨ret_str (by unfold mtxt; rw [HN.out]; rfl), hbel⟩

/-- The marks of n fields from k on. -/
def marksF (k n : Nat) : List Fld := (List.range n).map fun j => (mtxt (k + 2 * j), ((k + 2 * j + 1 : Nat) : Int))
theorem marksF_len (k n : Nat) : (marksF k n).length = n := by simp [marksF]
theorem marksF_at {k n j : Nat} (hj : j < n) : (marksF k n)[j]? = some (mtxt (k + 2 * j), ((k + 2 * j + 1 : Nat) : Int)) := by simp [marksF, hj]
theorem grown_of {w w' : World} (hb : Below w.heap.size w w') (row : Option Nat) : w.grownBy w' row := ⟨hb.os, hb.tape, hb.output, hb.size, fun k hk _ => hb.block k hk⟩

set_option maxRecDepth 100000 in
set_option maxHeartbeats 400000 in
theorem markFieldS_any (A : Option Addr) (n c base k : Nat) (cells : List Value) (w : World) (h0 : 0 < k) (h1 : k + 2 * n ≤ 1099511627776) (ha : w.ownsRow base 91 2 (.slice A n c) n cells) :
    Calls Try.prog 81 #[.slice A n c, .int .i64 (k : Int)] w fun e w' => e = .returned (.int .i64 ((k + 2 * n : Nat) : Int)) ∧ w'.ownsRow base 91 2 (.slice A n c) n (fl (marksF k n)) ∧ w.grownBy w' (A.map (·.block)) := by
  have HC := Lib.hid ha
  clear ha
  go_enter Try.func81, Try.ntmps81
  go_wp2
  go_loopw [1, 5] (fun q i wr => ∃ (j : Nat) (cur : List Value), j ≤ n ∧ i = .int .i64 j ∧ q = .int .i64 ((k + 2 * j : Nat) : Int) ∧ wr.ownsRow base 91 2 (.slice A n c) n cur ∧ cur.take (j * 2) = fl ((marksF k n).take j) ∧ w.grownBy wr (A.map (·.block))) (fun _ i _ => n - (intOf i).toNat)
  case atStart => exact ⟨0, _, Nat.zero_le _, rfl, rfl, HC.out, rfl, World.grownBy.refl _ _⟩
  case round =>
    obtain ⟨j, cur, hj, rfl, rfl, hown, heq, hgr⟩ := hrel
    have HE := Lib.hid heq
    have HG := Lib.hid hgr
    clear heq hgr
    have hlen : cur.length = n * 2 := hown.1
    by_cases hlt : j < n
    · obtain ⟨g, cap, hv, _, hglt⟩ := hown.form (by omega)
      obtain rfl : A = some ⟨g, 0, none⟩ := by injection hv
      clear hv
      obtain ⟨m, hm⟩ : ∃ m, m = k + 2 * j := ⟨_, rfl⟩
      rw [← hm]
      have hm0 : 0 < m := by omega
      have hm1 : m ≤ 1099511627776 := by omega
      have HM := Lib.hid hm
      clear hm
      go_wp2_with fail
      refine (markText_any m _ hm0 hm1).mono ?_
      rintro e w2 ⟨rfl, b2⟩
      have o2 := own_below hown b2
      obtain ⟨u0, hu0⟩ : ∃ u, cur[j * 2]? = some u := ⟨cur[j * 2]'(by omega), List.getElem?_eq_getElem (by omega)⟩
      obtain ⟨u1, hu1⟩ : ∃ u, cur[j * 2 + 1]? = some u := ⟨cur[j * 2 + 1]'(by omega), List.getElem?_eq_getElem (by omega)⟩
      have d0 : w2.cell? ⟨g, j * 2, none⟩ = some u0 := by rw [o2.cellAt (j * 2) (by omega), hu0]
      have d1 : w2.cell? ⟨g, j * 2 + 1, none⟩ = some u1 := by rw [o2.cellAt (j * 2 + 1) (by omega), hu1]
      have f0 := o2.frozenAt (j * 2)
      have f1 := o2.frozenAt (j * 2 + 1)
      have s1 := o2.stored (j * 2) (.string (mtxt m))
      have s2 := s1.1.stored (j * 2 + 1) (.int .i64 ((m : Int) + 1))
      have HT := Lib.hid (((HG.out.trans (grown_of b2 _)).trans s1.2).trans s2.2)
      have HS := Lib.hid (fl_copy (s := mtxt m) (x := (m : Int) + 1) hlen hlt (by rw [marksF_at hlt, HM.out]; rfl) HE.out)
      have hst := s2.1
      clear hown b2 s1 s2 hlen hu0 hu1
      go_wp2
      go_roundw
      case rel => exact ⟨j + 1, _, by omega, by go_num, by (rw [show (m : Int) + 1 + 1 = ((k + 2 * (j + 1) : Nat) : Int) by rw [HM.out]; omega]), hst, HS.out, HT.out⟩
      case measure => simp [intOf]; omega
    · obtain rfl : j = n := by omega
      have hall : cur = fl (marksF k j) := by
        have := HE.out
        rwa [List.take_of_length_le (Nat.le_of_eq hlen), List.take_of_length_le (Nat.le_of_eq (marksF_len _ _))] at this
      subst hall
      clear hlen
      go_wp2
      go_ret
      exact ⟨rfl, hown, HG.out⟩

set_option maxRecDepth 100000 in
set_option maxHeartbeats 400000 in
theorem heldFieldS_any (A : Option Addr) (n c k : Nat) (w : World) (h0 : 0 < k) (h1 : k + 2 * n ≤ 1099511627776) (ha : Rd w 2 A n (fl (marksF k n))) :
    Calls Try.prog 82 #[.slice A n c, .int .i64 (k : Int)] w fun e w' => e = .returned (.int .i64 ((k + 2 * n : Nat) : Int)) ∧ Below w.heap.size w w' := by
  go_enter Try.func82, Try.ntmps82
  go_wp2
  go_loopw [1, 5] (fun q i wr => ∃ (j : Nat), j ≤ n ∧ i = .int .i64 j ∧ q = .int .i64 ((k + 2 * j : Nat) : Int) ∧ Below w.heap.size w wr) (fun _ i _ => n - (intOf i).toNat)
  case atStart => exact ⟨0, Nat.zero_le _, rfl, rfl, Below.refl _ _⟩
  case round =>
    obtain ⟨j, hj, rfl, rfl, hbel⟩ := hrel
    by_cases hlt : j < n
    · obtain ⟨b, o, s, x, rfl, _hb1, hx, hc0, hc1⟩ := (ha.below hbel).fld hlt
      rw [marksF_at hlt] at hx
      obtain ⟨m, hm⟩ : ∃ m, m = k + 2 * j := ⟨_, rfl⟩
      rw [← hm] at hx ⊢
      obtain ⟨rfl, rfl⟩ : mtxt m = s ∧ ((m + 1 : Nat) : Int) = x := by simpa using hx
      have hm0 : 0 < m := by omega
      have hm1 : m ≤ 1099511627776 := by omega
      have HM := Lib.hid hm
      have i0 : (0 : Int) ≤ (j : Int) := by omega
      have i1 : (j : Int) < (n : Int) := by omega
      clear hm hx
      go_wp2
      go_region_held3 (fun W => Below wr.heap.size wr W ∧ W.cell? ⟨b, o + j * 2, none⟩ = some (.string (mtxt m)) ∧ W.cell? ⟨b, o + j * 2 + 1, none⟩ = some (.int .i64 ((m + 1 : Nat) : Int)))
        (first | assumption | (refine sz2 ?_ hq rfl; assumption) | exact ⟨(Below.refl _ _).drew, hc0, hc1⟩)
        (first
          | (go_at_call 116; refine (markText_any m _ hm0 hm1).mono ?_; rintro e W1 ⟨rfl, hq⟩))
      obtain ⟨BZ, _, dZ⟩ := ‹Below wr.heap.size wr _ ∧ _›
      have BY := hbel.trans (BZ.mono hbel.size)
      go_wp2
      go_roundw
      case rel => exact ⟨j + 1, by omega, by go_num, by (rw [show (m : Int) + 1 + 1 = ((k + 2 * (j + 1) : Nat) : Int) by rw [HM.out]; omega]), BY⟩
      case measure => simp [intOf]; omega
    · obtain rfl : j = n := by omega
      go_wp2
      go_ret
      exact ⟨rfl, hbel⟩

theorem markRecord_any (A : Option Addr) (n c base k : Nat) (cells : List Value) (w : World) (h0 : 0 < k) (h1 : k + 2 * n ≤ 1099511627776) (ha : w.ownsRow base 91 2 (.slice A n c) n cells) :
    Calls Try.prog 24 #[.agg #[.slice A n c], .int .i64 (k : Int)] w fun e w' => e = .returned (.int .i64 ((k + 2 * n : Nat) : Int)) ∧ w'.ownsRow base 91 2 (.slice A n c) n (fl (marksF k n)) ∧ w.grownBy w' (A.map (·.block)) := by
  have HC := Lib.hid ha
  clear ha
  go_enter Try.func24, Try.ntmps24
  go_wp2_with fail
  refine (markFieldS_any A n c base k cells _ h0 h1 (HC.out.alloc _)).mono ?_
  rintro e w1 ⟨rfl, o1, g1⟩
  have HO := Lib.hid o1
  have HG := Lib.hid ((World.grownBy_alloc w _ _).trans g1)
  clear o1 g1
  go_wp2
  go_ret
  exact ⟨rfl, HO.out, HG.out⟩

theorem heldRecord_any (A : Option Addr) (n c k : Nat) (w : World) (h0 : 0 < k) (h1 : k + 2 * n ≤ 1099511627776) (ha : Rd w 2 A n (fl (marksF k n))) :
    Calls Try.prog 25 #[.agg #[.slice A n c], .int .i64 (k : Int)] w fun e w' => e = .returned (.int .i64 ((k + 2 * n : Nat) : Int)) ∧ Below w.heap.size w w' := by
  go_enter Try.func25, Try.ntmps25
  go_wp2_with fail
  refine (heldFieldS_any A n c k _ h0 h1 (ha.alloc _)).mono ?_
  rintro e w1 ⟨rfl, b1⟩
  obtain ⟨m, hm⟩ : ∃ m, m = k + 2 * n := ⟨_, rfl⟩
  rw [← hm]
  have HM := Lib.hid hm
  clear hm
  go_wp2
  go_ret
  exact ⟨ret_int (by rw [HM.out]), Below.trans (al (Below.refl _ _)) (b1.mono (by simp))⟩
end Go.Proofs.Ytbbngihmjdndoaa
