/-
  Proved: the contracts of ReadBytes, of the program and of the reference. Conditions: the slice reads as a list; its length is at most its capacity.
  By an AI agent; no person has read it.
-/
import Derived.Test.YtbbngihmjdndoaaRd
import Derived.Test.YtbbngihmjdndoaaUv
import Derived.WalkSpells
namespace Go.Proofs.Ytbbngihmjdndoaa
open Go.RowKit

/-- ReadBytes at a place: the bytes, the place behind them. -/
def readB (l : List UInt8) (a mx : Int) : Option (List UInt8 × Nat) :=
  match readU l a with
  | some (m, k) => if (m : Int) ≤ mx ∧ m ≤ l.length - k then some ((l.drop k).take m, k + m) else none
  | none => none
/-- The results where nothing is read; where something is read. -/
def RbNo (w : World) (e : Ending) (w' : World) : Prop := ∃ A n c, e = .returned (.tuple #[.slice A n c, .int .i64 0, .bool false]) ∧ w'.ownsRow w.heap.size 5 1 (.slice A n c) n (([] : List UInt8).map bv) ∧ Below w.heap.size w w'
def RbYes (w : World) (d : List UInt8) (k : Nat) (e : Ending) (w' : World) : Prop := ∃ A n c, e = .returned (.tuple #[.slice A n c, .int .i64 (k : Int), .bool true]) ∧ w'.ownsRow w.heap.size 5 1 (.slice A n c) n (d.map bv) ∧ Below w.heap.size w w'

theorem readB_cases {l : List UInt8} {a mx : Int} : (readU l a = none ∧ readB l a mx = none) ∨ ∃ m k, readU l a = some (m, k) ∧ ((¬ ((m : Int) ≤ mx ∧ m ≤ l.length - k) ∧ readB l a mx = none) ∨ ((m : Int) ≤ mx ∧ m ≤ l.length - k ∧ readB l a mx = some ((l.drop k).take m, k + m))) := by
  unfold readB
  cases h : readU l a with
  | none => exact .inl ⟨rfl, rfl⟩
  | some p =>
    obtain ⟨m, k⟩ := p
    refine .inr ⟨m, k, rfl, ?_⟩
    by_cases h2 : (m : Int) ≤ mx ∧ m ≤ l.length - k
    · exact .inr ⟨h2.1, h2.2, if_pos h2⟩
    · exact .inl ⟨h2, if_neg h2⟩
theorem readB_le {l d : List UInt8} {a mx : Int} {q : Nat} (h : readB l a mx = some (d, q)) : d.length ≤ l.length := by
  rcases readB_cases (l := l) (a := a) (mx := mx) with ⟨_, h1⟩ | ⟨m, k, _, ⟨_, h2⟩ | ⟨_, _, h2⟩⟩
  · rw [h] at h1; cases h1
  · rw [h] at h2; cases h2
  · rw [h] at h2
    simp only [Option.some.injEq, Prod.mk.injEq] at h2
    rw [h2.1, List.length_take, List.length_drop]
    omega
/-- A cut of a slice that reads as a list. -/
theorem Rd.cut {w : World} {b o n k m : Nat} {xs : List Value} (h : Rd w 1 (some ⟨b, o, none⟩) n xs) (hk : k + m ≤ n) : Rd w 1 (some ⟨b, o + k, none⟩) m ((xs.drop k).take m) := by
  have hl := h.len1
  refine ⟨by simp; omega, fun hm => ?_⟩
  obtain ⟨b', o', e, hlt, hc⟩ := h.2 (by omega)
  injection e with e
  injection e with e1 e2
  subst e1
  subst e2
  refine ⟨b, o + k, rfl, hlt, fun j u hu => ?_⟩
  have hj : j < m := by
    have := (List.getElem?_eq_some_iff.1 hu).1
    simp at this
    omega
  rw [List.getElem?_take, if_pos hj, List.getElem?_drop] at hu
  have := hc (k + j) u hu
  rwa [← Nat.add_assoc] at this
theorem Rd.cut_nil {w : World} {A : Option Addr} {k : Nat} {xs : List Value} : Rd w 1 A 0 ((xs.drop k).take 0) := ⟨by simp, fun h => absurd h (by omega)⟩

theorem ret_sib {A : Option Addr} {n c : Nat} {x y : Int} {b : Bool} (h : y = x) : Ending.returned (.tuple #[.slice A n c, .int .i64 x, .bool b]) = .returned (.tuple #[.slice A n c, .int .i64 y, .bool b]) := by rw [h]

set_option maxRecDepth 100000 in
set_option maxHeartbeats 400000 in
theorem implReadBytes_no (A : Option Addr) (n c : Nat) (l : List UInt8) (a mx : Int) (w : World) (hn : n ≤ 1099511627776) (ha : Rd w 1 A n (l.map bv)) (har : -9223372036854775808 ≤ a ∧ a ≤ 9223372036854775807) (hr : readB l a mx = none) :
    Calls Try.prog 102 #[.slice A n c, .int .i64 a, .int .i64 mx] w (RbNo w) := by
  have HA := Lib.hid har
  clear har
  rcases readB_cases (l := l) (a := a) (mx := mx) with ⟨h1, _⟩ | ⟨m, k, h1, ⟨h2, _⟩ | ⟨_, _, h2⟩⟩
  · clear hr
    go_enter Try.func102, Try.ntmps102
    go_wp2_with fail
    refine (implReadUvarint_none A n c l a w hn ha h1).mono ?_
    rintro e w1 ⟨rfl, hb1⟩
    have hbs := hb1.size
    go_wp2
    go_ret3
    exact ⟨_, _, _, rfl, own_new hbs, hb1.alloc hbs _⟩
  · have hle := readU_le h1
    have hl := ha.lenB
    have hkn : k ≤ n := by omega
    have hml : m ≤ 1000000000000 := by omega
    have h3 : (mx < (m : Int)) ∨ ((m : Int) ≤ mx ∧ n < m + k) := by
      by_cases q : (m : Int) ≤ mx
      · exact .inr ⟨q, by
          rcases Nat.lt_or_ge n (m + k) with h | h
          · exact h
          · exact absurd ⟨q, by omega⟩ h2⟩
      · exact .inl (by omega)
    clear hr h2 hle hl
    have H1 := Lib.hid h1
    clear h1
    rcases h3 with h3 | ⟨h3, h4⟩
    all_goals
      go_enter Try.func102, Try.ntmps102
      go_wp2_with fail
      refine (implReadUvarint_some A n c l a m k w hn ha H1.out).mono ?_
      rintro e w1 ⟨rfl, hb1⟩
      have hbs := hb1.size
      go_wp2
      go_ret3
      exact ⟨_, _, _, rfl, own_new hbs, hb1.alloc hbs _⟩
  · rw [hr] at h2
    cases h2

set_option maxRecDepth 100000 in
set_option maxHeartbeats 400000 in
theorem implReadBytes_yes (A : Option Addr) (n c : Nat) (l d : List UInt8) (a mx : Int) (q : Nat) (w : World) (hn : n ≤ 1099511627776) (hnc : n ≤ c) (hcm : c ≤ maxLen) (ha : Rd w 1 A n (l.map bv)) (har : -9223372036854775808 ≤ a ∧ a ≤ 9223372036854775807) (hr : readB l a mx = some (d, q)) :
    Calls Try.prog 102 #[.slice A n c, .int .i64 a, .int .i64 mx] w (RbYes w d q) := by
  unfold maxLen at hcm
  have HA := Lib.hid har
  clear har
  rcases readB_cases (l := l) (a := a) (mx := mx) with ⟨_, h1⟩ | ⟨m, k, h1, ⟨_, h2⟩ | ⟨h3, h4, h2⟩⟩
  · rw [hr] at h1
    cases h1
  · rw [hr] at h2
    cases h2
  · rw [hr] at h2
    simp only [Option.some.injEq, Prod.mk.injEq] at h2
    obtain ⟨rfl, rfl⟩ := h2
    have hle := readU_le h1
    have hl := ha.lenB
    have hkm : k + m ≤ n := by omega
    have hk0 : 0 < k := by omega
    have hml : m ≤ 1000000000000 := by omega
    have H1 := Lib.hid h1
    clear hr h1 hle h4 hl
    obtain ⟨b, o, rfl, hlt, _⟩ := ha.2 (by omega)
    go_enter Try.func102, Try.ntmps102
    go_wp2_with fail
    refine (implReadUvarint_some _ n c l a m k w hn ha H1.out).mono ?_
    rintro e w1 ⟨rfl, hb1⟩
    have hbs := hb1.size
    have ha1 := ha.below hb1
    by_cases hck : c = k
    · obtain rfl : m = 0 := by omega
      subst hck
      go_wp2_with fail
      refine (copyBytes_any _ 0 _ [] w1 (by omega) ⟨by simp, fun h => absurd h (by omega)⟩).mono ?_
      rintro e w2 ⟨A2, n2, c2, rfl, ho2, hb2⟩
      have HO := Lib.hid (own_base ho2 hbs)
      have HB := Lib.hid (hb1.trans (hb2.mono hbs))
      clear ho2 hb2
      go_wp2
      go_ret3
      exact ⟨_, _, _, ret_sib (by simp), HO.out, HB.out⟩
    · have hcut := ha1.cut hkm
      rw [← List.map_drop, ← List.map_take] at hcut
      go_wp2_with fail
      refine (copyBytes_any _ m _ _ w1 (by omega) hcut).mono ?_
      rintro e w2 ⟨A2, n2, c2, rfl, ho2, hb2⟩
      have HO := Lib.hid (own_base ho2 hbs)
      have HB := Lib.hid (hb1.trans (hb2.mono hbs))
      clear ho2 hb2
      go_wp2
      go_ret3
      exact ⟨_, _, _, ret_sib (by simp), HO.out, HB.out⟩

set_option maxRecDepth 100000 in
set_option maxHeartbeats 400000 in
theorem specReadBytes_no (A : Option Addr) (n c : Nat) (l : List UInt8) (a mx : Int) (w : World) (hn : n ≤ 1099511627776) (ha : Rd w 1 A n (l.map bv)) (har : -9223372036854775808 ≤ a ∧ a ≤ 9223372036854775807) (hr : readB l a mx = none) :
    Calls Try.prog 143 #[.slice A n c, .int .i64 a, .int .i64 mx] w (RbNo w) := by
  have HA := Lib.hid har
  clear har
  rcases readB_cases (l := l) (a := a) (mx := mx) with ⟨h1, _⟩ | ⟨m, k, h1, ⟨h2, _⟩ | ⟨_, _, h2⟩⟩
  · clear hr
    go_enter Try.func143, Try.ntmps143
    go_wp2_with fail
    refine (specReadUvarint_none A n c l a w hn ha HA.out h1).mono ?_
    rintro e w1 ⟨rfl, hb1⟩
    have hbs := hb1.size
    go_wp2
    go_ret3
    exact ⟨_, _, _, rfl, own_new hbs, hb1.alloc hbs _⟩
  · have hle := readU_le h1
    have hl := ha.lenB
    have hkn : k ≤ n := by omega
    have hml : m ≤ 1000000000000 := by omega
    have h3 : (mx < (m : Int)) ∨ ((m : Int) ≤ mx ∧ n < m + k) := by
      by_cases q : (m : Int) ≤ mx
      · exact .inr ⟨q, by
          rcases Nat.lt_or_ge n (m + k) with h | h
          · exact h
          · exact absurd ⟨q, by omega⟩ h2⟩
      · exact .inl (by omega)
    clear hr h2 hle hl
    have H1 := Lib.hid h1
    clear h1
    rcases h3 with h3 | ⟨h3, h4⟩
    all_goals
      go_enter Try.func143, Try.ntmps143
      go_wp2_with fail
      refine (specReadUvarint_some A n c l a m k w hn ha HA.out H1.out).mono ?_
      rintro e w1 ⟨rfl, hb1⟩
      have hbs := hb1.size
      go_wp2
      go_ret3
      exact ⟨_, _, _, rfl, own_new hbs, hb1.alloc hbs _⟩
  · rw [hr] at h2
    cases h2

set_option maxRecDepth 100000 in
set_option maxHeartbeats 400000 in
theorem specReadBytes_yes (A : Option Addr) (n c : Nat) (l d : List UInt8) (a mx : Int) (q : Nat) (w : World) (hn : n ≤ 1099511627776) (hnc : n ≤ c) (hcm : c ≤ maxLen) (ha : Rd w 1 A n (l.map bv)) (har : -9223372036854775808 ≤ a ∧ a ≤ 9223372036854775807) (hr : readB l a mx = some (d, q)) :
    Calls Try.prog 143 #[.slice A n c, .int .i64 a, .int .i64 mx] w (RbYes w d q) := by
  unfold maxLen at hcm
  have HA := Lib.hid har
  clear har
  rcases readB_cases (l := l) (a := a) (mx := mx) with ⟨_, h1⟩ | ⟨m, k, h1, ⟨_, h2⟩ | ⟨h3, h4, h2⟩⟩
  · rw [hr] at h1
    cases h1
  · rw [hr] at h2
    cases h2
  · rw [hr] at h2
    simp only [Option.some.injEq, Prod.mk.injEq] at h2
    obtain ⟨rfl, rfl⟩ := h2
    have hle := readU_le h1
    have hl := ha.lenB
    have hkm : k + m ≤ n := by omega
    have hk0 : 0 < k := by omega
    have hml : m ≤ 1000000000000 := by omega
    have H1 := Lib.hid h1
    clear hr h1 hle h4 hl
    obtain ⟨b, o, rfl, hlt, _⟩ := ha.2 (by omega)
    go_enter Try.func143, Try.ntmps143
    go_wp2_with fail
    refine (specReadUvarint_some _ n c l a m k w hn ha HA.out H1.out).mono ?_
    rintro e w1 ⟨rfl, hb1⟩
    have hbs := hb1.size
    have ha1 := ha.below hb1
    obtain ⟨i0, hi, hz0, hz1, hz2⟩ := info_parts infoU8
    by_cases hck : c = k
    · obtain rfl : m = 0 := by omega
      subst hck
      go_wp2_with (at_builtin; refine wpList_cat (w1.alloc (.cells #[] 5)) rfl _ _ 58 rfl w.heap.size 5 i0 (.int .u8 0) 1 1 Try.underlying58 hi hz0 hz1 hz2 rfl (by decide) _ _ _ [] (by rfl) (own_new hbs) _ 0 _ [] (by rfl) ⟨by simp, fun h => absurd h (by omega)⟩ (fun u hu => by cases hu) ?c1 ?c2 ?c3 ?_)
      case c1 => unfold maxLen; omega
      case c2 => omega
      case c3 => simp; omega
      intro A2 n2 c2 w2 hk2 ho2 hb2 _
      have HO := Lib.hid ho2
      have HB := Lib.hid ((hb1.alloc hbs _).trans hb2)
      clear ho2 hb2 hk2
      go_wp2
      go_ret3
      exact ⟨_, _, _, ret_sib (by simp), HO.out, HB.out⟩
    · have hcut := ha1.cut hkm
      rw [← List.map_drop, ← List.map_take] at hcut
      have hcut2 : Rd w1 1 (some ⟨b, o + k, none⟩) (k + m - k) (((l.drop k).take m).map bv) := by rw [show k + m - k = m by omega]; exact hcut
      go_wp2_with (at_builtin; refine wpList_cat (w1.alloc (.cells #[] 5)) rfl _ _ 58 rfl w.heap.size 5 i0 (.int .u8 0) 1 1 Try.underlying58 hi hz0 hz1 hz2 rfl (by decide) _ _ _ [] (by rfl) (own_new hbs) (some ⟨b, o + k, none⟩) (k + m - k) (c - k) (((l.drop k).take m).map bv) (by rfl) (hcut2.alloc _) (ones_bv _) ?d1 ?d2 ?d3 ?_)
      case d1 => unfold maxLen; omega
      case d2 => omega
      case d3 => simp; omega
      intro A2 n2 c2 w2 hk2 ho2 hb2 _
      have HO := Lib.hid ho2
      have HB := Lib.hid ((hb1.alloc hbs _).trans hb2)
      clear ho2 hb2 hk2
      go_wp2
      go_ret3
      exact ⟨_, _, _, ret_sib (by simp), by simpa using HO.out, HB.out⟩
end Go.Proofs.Ytbbngihmjdndoaa
