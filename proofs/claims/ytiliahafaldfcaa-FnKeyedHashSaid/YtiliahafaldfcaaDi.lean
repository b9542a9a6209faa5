/-
  Proved: the contracts of DecodeInts, of the program and of the reference. Conditions: the slice reads as a list.
  By an AI agent; no person has read it.
-/
import Derived.Test.YtiliahafaldfcaaRd
import Derived.Test.YtiliahafaldfcaaBti
namespace Go.Proofs.Ytiliahafaldfcaa
open Go.RowKit

/-- k numbers from a place on: the numbers, the place behind them. -/
def decGo (l : List UInt8) : Nat → Int → Option (List Int × Int)
  | 0, a => some ([], a)
  | k + 1, a =>
    match readU l a with
    | some (m, q) => (decGo l k (q : Int)).map fun p => ((m : Int) :: p.1, p.2)
    | none => none
def decI (l : List UInt8) (a n : Int) : Option (List Int × Int) := if (0 ≤ n ∧ n ≤ 100) ∧ 0 ≤ a ∧ a ≤ l.length then decGo l n.toNat a else none
theorem decGo_none {l : List UInt8} {k : Nat} {a : Int} (h : readU l a = none) : decGo l (k + 1) a = none := by simp only [decGo, h]
theorem decGo_some {l : List UInt8} {k m q : Nat} {a : Int} (h : readU l a = some (m, q)) : decGo l (k + 1) a = (decGo l k (q : Int)).map fun p => ((m : Int) :: p.1, p.2) := by simp only [decGo, h]
theorem decGo_len : ∀ (l : List UInt8) (k : Nat) (a : Int) {d : List Int} {q : Int}, decGo l k a = some (d, q) → d.length = k
  | _, 0, _, d, q, h => by
    simp only [decGo, Option.some.injEq, Prod.mk.injEq] at h
    rw [← h.1]; rfl
  | l, k + 1, a, d, q, h => by
    cases hr : readU l a with
    | none => rw [decGo_none hr] at h; cases h
    | some p =>
      obtain ⟨m, r⟩ := p
      rw [decGo_some hr, Option.map_eq_some_iff] at h
      obtain ⟨⟨d', q'⟩, h1, h2⟩ := h
      simp only [Prod.mk.injEq] at h2
      have := decGo_len l k _ h1
      rw [← h2.1]
      simp [this]
theorem decI_len {l : List UInt8} {a n : Int} {d : List Int} {q : Int} (h : decI l a n = some (d, q)) : d.length ≤ 100 := by
  unfold decI at h
  split at h
  · have := decGo_len _ _ _ h
    omega
  · cases h

/-- The results where nothing is read; where the numbers are read. -/
def DiNo (w : World) (e : Ending) (w' : World) : Prop := ∃ A n c, e = .returned (.tuple #[.slice A n c, .int .i64 0, .bool false]) ∧ w'.ownsRow w.heap.size 3 1 (.slice A n c) n (([] : List Int).map iv) ∧ Below w.heap.size w w'
def DiYes (w : World) (d : List Int) (q : Int) (e : Ending) (w' : World) : Prop := ∃ A n c, e = .returned (.tuple #[.slice A n c, .int .i64 q, .bool true]) ∧ w'.ownsRow w.heap.size 3 1 (.slice A n c) n (d.map iv) ∧ Below w.heap.size w w'
def DiAny (w : World) (r : Option (List Int × Int)) (e : Ending) (w' : World) : Prop :=
  match r with
  | some p => DiYes w p.1 p.2 e w'
  | none => DiNo w e w'
theorem DiAny.none_ {w w' : World} {r : Option (List Int × Int)} {e : Ending} (hr : r = none) (h : DiNo w e w') : DiAny w r e w' := by rw [hr]; exact h
theorem DiAny.some_ {w w' : World} {r : Option (List Int × Int)} {e : Ending} {d : List Int} {q : Int} (hr : r = some (d, q)) (h : DiYes w d q e w') : DiAny w r e w' := by rw [hr]; exact h

set_option maxRecDepth 100000 in
set_option maxHeartbeats 1000000 in
theorem implDecodeInts_any (A : Option Addr) (n c : Nat) (l : List UInt8) (a k : Int) (w : World) (hn : n ≤ 1099511627776) (ha : Rd w 1 A n (l.map bv)) (har : -9223372036854775808 ≤ a ∧ a ≤ 9223372036854775807) :
    Calls Try.prog 24 #[.slice A n c, .int .i64 a, .int .i64 k] w (DiAny w (decI l a k)) := by
  have HL := Lib.hid ha.lenB
  have HA := Lib.hid har
  clear har
  by_cases hk : 0 ≤ k ∧ k ≤ 100
  · by_cases hin : 0 ≤ a ∧ a ≤ n
    · obtain ⟨i0, hi, hz0, hz1, hz2⟩ := info_parts infoI
      obtain ⟨k0, rfl⟩ : ∃ k0 : Nat, k = (k0 : Int) := ⟨k.toNat, by omega⟩
      have HF : Hid (decI l a k0 = decGo l k0 a) := by
        have h1 := HL.out
        unfold decI
        rw [if_pos ⟨hk, hin.1, by omega⟩]
        exact rfl
      have hk100 : k0 ≤ 100 := by omega
      have HK := Lib.hid hk
      have HI := Lib.hid hin
      clear hk hin
      go_enter Try.func24, Try.ntmps24
      go_wp2_with fail
      refine (InRange_any _ _ _ true w (inR_true HK.out.1 HK.out.2).symm).mono ?_
      rintro e w' ⟨rfl, rfl⟩
      go_wp2_with fail
      refine (InRange_any _ _ _ true w (inR_true HI.out.1 HI.out.2).symm).mono ?_
      rintro e w' ⟨rfl, rfl⟩
      go_wp2
      go_loopw [1, 9, 10] (fun p v i wr => ∃ (j : Nat) (B : Option Addr) (m d : Nat) (pre : List Int) (x : Int), j ≤ k0 ∧ i = .int .i64 j ∧ p = .int .i64 x ∧ v = .slice B m d ∧ wr.ownsRow w.heap.size 3 1 (.slice B m d) m (pre.map iv) ∧ m ≤ j ∧ decGo l k0 a = (decGo l (k0 - j) x).map (fun q => (pre ++ q.1, q.2)) ∧ Below w.heap.size w wr) (fun _ _ i _ => k0 - (intOf i).toNat)
      case atStart => exact ⟨0, _, _, _, [], a, Nat.zero_le _, rfl, rfl, rfl, own_new (Nat.le_refl _), Nat.le_refl _, by simp, (Below.refl _ _).alloc (Nat.le_refl _) _⟩
      case round =>
        obtain ⟨j, B, m, d, pre, x, hj, rfl, rfl, rfl, ho, hm, heq, hbel⟩ := hrel
        have hbs := hbel.size
        have HE := Lib.hid heq
        clear heq
        by_cases hlt : j < k0
        · rcases hr : readU l x with _ | ⟨y, q⟩
          · have HN : Hid (decI l a k0 = none) := by
              have h1 := HF.out; have h2 := HE.out
              rw [h1, h2, show k0 - j = (k0 - j - 1) + 1 by omega, decGo_none hr]; exact rfl
            have HR := Lib.hid hr
            clear hr
            go_wp2_with fail
            refine (implReadUvarint_none A n c l x wr hn (ha.below hbel) HR.out).mono ?_
            rintro e w1 ⟨rfl, hb1⟩
            have hbs1 := hb1.size
            have HB := Lib.hid (hbel.trans (hb1.mono hbs))
            clear hb1
            go_wp2
            go_ret3
            exact DiAny.none_ HN.out ⟨_, _, _, rfl, own_new (by omega), HB.out.alloc HB.out.size _⟩
          · have hle := readU_le hr
            have hy := hle.2.2.2
            have hq := hle.2.2.1
            have HN : Hid (decGo l k0 a = (decGo l (k0 - (j + 1)) (q : Int)).map (fun z => (pre ++ [(y : Int)] ++ z.1, z.2))) := by
              have h2 := HE.out
              rw [h2, show k0 - j = (k0 - (j + 1)) + 1 by omega, decGo_some hr, Option.map_map]
              congr 1
              funext z
              simp
            have HR := Lib.hid hr
            have HQ : Hid (q ≤ 1099511627776) := by have := HL.out; exact (by omega : q ≤ 1099511627776)
            clear hr hle hq
            go_wp2_with fail
            refine (implReadUvarint_some A n c l x y q wr hn (ha.below hbel) HR.out).mono ?_
            rintro e w1 ⟨rfl, hb1⟩
            have hbs1 := hb1.size
            have ho1 := own_below ho hb1
            have HB := Lib.hid (hbel.trans (hb1.mono hbs))
            have hbw : w.heap.size ≤ w1.heap.size := by omega
            clear hb1 ho
            go_wp2_with (at_builtin; refine wpList_push w1 rfl _ _ 28 rfl w.heap.size 3 i0 (.int .i64 0) 8 Try.underlying28 hi hz0 hz1 hz2 rfl B m d _ (by rfl) ho1 _ (by rfl) (by rfl) ?d1 ?d2 ?d3 ?_)
            case d1 => unfold maxLen; omega
            case d2 => omega
            case d3 => exact hbw
            intro A2 n2 c2 w2 hk2 ho2 hb2
            have HO := Lib.hid (push_iv ho2)
            have HM := Lib.hid (by omega : n2 ≤ j + 1)
            have HB2 := Lib.hid (HB.out.trans hb2)
            clear hk2 ho2 hb2 ho1
            go_wp2
            go_roundw
            case rel => exact ⟨j + 1, _, _, _, _, _, by omega, by go_num, rfl, rfl, HO.out, HM.out, HN.out, HB2.out⟩
            case measure => simp [intOf]; omega
        · obtain rfl : j = k0 := by omega
          have HN : Hid (decI l a j = some (pre, x)) := by
            have h1 := HF.out; have h2 := HE.out
            rw [h1, h2, Nat.sub_self]
            simp [decGo]
            exact True.intro
          have HO := Lib.hid ho
          clear ho
          go_wp2
          go_ret3
          exact DiAny.some_ HN.out ⟨_, _, _, rfl, HO.out, hbel⟩
    · have HN : Hid (decI l a k = none) := by
        have h1 := HL.out
        unfold decI
        rw [if_neg (by omega)]
        exact rfl
      have HK := Lib.hid hk
      have HI : Hid (false = inR a 0 n) := (decide_eq_false hin).symm
      clear hk hin
      go_enter Try.func24, Try.ntmps24
      go_wp2_with fail
      refine (InRange_any _ _ _ true w (inR_true HK.out.1 HK.out.2).symm).mono ?_
      rintro e w' ⟨rfl, rfl⟩
      go_wp2_with fail
      refine (InRange_any _ _ _ false w HI.out).mono ?_
      rintro e w' ⟨rfl, rfl⟩
      go_wp2
      go_ret3
      exact DiAny.none_ HN.out ⟨_, _, _, rfl, own_new (Nat.le_refl _), (Below.refl _ _).alloc (Nat.le_refl _) _⟩
  · have HN : Hid (decI l a k = none) := by
      unfold decI
      rw [if_neg (fun h => hk h.1)]
      exact rfl
    have HK : Hid (false = inR k 0 100) := (decide_eq_false hk).symm
    clear hk
    go_enter Try.func24, Try.ntmps24
    go_wp2_with fail
    refine (InRange_any _ _ _ false w HK.out).mono ?_
    rintro e w' ⟨rfl, rfl⟩
    go_wp2
    go_ret3
    exact DiAny.none_ HN.out ⟨_, _, _, rfl, own_new (Nat.le_refl _), (Below.refl _ _).alloc (Nat.le_refl _) _⟩

theorem implDecodeInts_no (A : Option Addr) (n c : Nat) (l : List UInt8) (a k : Int) (w : World) (hn : n ≤ 1099511627776) (ha : Rd w 1 A n (l.map bv)) (har : -9223372036854775808 ≤ a ∧ a ≤ 9223372036854775807) (h : decI l a k = none) : Calls Try.prog 24 #[.slice A n c, .int .i64 a, .int .i64 k] w (DiNo w) :=
  (implDecodeInts_any A n c l a k w hn ha har).mono fun e w' hh => by rw [h] at hh; exact hh
theorem implDecodeInts_yes (A : Option Addr) (n c : Nat) (l : List UInt8) (a k : Int) (d : List Int) (q : Int) (w : World) (hn : n ≤ 1099511627776) (ha : Rd w 1 A n (l.map bv)) (har : -9223372036854775808 ≤ a ∧ a ≤ 9223372036854775807) (h : decI l a k = some (d, q)) : Calls Try.prog 24 #[.slice A n c, .int .i64 a, .int .i64 k] w (DiYes w d q) :=
  (implDecodeInts_any A n c l a k w hn ha har).mono fun e w' hh => by rw [h] at hh; exact hh
end Go.Proofs.Ytiliahafaldfcaa
