/-
  Proved: the contracts of ReadUvarint, of the program and of the reference. Conditions: the slice reads as a list.
  By an AI agent; no person has read it.
-/
import Derived.Test.YtbbngihmjdndoaaTypes
import Derived.Test.YtbbngihmjdndoaaArith
import Derived.Test.YtbbngihmjdndoaaUvP
import Derived.Deep.QuietTactic
import Derived.BigQuiet
namespace Go.Proofs.Ytbbngihmjdndoaa
open Go.RowKit

/-- The three results of a reading. -/
def retU (r : Option (Nat × Nat)) : Ending :=
  match r with
  | some p => .returned (.tuple #[.int .i64 (p.1 : Int), .int .i64 (p.2 : Int), .bool true])
  | none => .returned (.tuple #[.int .i64 0, .int .i64 0, .bool false])

theorem readU_out {l : List UInt8} {a : Int} (h : ¬ (0 ≤ a ∧ a < l.length)) : readU l a = none := if_neg h
theorem readU_in {l : List UInt8} {a : Nat} (h : a < l.length) : readU l (a : Int) = (readGo 6 0 0 (l.drop a)).map fun p => (p.1, a + p.2) := by
  unfold readU
  rw [if_pos (by omega)]
  simp
theorem retU_none {r : Option (Nat × Nat)} (h : r = none) : Ending.returned (.tuple #[.int .i64 0, .int .i64 0, .bool false]) = retU r := by rw [h]; rfl
theorem retU_some {r : Option (Nat × Nat)} {m k : Nat} {x y : Int} (h : r = some (m, k)) (hx : x = (m : Int)) (hy : y = (k : Int)) : Ending.returned (.tuple #[.int .i64 x, .int .i64 y, .bool true]) = retU r := by rw [h, hx, hy]; rfl
theorem pow128 {i : Nat} (h : i < 6) : (128 : Nat) ^ i ≤ 34359738368 := by
  have := Nat.pow_le_pow_right (n := 128) (by omega) (show i ≤ 5 by omega)
  omega

theorem shift_eq {z y i : Nat} (hy : y = z * 128 ^ i) : (z : Int) * 2 ^ (7 * i) = (y : Int) := by
  have h2 : (2 : Int) ^ (7 * i) = ((128 ^ i : Nat) : Int) := by
    rw [Int.pow_mul, Int.natCast_pow]
    rfl
  rw [h2, hy, Int.natCast_mul]
theorem step128 {m y i x : Nat} (hm : m < 128 ^ i) (hy : y = (x - 128) * 128 ^ i) (hx : x < 256) : m + y < 128 ^ (i + 1) := by
  have h2 : (x - 128) * 128 ^ i ≤ 127 * 128 ^ i := Nat.mul_le_mul_right _ (by omega)
  rw [Nat.pow_succ]
  omega

set_option maxRecDepth 100000 in
set_option maxHeartbeats 1000000 in
theorem implReadUvarint_any (A : Option Addr) (n c : Nat) (l : List UInt8) (a : Int) (w : World) (hn : n ≤ 1099511627776) (ha : Rd w 1 A n (l.map bv)) :
    Calls Try.prog 101 #[.slice A n c, .int .i64 a] w fun e w' => e = retU (readU l a) ∧ Below w.heap.size w w' := by
  have la := ha.lenB
  by_cases h0 : a < 0
  · have HF := Lib.hid (readU_out (l := l) (a := a) (by omega))
    clear la
    go_enter Try.func101, Try.ntmps101
    go_wp2
    go_ret3
    exact ⟨retU_none HF.out, Below.refl _ _⟩
  by_cases h1 : (n : Int) ≤ a
  · have HF := Lib.hid (readU_out (l := l) (a := a) (by omega))
    have h2 : 0 ≤ a := by omega
    clear la h0
    go_enter Try.func101, Try.ntmps101
    go_wp2
    go_ret3
    exact ⟨retU_none HF.out, Below.refl _ _⟩
  obtain ⟨k0, rfl⟩ : ∃ k0 : Nat, a = (k0 : Int) := ⟨a.toNat, by omega⟩
  have hk0 : k0 < n := by omega
  have HF := Lib.hid (readU_in (l := l) (a := k0) (by omega))
  have HL := Lib.hid la
  have hd1 : decide ((k0 : Int) < 0) = false := decide_eq_false (by omega)
  have hd2 : decide (n ≤ k0) = false := decide_eq_false (by omega)
  clear la h0 h1
  go_enter Try.func101, Try.ntmps101
  go_wp2
  go_loopw [7, 8] (fun q v wr => ∃ (m i : Nat), i ≤ 6 ∧ q = .int .i64 m ∧ v = .int .i64 i ∧ m < 128 ^ i ∧ readGo (6 - i) i m (l.drop (k0 + i)) = readGo 6 0 0 (l.drop k0) ∧ Below w.heap.size w wr) (fun _ v _ => 6 - (intOf v).toNat)
  case atStart => exact ⟨0, 0, by omega, rfl, rfl, by simp, rfl, Below.refl _ _⟩
  case round =>
    obtain ⟨m, i, hi, rfl, rfl, hm, heq, hbel⟩ := hrel
    have HE := Lib.hid heq
    have HM := Lib.hid hm
    clear heq hm
    by_cases h6 : i < 6
    · by_cases hlt : k0 + i < n
      · obtain ⟨b, o, x, rfl, _hb1, hx, hcx⟩ := (ha.below hbel).byte hlt
        have HX := Lib.hid hx
        have hx2 := byte_lt x
        have hx3 : x.toNat < 256 := x.toNat_lt
        clear hx
        obtain ⟨z, hz⟩ : ∃ z : Nat, z = x.toNat % 128 := ⟨_, rfl⟩
        obtain ⟨y, hy⟩ : ∃ y : Nat, y = z * 128 ^ i := ⟨_, rfl⟩
        have ez : (x.toNat : Int) % 128 = (z : Int) := by omega
        have hyb : y ≤ 4363686772736 := by
          have h1 := pow128 h6
          have h2 : z * 128 ^ i ≤ 127 * 34359738368 := Nat.mul_le_mul (by omega) h1
          omega
        have hmb : m < 4398046511104 := by
          have h1 := pow128 h6
          have h2 := HM.out
          omega
        have ey : (z : Int) * 2 ^ (7 * i) = (y : Int) := shift_eq hy
        have HY := Lib.hid hy
        have HZ := Lib.hid hz
        clear hy hz
        by_cases hx128 : x.toNat < 128
        · have HV : Hid (y = x.toNat * 128 ^ i) := by have h1 := HY.out; have h2 := HZ.out; rw [h1, h2, Nat.mod_eq_of_lt hx128]; exact rfl
          by_cases hi0 : 0 < i
          · by_cases hxz : x.toNat = 0
            · have HN : Hid (readU l (k0 : Int) = none) := by
                have h1 := HF.out; have h2 := HE.out
                rw [h1, ← h2, show 6 - i = (5 - i) + 1 by omega, readGo_step HX.out, if_pos hx128, if_pos (.inl ⟨hi0, hxz⟩)]; exact rfl
              have hzb : ((x.toNat : Int) == 0) = true := by rw [beq_iff_eq]; omega
              clear hxz
              go_wp2
              go_ret3
              exact ⟨retU_none HN.out, hbel⟩
            · have hzb : ((x.toNat : Int) == 0) = false := by rw [beq_eq_false_iff_ne]; omega
              by_cases hmax : 1000000000000 < m + y
              · have HN : Hid (readU l (k0 : Int) = none) := by
                  have h1 := HF.out; have h2 := HE.out; have h3 := HV.out
                  rw [h1, ← h2, show 6 - i = (5 - i) + 1 by omega, readGo_step HX.out, if_pos hx128, if_pos (.inr (by omega))]; exact rfl
                clear hxz
                go_wp2
                go_ret3
                exact ⟨retU_none HN.out, hbel⟩
              · have HN : Hid (readU l (k0 : Int) = some (m + y, k0 + (i + 1))) := by
                  have h1 := HF.out; have h2 := HE.out; have h3 := HV.out
                  rw [h1, ← h2, show 6 - i = (5 - i) + 1 by omega, readGo_step HX.out, if_pos hx128, if_neg (by omega), ← h3]; exact rfl
                clear hxz
                go_wp2
                go_ret3
                exact ⟨retU_some HN.out (by omega) (by omega), hbel⟩
          · by_cases hmax : 1000000000000 < m + y
            · have HN : Hid (readU l (k0 : Int) = none) := by
                have h1 := HF.out; have h2 := HE.out; have h3 := HV.out
                rw [h1, ← h2, show 6 - i = (5 - i) + 1 by omega, readGo_step HX.out, if_pos hx128, if_pos (.inr (by omega))]; exact rfl
              go_wp2
              go_ret3
              exact ⟨retU_none HN.out, hbel⟩
            · have HN : Hid (readU l (k0 : Int) = some (m + y, k0 + (i + 1))) := by
                have h1 := HF.out; have h2 := HE.out; have h3 := HV.out
                rw [h1, ← h2, show 6 - i = (5 - i) + 1 by omega, readGo_step HX.out, if_pos hx128, if_neg (by omega), ← h3]; exact rfl
              go_wp2
              go_ret3
              exact ⟨retU_some HN.out (by omega) (by omega), hbel⟩
        · have HV : Hid (y = (x.toNat - 128) * 128 ^ i) := by
            have h1 := HY.out; have h2 := HZ.out
            rw [h1, h2, show x.toNat % 128 = x.toNat - 128 by omega]; exact rfl
          have HN : Hid (readGo (6 - (i + 1)) (i + 1) (m + y) (l.drop (k0 + (i + 1))) = readGo 6 0 0 (l.drop k0)) := by
            have h2 := HE.out; have h3 := HV.out
            rw [← h2, show 6 - i = (6 - (i + 1)) + 1 by omega, readGo_step HX.out, if_neg hx128, ← h3]; exact rfl
          have HM2 : Hid (m + y < 128 ^ (i + 1)) := step128 HM.out HV.out hx3
          go_wp2
          go_roundw
          case rel => first | exact ⟨m + y, i + 1, by omega, by go_num, by go_num, HM2.out, HN.out, hbel⟩ | ((repeat apply Exists.intro); exact ⟨⟨m + y, i + 1, by omega, by go_num, by go_num, HM2.out, HN.out, hbel⟩, rfl⟩)
          case measure => simp [intOf]; omega
      · have HN : Hid (readU l (k0 : Int) = none) := by
          have h1 := HF.out; have h2 := HE.out; have h3 := HL.out
          rw [h1, ← h2, readGo_end (by omega)]; exact rfl
        go_wp2
        go_ret3
        exact ⟨retU_none HN.out, hbel⟩
    · obtain rfl : i = 6 := by omega
      have HN : Hid (readU l (k0 : Int) = none) := by
        have h1 := HF.out; have h2 := HE.out
        rw [h1, ← h2]; exact rfl
      go_wp2
      go_ret3
      exact ⟨retU_none HN.out, hbel⟩


set_option maxRecDepth 100000 in
set_option maxHeartbeats 1000000 in
theorem specReadUvarint_any (A : Option Addr) (n c : Nat) (l : List UInt8) (a : Int) (w : World) (hn : n ≤ 1099511627776) (ha : Rd w 1 A n (l.map bv)) (har : -9223372036854775808 ≤ a ∧ a ≤ 9223372036854775807) :
    Calls Try.prog 142 #[.slice A n c, .int .i64 a] w fun e w' => e = retU (readU l a) ∧ Below w.heap.size w w' := by
  have la := ha.lenB
  have HL := Lib.hid la
  clear la
  go_enter Try.func142, Try.ntmps142
  go_wp2
  go_loopw [7, 8] (fun q v wr => ∃ (m i : Nat), i ≤ 6 ∧ q = .int .i64 m ∧ v = .int .i64 i ∧ m < 128 ^ i ∧ (0 < i → ∃ k0 : Nat, a = (k0 : Int) ∧ k0 < n ∧ readGo (6 - i) i m (l.drop (k0 + i)) = readGo 6 0 0 (l.drop k0)) ∧ (i = 0 → m = 0) ∧ Below w.heap.size w wr) (fun _ v _ => 6 - (intOf v).toNat)
  case atStart => exact ⟨0, 0, by omega, rfl, rfl, by simp, fun h => absurd h (by omega), fun _ => rfl, Below.refl _ _⟩
  case round =>
    obtain ⟨m, i, hi, rfl, rfl, hm, heq, hm0, hbel⟩ := hrel
    by_cases h0 : a < 0
    · have hi0 : i = 0 := by
        rcases Nat.eq_zero_or_pos i with h | h
        · exact h
        · obtain ⟨k0, e, _⟩ := heq h
          omega
      subst hi0
      have HF := Lib.hid (readU_out (l := l) (a := a) (by omega))
      clear heq hm0 hm
      go_wp2
      go_ret3
      exact ⟨retU_none HF.out, hbel⟩
    by_cases h1 : (n : Int) ≤ a
    · have hi0 : i = 0 := by
        rcases Nat.eq_zero_or_pos i with h | h
        · exact h
        · obtain ⟨k0, e, h2, _⟩ := heq h
          omega
      subst hi0
      have HF := Lib.hid (readU_out (l := l) (a := a) (by have := HL.out; omega))
      have h2 : 0 ≤ a := by omega
      clear heq hm0 hm h0
      go_wp2
      go_ret3
      exact ⟨retU_none HF.out, hbel⟩
    obtain ⟨k0, rfl⟩ : ∃ k0 : Nat, a = (k0 : Int) := ⟨a.toNat, by omega⟩
    have HE : Hid (readGo (6 - i) i m (l.drop (k0 + i)) = readGo 6 0 0 (l.drop k0)) := by
      rcases Nat.eq_zero_or_pos i with h | h
      · subst h
        rw [hm0 rfl]
        exact rfl
      · obtain ⟨k1, e, _, h2⟩ := heq h
        obtain rfl : k0 = k1 := by omega
        exact h2
    have HM := Lib.hid hm
    have hk0 : k0 < n := by omega
    have HF := Lib.hid (readU_in (l := l) (a := k0) (by have := HL.out; omega))
    clear heq hm hm0 h0 h1
    by_cases h6 : i < 6
    · by_cases hlt : k0 + i < n
      · obtain ⟨b, o, x, rfl, _hb1, hx, hcx⟩ := (ha.below hbel).byte hlt
        have HX := Lib.hid hx
        have hx2 := byte_lt x
        have hx3 : x.toNat < 256 := x.toNat_lt
        clear hx
        obtain ⟨z, hz⟩ : ∃ z : Nat, z = x.toNat % 128 := ⟨_, rfl⟩
        obtain ⟨y, hy⟩ : ∃ y : Nat, y = z * 128 ^ i := ⟨_, rfl⟩
        have hz128 : z < 128 := by omega
        have ez : bits .and .i64 (x.toNat : Int) 127 = (z : Int) := (i64_and_nat x.toNat 127 (by omega) (by omega)).trans (by rw [and127, hz])
        have hyb : y ≤ 4363686772736 := by
          have h1 := pow128 h6
          have h2 : z * 128 ^ i ≤ 127 * 34359738368 := Nat.mul_le_mul (by omega) h1
          omega
        have hmb : m < 4398046511104 := by
          have h1 := pow128 h6
          have h2 := HM.out
          omega
        have ey : (z : Int) * 2 ^ (7 * i) = (y : Int) := shift_eq hy
        have eo : bits .or .i64 (m : Int) (y : Int) = (m : Int) + (y : Int) := (i64_or_nat m y (by omega) (by omega)).trans (by rw [hy, or_shift HM.out, Int.natCast_add])
        have HY := Lib.hid hy
        have HZ := Lib.hid hz
        clear hy hz
        by_cases hx128 : x.toNat < 128
        · have HV : Hid (y = x.toNat * 128 ^ i) := by have h1 := HY.out; have h2 := HZ.out; rw [h1, h2, Nat.mod_eq_of_lt hx128]; exact rfl
          by_cases hxz : x.toNat = 0
          · have hzb : ((x.toNat : Int) == 0) = true := by rw [beq_iff_eq]; omega
            by_cases hi0 : 0 < i
            · have HN : Hid (readU l (k0 : Int) = none) := by
                have h1 := HF.out; have h2 := HE.out
                rw [h1, ← h2, show 6 - i = (5 - i) + 1 by omega, readGo_step HX.out, if_pos hx128, if_pos (.inl ⟨hi0, hxz⟩)]; exact rfl
              clear hxz
              go_wp2
              go_ret3
              exact ⟨retU_none HN.out, hbel⟩
            · have hmax : ¬ 1000000000000 < m + y := by
                have h3 := HV.out
                have h4 : i = 0 := by omega
                have h5 := HM.out
                rw [hxz, Nat.zero_mul] at h3
                rw [h4] at h5
                simp at h5
                omega
              have HN : Hid (readU l (k0 : Int) = some (m + y, k0 + (i + 1))) := by
                have h1 := HF.out; have h2 := HE.out; have h3 := HV.out
                rw [h1, ← h2, show 6 - i = (5 - i) + 1 by omega, readGo_step HX.out, if_pos hx128, if_neg (by omega), ← h3]; exact rfl
              clear hxz
              go_wp2
              go_ret3
              exact ⟨retU_some HN.out (by omega) (by omega), hbel⟩
          · have hzb : ((x.toNat : Int) == 0) = false := by rw [beq_eq_false_iff_ne]; omega
            by_cases hmax : 1000000000000 < m + y
            · have HN : Hid (readU l (k0 : Int) = none) := by
                have h1 := HF.out; have h2 := HE.out; have h3 := HV.out
                rw [h1, ← h2, show 6 - i = (5 - i) + 1 by omega, readGo_step HX.out, if_pos hx128, if_pos (.inr (by omega))]; exact rfl
              clear hxz
              go_wp2
              go_ret3
              exact ⟨retU_none HN.out, hbel⟩
            · have HN : Hid (readU l (k0 : Int) = some (m + y, k0 + (i + 1))) := by
                have h1 := HF.out; have h2 := HE.out; have h3 := HV.out
                rw [h1, ← h2, show 6 - i = (5 - i) + 1 by omega, readGo_step HX.out, if_pos hx128, if_neg (by omega), ← h3]; exact rfl
              clear hxz
              go_wp2
              go_ret3
              exact ⟨retU_some HN.out (by omega) (by omega), hbel⟩
        · have HV : Hid (y = (x.toNat - 128) * 128 ^ i) := by
            have h1 := HY.out; have h2 := HZ.out
            rw [h1, h2, show x.toNat % 128 = x.toNat - 128 by omega]; exact rfl
          have HN : Hid (readGo (6 - (i + 1)) (i + 1) (m + y) (l.drop (k0 + (i + 1))) = readGo 6 0 0 (l.drop k0)) := by
            have h2 := HE.out; have h3 := HV.out
            rw [← h2, show 6 - i = (6 - (i + 1)) + 1 by omega, readGo_step HX.out, if_neg hx128, ← h3]; exact rfl
          have HM2 : Hid (m + y < 128 ^ (i + 1)) := step128 HM.out HV.out hx3
          have HK : Hid (0 < i + 1 → ∃ k1 : Nat, (k0 : Int) = (k1 : Int) ∧ k1 < n ∧ readGo (6 - (i + 1)) (i + 1) (m + y) (l.drop (k1 + (i + 1))) = readGo 6 0 0 (l.drop k1)) := fun _ => ⟨k0, rfl, hk0, HN.out⟩
          go_wp2
          go_roundw
          case rel => first | exact ⟨m + y, i + 1, by omega, by go_num, by go_num, HM2.out, HK.out, fun h => absurd h (by omega), hbel⟩ | ((repeat apply Exists.intro); exact ⟨⟨m + y, i + 1, by omega, by go_num, by go_num, HM2.out, HK.out, fun h => absurd h (by omega), hbel⟩, rfl⟩)
          case measure => simp [intOf]; omega
      · have HN : Hid (readU l (k0 : Int) = none) := by
          have h1 := HF.out; have h2 := HE.out; have h3 := HL.out
          rw [h1, ← h2, readGo_end (by omega)]; exact rfl
        go_wp2
        go_ret3
        exact ⟨retU_none HN.out, hbel⟩
    · obtain rfl : i = 6 := by omega
      have HN : Hid (readU l (k0 : Int) = none) := by
        have h1 := HF.out; have h2 := HE.out
        rw [h1, ← h2]; exact rfl
      go_wp2
      go_ret3
      exact ⟨retU_none HN.out, hbel⟩

theorem implReadUvarint_some (A : Option Addr) (n c : Nat) (l : List UInt8) (a : Int) (m k : Nat) (w : World) (hn : n ≤ 1099511627776) (ha : Rd w 1 A n (l.map bv)) (h : readU l a = some (m, k)) :
    Calls Try.prog 101 #[.slice A n c, .int .i64 a] w fun e w' => e = .returned (.tuple #[.int .i64 (m : Int), .int .i64 (k : Int), .bool true]) ∧ Below w.heap.size w w' :=
  (implReadUvarint_any A n c l a w hn ha).mono fun e w' ⟨he, hb⟩ => ⟨by rw [he, h]; rfl, hb⟩
theorem implReadUvarint_none (A : Option Addr) (n c : Nat) (l : List UInt8) (a : Int) (w : World) (hn : n ≤ 1099511627776) (ha : Rd w 1 A n (l.map bv)) (h : readU l a = none) :
    Calls Try.prog 101 #[.slice A n c, .int .i64 a] w fun e w' => e = .returned (.tuple #[.int .i64 0, .int .i64 0, .bool false]) ∧ Below w.heap.size w w' :=
  (implReadUvarint_any A n c l a w hn ha).mono fun e w' ⟨he, hb⟩ => ⟨by rw [he, h]; rfl, hb⟩

theorem specReadUvarint_some (A : Option Addr) (n c : Nat) (l : List UInt8) (a : Int) (m k : Nat) (w : World) (hn : n ≤ 1099511627776) (ha : Rd w 1 A n (l.map bv)) (har : -9223372036854775808 ≤ a ∧ a ≤ 9223372036854775807) (h : readU l a = some (m, k)) :
    Calls Try.prog 142 #[.slice A n c, .int .i64 a] w fun e w' => e = .returned (.tuple #[.int .i64 (m : Int), .int .i64 (k : Int), .bool true]) ∧ Below w.heap.size w w' :=
  (specReadUvarint_any A n c l a w hn ha har).mono fun e w' ⟨he, hb⟩ => ⟨by rw [he, h]; rfl, hb⟩
theorem specReadUvarint_none (A : Option Addr) (n c : Nat) (l : List UInt8) (a : Int) (w : World) (hn : n ≤ 1099511627776) (ha : Rd w 1 A n (l.map bv)) (har : -9223372036854775808 ≤ a ∧ a ≤ 9223372036854775807) (h : readU l a = none) :
    Calls Try.prog 142 #[.slice A n c, .int .i64 a] w fun e w' => e = .returned (.tuple #[.int .i64 0, .int .i64 0, .bool false]) ∧ Below w.heap.size w w' :=
  (specReadUvarint_any A n c l a w hn ha har).mono fun e w' ⟨he, hb⟩ => ⟨by rw [he, h]; rfl, hb⟩
end Go.Proofs.Ytbbngihmjdndoaa
