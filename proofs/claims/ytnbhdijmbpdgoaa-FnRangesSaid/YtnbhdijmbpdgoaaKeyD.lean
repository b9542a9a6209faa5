/-
  Proved: the contracts of DecodeKey, of the program and of the reference. Conditions: the slice reads as a list of at most 2^40 bytes; its length is at most its capacity.
  By an AI agent; no person has read it.
-/
import Derived.Test.YtnbhdijmbpdgoaaKeyE
import Derived.Test.YtnbhdijmbpdgoaaEqImpl
import Derived.WalkSpells
namespace Go.Proofs.Ytnbhdijmbpdgoaa
open Go.RowKit

/-- The tail of a slice, as a string: where the tail begins ahead of the capacity. -/
theorem run_tail {P : Program} (W : World) (src dst e : TypeId) (b o n c k : Nat) (l : List UInt8) (hs : P.underlying src = some (.slice e)) (he : P.underlying e = some (.int .u8)) (hd : P.underlying dst = some .string)
    (h : Rd W 1 (some ⟨b, o, none⟩) n (l.map bv)) (hk : k ≤ n) : (convert src dst (.slice (some ⟨b, o + k, none⟩) (n - k) c)).run P W = .ok (.string (strOf (l.drop k))) W := by
  have hl := h.lenB
  refine run_str_of W src dst e _ _ _ (l.drop k) hs he hd ⟨by simp; omega, fun hm => ?_⟩
  obtain ⟨b', o', e2, hlt, hc⟩ := h.2 (by omega)
  injection e2 with e2
  injection e2 with e1 e3
  subst e1
  subst e3
  refine ⟨b, o + k, rfl, hlt, fun j u hu => ?_⟩
  rw [List.map_drop, List.getElem?_drop] at hu
  have := hc (k + j) u hu
  rwa [← Nat.add_assoc] at this
/-- A slice of no byte, as a string. -/
theorem run_none {P : Program} (W : World) (src dst e : TypeId) (A : Option Addr) (c : Nat) (hs : P.underlying src = some (.slice e)) (he : P.underlying e = some (.int .u8)) (hd : P.underlying dst = some .string) :
    (convert src dst (.slice A 0 c)).run P W = .ok (.string (strOf [])) W :=
  run_str_of W src dst e A 0 c [] hs he hd ⟨by simp, fun h => absurd h (by omega)⟩
/-- The first byte. -/
theorem first_cell {w : World} {b o n : Nat} {x : UInt8} {r : List UInt8} (h : Rd w 1 (some ⟨b, o, none⟩) n ((x :: r).map bv)) : n = r.length + 1 ∧ b < w.heap.size ∧ w.cell? ⟨b, o, none⟩ = some (.int .u8 (x.toNat : Int)) := by
  have hl := h.lenB
  simp at hl
  obtain ⟨b', o', e, hlt, hc⟩ := h.2 (by omega)
  injection e with e
  injection e with e1 e2
  subst e1
  subst e2
  exact ⟨hl.symm, hlt, by have := hc 0 (bv x) rfl; simpa [bv] using this⟩
/-- What DecodeKey hands back. -/
def DkAny (w : World) (r : Option (Int × Int × ByteArray)) (e : Ending) (w' : World) : Prop :=
  (match r with
  | none => e = .returned (.tuple #[.agg #[.int .i64 0, .int .i64 0, .string ⟨#[]⟩], .bool false])
  | some (k, n, s) => e = .returned (.tuple #[.agg #[.int .i64 k, .int .i64 n, .string s], .bool true])) ∧ Below w.heap.size w w'
theorem DkAny.no {w w' : World} {r : Option (Int × Int × ByteArray)} {e : Ending} (hr : r = none) (he : e = .returned (.tuple #[.agg #[.int .i64 0, .int .i64 0, .string ⟨#[]⟩], .bool false])) (hb : Below w.heap.size w w') : DkAny w r e w' := by
  subst hr
  exact ⟨he, hb⟩
theorem DkAny.yes {w w' : World} {r : Option (Int × Int × ByteArray)} {e : Ending} {k n : Int} {s : ByteArray} (hr : r = some (k, n, s)) (he : e = .returned (.tuple #[.agg #[.int .i64 k, .int .i64 n, .string s], .bool true])) (hb : Below w.heap.size w w') : DkAny w r e w' := by
  subst hr
  exact ⟨he, hb⟩
theorem kfroz {W w1 : World} (hb : Below W.heap.size W w1) {b o : Nat} (h : W.frozen? ⟨b, o, none⟩ = false) (hlt : b < W.heap.size) : w1.frozen? ⟨b, o, none⟩ = false := (hb.frozen (p := ⟨b, o, none⟩) hlt).trans h
theorem bset {B g o : Nat} {a w : World} {v : Value} (h : Below B a w) (hg : B ≤ g) : Below B a (w.setCell ⟨g, o, none⟩ v) := h.setCell (p := ⟨g, o, none⟩) hg v
theorem bset3 {a w : World} {x y z : Value} (h : Below a.heap.size a w) : Below a.heap.size a (((w.setCell ⟨a.heap.size, 0, none⟩ x).setCell ⟨a.heap.size, 1, none⟩ y).setCell ⟨a.heap.size, 2, none⟩ z) := bset (bset (bset h (Nat.le_refl _)) (Nat.le_refl _)) (Nat.le_refl _)
/-- The cells of two new blocks behind a call. -/
theorem two_cells {w w1 : World} {x0 x1 x2 y0 y1 y2 : Value} {T T2 : TypeId} (hb : Below ((w.alloc (.cells #[x0, x1, x2] T)).alloc (.cells #[y0, y1, y2] T2)).heap.size ((w.alloc (.cells #[x0, x1, x2] T)).alloc (.cells #[y0, y1, y2] T2)) w1) :
    (w.heap.size + 1 < w1.heap.size ∧ Below w.heap.size w w1) ∧ ((w1.cell? ⟨w.heap.size, 0, none⟩ = some x0 ∧ w1.cell? ⟨w.heap.size, 1, none⟩ = some x1 ∧ w1.cell? ⟨w.heap.size, 2, none⟩ = some x2) ∧ (w1.cell? ⟨w.heap.size + 1, 0, none⟩ = some y0 ∧ w1.cell? ⟨w.heap.size + 1, 1, none⟩ = some y1 ∧ w1.cell? ⟨w.heap.size + 1, 2, none⟩ = some y2)) ∧
      ((w1.frozen? ⟨w.heap.size, 0, none⟩ = false ∧ w1.frozen? ⟨w.heap.size, 1, none⟩ = false ∧ w1.frozen? ⟨w.heap.size, 2, none⟩ = false) ∧ (w1.frozen? ⟨w.heap.size + 1, 0, none⟩ = false ∧ w1.frozen? ⟨w.heap.size + 1, 1, none⟩ = false ∧ w1.frozen? ⟨w.heap.size + 1, 2, none⟩ = false)) := by
  have hs := hb.size
  simp at hs
  exact ⟨⟨by omega, (al (al (Below.refl _ _))).trans (hb.mono (by simp; omega))⟩, ⟨⟨kcell hb (by simp), kcell hb (by simp), kcell hb (by simp)⟩, kcell hb (by simp), kcell hb (by simp), kcell hb (by simp)⟩,
    ⟨(hb.frozen (by simp; omega)).trans (by simp), (hb.frozen (by simp; omega)).trans (by simp), (hb.frozen (by simp; omega)).trans (by simp)⟩, (hb.frozen (by simp)).trans (by simp), (hb.frozen (by simp)).trans (by simp), (hb.frozen (by simp)).trans (by simp)⟩

set_option linter.unusedSimpArgs false
set_option linter.unusedSimpArgs false
set_option linter.unusedSimpArgs false
set_option linter.unusedSimpArgs false
set_option linter.unusedSimpArgs false
set_option linter.unusedSimpArgs false
set_option linter.unusedVariables false
set_option linter.unusedSimpArgs false
set_option maxRecDepth 100000 in
theorem specDecodeKey_nil (A : Option Addr) (c : Nat) (w : World) :
    Calls Try.prog 24 #[.slice A 0 c] w (DkAny w (decK [])) := by
  go_enter Try.func24, Try.ntmps24
  go_wp2
  exact bodyPost_ret (v := .tuple #[.agg #[.int .i64 0, .int .i64 0, .string ⟨#[]⟩], .bool false]) (by simp [results, Try.results24, go_sem]) rfl (DkAny.no rfl rfl (al (Below.refl _ _)))

set_option maxRecDepth 100000 in
theorem specDecodeKey_two (b o n c : Nat) (x : UInt8) (r : List UInt8) (w : World) (hn : n ≤ 1099511627776) (hnc : n ≤ c) (hcm : c ≤ 9223372036854775807) (ha : Rd w 1 (some ⟨b, o, none⟩) n ((x :: r).map bv)) (hx : (x.toNat : Int) = 2) :
    Calls Try.prog 24 #[.slice (some ⟨b, o, none⟩) n c] w (DkAny w (decK (x :: r))) := by
  obtain ⟨hnl, hlt, hc0⟩ := first_cell ha
  rw [hx] at hc0
  have hn1 : 1 ≤ n := by omega
  have hD : decK (x :: r) = if keyB 2 0 (strOf r) = true then some (2, 0, strOf r) else none := by
    show (if x.toNat = 2 then _ else _) = _
    rw [if_pos (by omega)]
    rfl
  have HD := Lib.hid hD
  have HL := Lib.hid hnl
  have HX := Lib.hid hx
  have hsz : (strOf r).size ≤ maxLen := by unfold maxLen; rw [strOf_size]; omega
  clear hnl hx hD
  rcases (by omega : c = 1 ∨ 1 < c) with h1 | h2
  · subst h1
    obtain rfl : n = 1 := by omega
    have hr0 : r = [] := by have := HL.out; exact List.eq_nil_of_length_eq_zero (by omega)
    subst hr0
    have hkc := run_none (P := Try.prog) ((w.alloc (.cells #[.int .i64 0, .int .i64 0, .string ⟨#[]⟩] 26)).alloc (.cells #[.int .i64 2, .int .i64 0, .string ⟨#[]⟩] 26)) 31 9 5 (some ⟨b, o, none⟩) 0 Try.underlying31 Try.underlying5 Try.underlying9
    cases hb : keyB 2 0 (strOf [])
    all_goals
      have HB := Lib.hid hb
      clear hb
      go_enter Try.func24, Try.ntmps24
      go_wp2_with fail
      refine (specIsKey_any 2 0 (strOf []) _ _ hsz HB.out.symm).mono ?_
      rintro e w1 ⟨rfl, b1⟩
      obtain ⟨⟨hz, B1⟩, ⟨⟨c0, c1, c2⟩, d0, d1, d2⟩, ⟨f0, f1, f2⟩, g0, g1, g2⟩ := two_cells b1
      clear b1
      go_wp2
    · refine bodyPost_ret (v := .tuple #[.agg #[.int .i64 0, .int .i64 0, .string ⟨#[]⟩], .bool false]) (by simp [results, Try.results24, go_sem, c0, c1, c2, f0, f1, f2]) rfl (DkAny.no (by rw [HD.out, HB.out]; rfl) rfl (bset3 B1))
    · refine bodyPost_ret (v := .tuple #[.agg #[.int .i64 2, .int .i64 0, .string (strOf [])], .bool true]) (by simp [results, Try.results24, go_sem, c0, c1, c2, f0, f1, f2]) rfl (DkAny.yes (by rw [HD.out, HB.out]; rfl) rfl (bset3 B1))
  · have hkc := run_tail (P := Try.prog) ((w.alloc (.cells #[.int .i64 0, .int .i64 0, .string ⟨#[]⟩] 26)).alloc (.cells #[.int .i64 2, .int .i64 0, .string ⟨#[]⟩] 26)) 31 9 5 b o n (c - 1) 1 (x :: r) Try.underlying31 Try.underlying5 Try.underlying9 ((ha.alloc _).alloc _) (by omega)
    rw [List.drop_succ_cons, List.drop_zero] at hkc
    cases hb : keyB 2 0 (strOf r)
    all_goals
      have HB := Lib.hid hb
      clear hb
      go_enter Try.func24, Try.ntmps24
      go_wp2_with fail
      refine (specIsKey_any 2 0 (strOf r) _ _ hsz HB.out.symm).mono ?_
      rintro e w1 ⟨rfl, b1⟩
      obtain ⟨⟨hz, B1⟩, ⟨⟨c0, c1, c2⟩, d0, d1, d2⟩, ⟨f0, f1, f2⟩, g0, g1, g2⟩ := two_cells b1
      clear b1
      go_wp2
    · refine bodyPost_ret (v := .tuple #[.agg #[.int .i64 0, .int .i64 0, .string ⟨#[]⟩], .bool false]) (by simp [results, Try.results24, go_sem, c0, c1, c2, f0, f1, f2]) rfl (DkAny.no (by rw [HD.out, HB.out]; rfl) rfl (bset3 B1))
    · refine bodyPost_ret (v := .tuple #[.agg #[.int .i64 2, .int .i64 0, .string (strOf r)], .bool true]) (by simp [results, Try.results24, go_sem, c0, c1, c2, f0, f1, f2]) rfl (DkAny.yes (by rw [HD.out, HB.out]; rfl) rfl (bset3 B1))

set_option maxRecDepth 100000 in
theorem specDecodeKey_short (b o n c : Nat) (x : UInt8) (r : List UInt8) (w : World) (hn : n ≤ 6) (hnc : n ≤ c) (hcm : c ≤ 9223372036854775807) (ha : Rd w 1 (some ⟨b, o, none⟩) n ((x :: r).map bv)) (hx : ¬ (x.toNat : Int) = 2) :
    Calls Try.prog 24 #[.slice (some ⟨b, o, none⟩) n c] w (DkAny w (decK (x :: r))) := by
  obtain ⟨hnl, hlt, hc0⟩ := first_cell ha
  have hn1 : 1 ≤ n := by omega
  have hD : decK (x :: r) = none := by
    show (if x.toNat = 2 then _ else _) = _
    rw [if_neg (by omega), if_pos (by omega)]
  have HD := Lib.hid hD
  have hxl := byte_lt x
  have hx1 : ((x.toNat : Int) == 2) = false := by simpa using hx
  have hx2 : ((x.toNat : Int) != 2) = true := by simpa using hx
  clear hD hnl
  go_enter Try.func24, Try.ntmps24
  go_wp2
  exact bodyPost_ret (v := .tuple #[.agg #[.int .i64 0, .int .i64 0, .string ⟨#[]⟩], .bool false]) (by simp [results, Try.results24, go_sem]) rfl (DkAny.no HD.out rfl (al (al (Below.refl _ _))))

set_option maxRecDepth 100000 in
theorem or256 (v x : Nat) (hv : v < 281474976710656) (hx : x < 256) : bits .or .i64 ((v : Int) * 256) (x : Int) = ((v * 256 + x : Nat) : Int) := by
  have h : (v * 256) ||| x = v * 256 + x := by
    have := Nat.shiftLeft_add_eq_or_of_lt (b := x) (i := 8) (by omega) v
    rw [Nat.shiftLeft_eq] at this
    exact this.symm
  have hlt : v * 256 + x < 2 ^ 63 := by omega
  show IntKind.i64.wrap ((BitVec.ofInt 64 ((v * 256 : Nat) : Int) ||| BitVec.ofInt 64 (x : Int)).toNat : Int) = _
  rw [BitVec.toNat_or, BitVec.ofInt_natCast, BitVec.ofInt_natCast, BitVec.toNat_ofNat, BitVec.toNat_ofNat, Nat.mod_eq_of_lt (by omega), Nat.mod_eq_of_lt (by omega), h, IntKind.wrap_i64]
  omega

set_option maxRecDepth 100000 in
theorem specDecodeKey_num (b o n c : Nat) (x : UInt8) (r : List UInt8) (w : World) (hn : n ≤ 1099511627776) (hn7 : 7 ≤ n) (hnc : n ≤ c) (hcm : c ≤ 9223372036854775807) (ha : Rd w 1 (some ⟨b, o, none⟩) n ((x :: r).map bv)) (hx : ¬ (x.toNat : Int) = 2) :
    Calls Try.prog 24 #[.slice (some ⟨b, o, none⟩) n c] w (DkAny w (decK (x :: r))) := by
  obtain ⟨hnl, hlt, hc0⟩ := first_cell ha
  have hn1 : 1 ≤ n := by omega
  have hD : decK (x :: r) = if keyB x.toNat (val6 (r.take 6) - 1000000000000) (strOf (r.drop 6)) = true then some ((x.toNat : Int), (val6 (r.take 6) : Int) - 1000000000000, strOf (r.drop 6)) else none := by
    show (if x.toNat = 2 then _ else _) = _
    rw [if_neg (by omega), if_neg (by omega)]
    rfl
  have HD := Lib.hid hD
  have HL := Lib.hid hnl
  have hxl := byte_lt x
  have hx1 : ((x.toNat : Int) == 2) = false := by simpa using hx
  have hx2 : ((x.toNat : Int) != 2) = true := by simpa using hx
  have hsz : (strOf (r.drop 6)).size ≤ maxLen := by unfold maxLen; rw [strOf_size, List.length_drop]; omega
  have hv6 := val6_lt (l := r.take 6) (by rw [List.length_take]; omega)
  clear hD hnl
  go_enter Try.func24, Try.ntmps24
  go_wp2
  go_loop [6, 7] (fun v i => ∃ k : Nat, k ≤ 6 ∧ i = .int .i64 ((k : Int) + 1) ∧ v = .int .i64 (val6 (r.take k) : Int)) (fun _ i => (7 - intOf i).toNat)
  case atStart => exact ⟨0, Nat.zero_le _, rfl, rfl⟩
  case round =>
    obtain ⟨k, hk, rfl, rfl⟩ := hrel
    by_cases hlt6 : k < 6
    · obtain ⟨b', o', y, hb', _, hy, hcy0⟩ := ha.byte (k := k + 1) (by omega)
      have hcy : w.cell? ⟨b, o + (k + 1), none⟩ = some (.int .u8 (y.toNat : Int)) := by
        injection hb' with hb'
        injection hb' with e1 e2
        rw [← e1, ← e2] at hcy0
        exact hcy0
      rw [List.getElem?_cons_succ] at hy
      have hst := val6_step hy
      have hvl : val6 (r.take k) < 281474976710656 := by
        have h1 : r.take 6 = r.take k ++ (r.drop k).take (6 - k) := by
          rw [← List.take_append_drop k (r.take 6), List.take_take, Nat.min_eq_left (by omega), List.drop_take]
        have h2 : ∀ (l m : List UInt8), val6 l ≤ val6 (l ++ m) := by
          intro l m
          induction m generalizing l with
          | nil => simp
          | cons z m ih =>
            have h3 := ih (l ++ [z])
            rw [List.append_assoc] at h3
            have h4 : val6 (l ++ [z]) = val6 l * 256 + z.toNat := by rw [val6, List.foldl_append]; rfl
            have h5 : ([z] ++ m : List UInt8) = z :: m := rfl
            rw [h5] at h3
            omega
        have h6 := h2 (r.take k) ((r.drop k).take (6 - k))
        rw [← h1] at h6
        omega
      have hor := or256 (val6 (r.take k)) y.toNat hvl (byte_nat_lt y)
      rw [← hst] at hor
      have HOR := Lib.hid hor
      have hyl := byte_lt y
      clear hor hst hy hb' hcy0
      generalize val6 (r.take k) = v at hvl HOR ⊢
      go_wp2
      go_round
      case rel => exact ⟨k + 1, by omega, by go_num, by rw [HOR.out]⟩
      case measure => simp [intOf]; omega
    · obtain rfl : k = 6 := by omega
      obtain ⟨m, hm⟩ : ∃ m : Int, m = (val6 (r.take 6) : Int) - 1000000000000 := ⟨_, rfl⟩
      have HM := Lib.hid hm
      have hml : -1000000000000 ≤ m ∧ m ≤ 281474976710656 := by omega
      rcases (by omega : c = 7 ∨ 7 < c) with h1 | h2
      · subst h1
        obtain rfl : n = 7 := by omega
        have hkc := fun y : Int => run_none (P := Try.prog) ((w.alloc (.cells #[.int .i64 0, .int .i64 0, .string ⟨#[]⟩] 26)).alloc (.cells #[.int .i64 (x.toNat : Int), .int .i64 y, .string ⟨#[]⟩] 26)) 31 9 5 (some ⟨b, o, none⟩) 0 Try.underlying31 Try.underlying5 Try.underlying9
        have hr0 : r.drop 6 = [] := List.drop_eq_nil_of_le (by have := HL.out; omega)
        rw [hr0] at HD hsz
        clear hm
        obtain ⟨bo, hb⟩ : ∃ bo, bo = keyB (x.toNat : Int) ((val6 (r.take 6) : Int) - 1000000000000) (strOf []) := ⟨_, rfl⟩
        have HB := Lib.hid hb
        clear hb
        go_wp2_with fail
        refine (specIsKey_any _ _ (strOf []) bo _ hsz HB.out).mono ?_
        rintro e w1 ⟨rfl, b1⟩
        obtain ⟨⟨hz, B1⟩, ⟨⟨c0, c1, c2⟩, d0, d1, d2⟩, ⟨f0, f1, f2⟩, g0, g1, g2⟩ := two_cells b1
        clear b1 hkc
        cases bo
        · go_wp2
          refine bodyPost_ret (v := .tuple #[.agg #[.int .i64 0, .int .i64 0, .string ⟨#[]⟩], .bool false]) (by simp [results, Try.results24, go_sem, c0, c1, c2, f0, f1, f2]) rfl (DkAny.no (by rw [HD.out, ← HB.out]; rfl) rfl (bset3 B1))
        · go_wp2
          refine bodyPost_ret (v := .tuple #[.agg #[.int .i64 (x.toNat : Int), .int .i64 ((val6 (r.take 6) : Int) - 1000000000000), .string (strOf [])], .bool true]) (by simp [results, Try.results24, go_sem, c0, c1, c2, f0, f1, f2]) rfl (DkAny.yes (by rw [HD.out, ← HB.out]; rfl) rfl (bset3 B1))
      · have hkc := fun y : Int => run_tail (P := Try.prog) ((w.alloc (.cells #[.int .i64 0, .int .i64 0, .string ⟨#[]⟩] 26)).alloc (.cells #[.int .i64 (x.toNat : Int), .int .i64 y, .string ⟨#[]⟩] 26)) 31 9 5 b o n (c - 7) 7 (x :: r) Try.underlying31 Try.underlying5 Try.underlying9 ((ha.alloc _).alloc _) (by omega)
        rw [List.drop_succ_cons] at hkc
        clear hm
        obtain ⟨bo, hb⟩ : ∃ bo, bo = keyB (x.toNat : Int) ((val6 (r.take 6) : Int) - 1000000000000) (strOf (r.drop 6)) := ⟨_, rfl⟩
        have HB := Lib.hid hb
        clear hb
        go_wp2_with fail
        refine (specIsKey_any _ _ (strOf (r.drop 6)) bo _ hsz HB.out).mono ?_
        rintro e w1 ⟨rfl, b1⟩
        obtain ⟨⟨hz, B1⟩, ⟨⟨c0, c1, c2⟩, d0, d1, d2⟩, ⟨f0, f1, f2⟩, g0, g1, g2⟩ := two_cells b1
        clear b1 hkc
        cases bo
        · go_wp2
          refine bodyPost_ret (v := .tuple #[.agg #[.int .i64 0, .int .i64 0, .string ⟨#[]⟩], .bool false]) (by simp [results, Try.results24, go_sem, c0, c1, c2, f0, f1, f2]) rfl (DkAny.no (by rw [HD.out, ← HB.out]; rfl) rfl (bset3 B1))
        · go_wp2
          refine bodyPost_ret (v := .tuple #[.agg #[.int .i64 (x.toNat : Int), .int .i64 ((val6 (r.take 6) : Int) - 1000000000000), .string (strOf (r.drop 6))], .bool true]) (by simp [results, Try.results24, go_sem, c0, c1, c2, f0, f1, f2]) rfl (DkAny.yes (by rw [HD.out, ← HB.out]; rfl) rfl (bset3 B1))

set_option maxRecDepth 100000 in
theorem implDecodeKey_nil (A : Option Addr) (c : Nat) (w : World) :
    Calls Try.prog 26 #[.slice A 0 c] w (DkAny w (decK [])) := by
  go_enter Try.func26, Try.ntmps26
  go_wp2
  exact bodyPost_ret (v := .tuple #[.agg #[.int .i64 0, .int .i64 0, .string ⟨#[]⟩], .bool false]) (by simp [results, Try.results26, go_sem]) rfl (DkAny.no rfl rfl (al (Below.refl _ _)))

set_option maxRecDepth 100000 in
theorem implDecodeKey_two (b o n c : Nat) (x : UInt8) (r : List UInt8) (w : World) (hn : n ≤ 1099511627776) (hnc : n ≤ c) (hcm : c ≤ 9223372036854775807) (ha : Rd w 1 (some ⟨b, o, none⟩) n ((x :: r).map bv)) (hx : (x.toNat : Int) = 2) :
    Calls Try.prog 26 #[.slice (some ⟨b, o, none⟩) n c] w (DkAny w (decK (x :: r))) := by
  obtain ⟨hnl, hlt, hc0⟩ := first_cell ha
  rw [hx] at hc0
  have hn1 : 1 ≤ n := by omega
  have hD : decK (x :: r) = if keyB 2 0 (strOf r) = true then some (2, 0, strOf r) else none := by
    show (if x.toNat = 2 then _ else _) = _
    rw [if_pos (by omega)]
    rfl
  have hE : keyB 2 0 (strOf r) = decide (encK 2 0 (strOf r) = x :: r) := by
    cases h : keyB 2 0 (strOf r)
    · exact (decide_eq_false (enc_ne h)).symm
    · exact (decide_eq_true (enc_two (by omega) h)).symm
  have HE := Lib.hid hE
  have HD := Lib.hid hD
  have HL := Lib.hid hnl
  have HX := Lib.hid hx
  have hsz : (strOf r).size ≤ maxLen := by unfold maxLen; rw [strOf_size]; omega
  clear hnl hx hD hE
  rcases (by omega : c = 1 ∨ 1 < c) with h1 | h2
  · subst h1
    obtain rfl : n = 1 := by omega
    have hr0 : r = [] := by have := HL.out; exact List.eq_nil_of_length_eq_zero (by omega)
    subst hr0
    have hkc := run_none (P := Try.prog) ((w.alloc (.cells #[.int .i64 0, .int .i64 0, .string ⟨#[]⟩] 26)).alloc (.cells #[.int .i64 2, .int .i64 0, .string ⟨#[]⟩] 26)) 31 9 5 (some ⟨b, o, none⟩) 0 Try.underlying31 Try.underlying5 Try.underlying9
    go_enter Try.func26, Try.ntmps26
    obtain ⟨bo, hb⟩ : ∃ bo, bo = keyB 2 0 (strOf []) := ⟨_, rfl⟩
    have HB := Lib.hid hb
    clear hb
    go_wp2_with fail
    refine (implEncodeKey_any 2 0 (strOf []) _ hsz).mono ?_
    rintro e w1 ⟨A1, n1, c1_, rfl, o1, b1⟩
    obtain ⟨⟨hz, B1⟩, ⟨⟨c0, c1, c2⟩, d0, d1, d2⟩, ⟨f0, f1, f2⟩, g0, g1, g2⟩ := two_cells b1
    have hn1b : n1 ≤ 19 := by have z1 := own_lenB o1; have z2 := encK_len 2 0 (strOf []); omega
    clear b1
    go_wp2_with fail
    refine (implEqualBytes_any A1 (some ⟨b, o, none⟩) n1 1 c1_ 1 _ (x :: []) bo _ (by unfold maxLen; omega) (by unfold maxLen; omega) (Rd.of_own o1) (ha.below B1) (by rw [HB.out]; exact HE.out)).mono ?_
    rintro e w2 ⟨rfl, b2⟩
    replace c0 := kcell b2 c0
    replace c1 := kcell b2 c1
    replace c2 := kcell b2 c2
    replace d0 := kcell b2 d0
    replace d1 := kcell b2 d1
    replace d2 := kcell b2 d2
    replace f0 := kfroz b2 f0 (by omega)
    replace f1 := kfroz b2 f1 (by omega)
    replace f2 := kfroz b2 f2 (by omega)
    replace hz := Nat.lt_of_lt_of_le hz b2.size
    replace B1 := B1.trans (b2.mono B1.size)
    clear b2 o1
    cases bo
    · go_wp2
      refine bodyPost_ret (v := .tuple #[.agg #[.int .i64 0, .int .i64 0, .string ⟨#[]⟩], .bool false]) (by simp [results, Try.results26, go_sem, c0, c1, c2, f0, f1, f2]) rfl (DkAny.no (by rw [HD.out, ← HB.out]; rfl) rfl (bset3 B1))
    · go_wp2
      refine bodyPost_ret (v := .tuple #[.agg #[.int .i64 2, .int .i64 0, .string (strOf [])], .bool true]) (by simp [results, Try.results26, go_sem, c0, c1, c2, f0, f1, f2]) rfl (DkAny.yes (by rw [HD.out, ← HB.out]; rfl) rfl (bset3 B1))
  · have hkc := run_tail (P := Try.prog) ((w.alloc (.cells #[.int .i64 0, .int .i64 0, .string ⟨#[]⟩] 26)).alloc (.cells #[.int .i64 2, .int .i64 0, .string ⟨#[]⟩] 26)) 31 9 5 b o n (c - 1) 1 (x :: r) Try.underlying31 Try.underlying5 Try.underlying9 ((ha.alloc _).alloc _) (by omega)
    rw [List.drop_succ_cons, List.drop_zero] at hkc
    go_enter Try.func26, Try.ntmps26
    obtain ⟨bo, hb⟩ : ∃ bo, bo = keyB 2 0 (strOf r) := ⟨_, rfl⟩
    have HB := Lib.hid hb
    clear hb
    go_wp2_with fail
    refine (implEncodeKey_any 2 0 (strOf r) _ hsz).mono ?_
    rintro e w1 ⟨A1, n1, c1_, rfl, o1, b1⟩
    obtain ⟨⟨hz, B1⟩, ⟨⟨c0, c1, c2⟩, d0, d1, d2⟩, ⟨f0, f1, f2⟩, g0, g1, g2⟩ := two_cells b1
    have hn1b : n1 ≤ 19 := by have z1 := own_lenB o1; have z2 := encK_len 2 0 (strOf r); omega
    clear b1
    go_wp2_with fail
    refine (implEqualBytes_any A1 (some ⟨b, o, none⟩) n1 n c1_ c _ (x :: r) bo _ (by unfold maxLen; omega) (by unfold maxLen; omega) (Rd.of_own o1) (ha.below B1) (by rw [HB.out]; exact HE.out)).mono ?_
    rintro e w2 ⟨rfl, b2⟩
    replace c0 := kcell b2 c0
    replace c1 := kcell b2 c1
    replace c2 := kcell b2 c2
    replace d0 := kcell b2 d0
    replace d1 := kcell b2 d1
    replace d2 := kcell b2 d2
    replace f0 := kfroz b2 f0 (by omega)
    replace f1 := kfroz b2 f1 (by omega)
    replace f2 := kfroz b2 f2 (by omega)
    replace hz := Nat.lt_of_lt_of_le hz b2.size
    replace B1 := B1.trans (b2.mono B1.size)
    clear b2 o1
    cases bo
    · go_wp2
      refine bodyPost_ret (v := .tuple #[.agg #[.int .i64 0, .int .i64 0, .string ⟨#[]⟩], .bool false]) (by simp [results, Try.results26, go_sem, c0, c1, c2, f0, f1, f2]) rfl (DkAny.no (by rw [HD.out, ← HB.out]; rfl) rfl (bset3 B1))
    · go_wp2
      refine bodyPost_ret (v := .tuple #[.agg #[.int .i64 2, .int .i64 0, .string (strOf r)], .bool true]) (by simp [results, Try.results26, go_sem, c0, c1, c2, f0, f1, f2]) rfl (DkAny.yes (by rw [HD.out, ← HB.out]; rfl) rfl (bset3 B1))

set_option maxRecDepth 100000 in
theorem implDecodeKey_short (b o n c : Nat) (x : UInt8) (r : List UInt8) (w : World) (hn : n ≤ 6) (hnc : n ≤ c) (hcm : c ≤ 9223372036854775807) (ha : Rd w 1 (some ⟨b, o, none⟩) n ((x :: r).map bv)) (hx : ¬ (x.toNat : Int) = 2) :
    Calls Try.prog 26 #[.slice (some ⟨b, o, none⟩) n c] w (DkAny w (decK (x :: r))) := by
  obtain ⟨hnl, hlt, hc0⟩ := first_cell ha
  have hn1 : 1 ≤ n := by omega
  have hD : decK (x :: r) = none := by
    show (if x.toNat = 2 then _ else _) = _
    rw [if_neg (by omega), if_pos (by omega)]
  have HD := Lib.hid hD
  have hxl := byte_lt x
  have hc1 : c = 1 ∨ 1 < c := by omega
  have hx1 : ((x.toNat : Int) == 2) = false := by simpa using hx
  have hx2 : ((x.toNat : Int) != 2) = true := by simpa using hx
  clear hD hnl
  rcases hc1 with h1 | h1
  · subst h1
    obtain rfl : n = 1 := by omega
    go_enter Try.func26, Try.ntmps26
    go_wp2
    exact bodyPost_ret (v := .tuple #[.agg #[.int .i64 0, .int .i64 0, .string ⟨#[]⟩], .bool false]) (by simp [results, Try.results26, go_sem]) rfl (DkAny.no HD.out rfl (al (al (Below.refl _ _))))
  · go_enter Try.func26, Try.ntmps26
    go_wp2
    exact bodyPost_ret (v := .tuple #[.agg #[.int .i64 0, .int .i64 0, .string ⟨#[]⟩], .bool false]) (by simp [results, Try.results26, go_sem]) rfl (DkAny.no HD.out rfl (al (al (Below.refl _ _))))

set_option maxRecDepth 100000 in
theorem implDecodeKey_num (b o n c : Nat) (x : UInt8) (r : List UInt8) (w : World) (hn : n ≤ 1099511627776) (hn7 : 7 ≤ n) (hnc : n ≤ c) (hcm : c ≤ 9223372036854775807) (ha : Rd w 1 (some ⟨b, o, none⟩) n ((x :: r).map bv)) (hx : ¬ (x.toNat : Int) = 2) :
    Calls Try.prog 26 #[.slice (some ⟨b, o, none⟩) n c] w (DkAny w (decK (x :: r))) := by
  obtain ⟨hnl, hlt, hc0⟩ := first_cell ha
  have hn1 : 1 ≤ n := by omega
  have hD : decK (x :: r) = if keyB x.toNat (val6 (r.take 6) - 1000000000000) (strOf (r.drop 6)) = true then some ((x.toNat : Int), (val6 (r.take 6) : Int) - 1000000000000, strOf (r.drop 6)) else none := by
    show (if x.toNat = 2 then _ else _) = _
    rw [if_neg (by omega), if_neg (by omega)]
    rfl
  have hE : keyB (x.toNat : Int) ((val6 (r.take 6) : Int) - 1000000000000) (strOf (r.drop 6)) = decide (encK (x.toNat : Int) ((val6 (r.take 6) : Int) - 1000000000000) (strOf (r.drop 6)) = x :: r) := by
    cases h : keyB (x.toNat : Int) ((val6 (r.take 6) : Int) - 1000000000000) (strOf (r.drop 6))
    · exact (decide_eq_false (enc_ne h)).symm
    · exact (decide_eq_true (enc_num (by omega) (by omega) h)).symm
  have HE := Lib.hid hE
  have HD := Lib.hid hD
  have HL := Lib.hid hnl
  have hxl := byte_lt x
  have hx1 : ((x.toNat : Int) == 2) = false := by simpa using hx
  have hx2 : ((x.toNat : Int) != 2) = true := by simpa using hx
  have hsz : (strOf (r.drop 6)).size ≤ maxLen := by unfold maxLen; rw [strOf_size, List.length_drop]; omega
  have hv6 := val6_lt (l := r.take 6) (by rw [List.length_take]; omega)
  clear hD hnl hE
  have hcc : 1 < c := by omega
  go_enter Try.func26, Try.ntmps26
  go_wp2
  go_loop [6, 8, 30] (fun v u i => ∃ k : Nat, k ≤ 6 ∧ i = .int .i64 (k : Int) ∧ v = .int .i64 (val6 (r.take k) : Int)) (fun _ _ i => (6 - intOf i).toNat)
  case atStart => exact ⟨0, Nat.zero_le _, rfl, rfl⟩
  case round =>
    obtain ⟨k, hk, rfl, rfl⟩ := hrel
    by_cases hlt6 : k < 6
    · obtain ⟨b', o', y, hb', _, hy, hcy0⟩ := ha.byte (k := k + 1) (by omega)
      have hcy : w.cell? ⟨b, o + (k + 1), none⟩ = some (.int .u8 (y.toNat : Int)) := by
        injection hb' with hb'
        injection hb' with e1 e2
        rw [← e1, ← e2] at hcy0
        exact hcy0
      rw [List.getElem?_cons_succ] at hy
      have hst := val6_step hy
      have hvl : val6 (r.take k) < 281474976710656 := by
        have h1 : r.take 6 = r.take k ++ (r.drop k).take (6 - k) := by
          rw [← List.take_append_drop k (r.take 6), List.take_take, Nat.min_eq_left (by omega), List.drop_take]
        have h2 : ∀ (l m : List UInt8), val6 l ≤ val6 (l ++ m) := by
          intro l m
          induction m generalizing l with
          | nil => simp
          | cons z m ih =>
            have h3 := ih (l ++ [z])
            rw [List.append_assoc] at h3
            have h4 : val6 (l ++ [z]) = val6 l * 256 + z.toNat := by rw [val6, List.foldl_append]; rfl
            have h5 : ([z] ++ m : List UInt8) = z :: m := rfl
            rw [h5] at h3
            omega
        have h6 := h2 (r.take k) ((r.drop k).take (6 - k))
        rw [← h1] at h6
        omega
      have hcy2 : w.cell? ⟨b, o + 1 + k, none⟩ = some (.int .u8 (y.toNat : Int)) := by rw [show o + 1 + k = o + (k + 1) by omega]; exact hcy
      have HST := Lib.hid hst
      have hyl := byte_lt y
      clear hst hy hb' hcy0
      generalize val6 (r.take k) = v at hvl HST ⊢
      go_wp2
      go_round
      case rel => exact ⟨k + 1, by omega, by go_num, by (rw [HST.out]; go_num)⟩
      case measure => simp [intOf]; omega
    · obtain rfl : k = 6 := by omega
      obtain ⟨m, hm⟩ : ∃ m : Int, m = (val6 (r.take 6) : Int) - 1000000000000 := ⟨_, rfl⟩
      have HM := Lib.hid hm
      have hml : -1000000000000 ≤ m ∧ m ≤ 281474976710656 := by omega
      rcases (by omega : c = 7 ∨ 7 < c) with h1 | h2
      · subst h1
        obtain rfl : n = 7 := by omega
        have hkc := fun (y : Int) (A : Option Addr) => run_none (P := Try.prog) ((w.alloc (.cells #[.int .i64 0, .int .i64 0, .string ⟨#[]⟩] 26)).alloc (.cells #[.int .i64 (x.toNat : Int), .int .i64 y, .string ⟨#[]⟩] 26)) 31 9 5 A 0 Try.underlying31 Try.underlying5 Try.underlying9
        have hr0 : r.drop 6 = [] := List.drop_eq_nil_of_le (by have := HL.out; omega)
        rw [hr0] at HD HE hsz
        clear hm
        obtain ⟨bo, hb⟩ : ∃ bo, bo = keyB (x.toNat : Int) ((val6 (r.take 6) : Int) - 1000000000000) (strOf []) := ⟨_, rfl⟩
        have HB := Lib.hid hb
        clear hb
        go_wp2_with fail
        refine (implEncodeKey_any (x.toNat : Int) ((val6 (r.take 6) : Int) - 1000000000000) (strOf []) _ hsz).mono ?_
        rintro e w1 ⟨A1, n1, c1_, rfl, o1, b1⟩
        obtain ⟨⟨hz, B1⟩, ⟨⟨c0, c1, c2⟩, d0, d1, d2⟩, ⟨f0, f1, f2⟩, g0, g1, g2⟩ := two_cells b1
        have hn1b : n1 ≤ 19 := by have z1 := own_lenB o1; have z2 := encK_len (x.toNat : Int) ((val6 (r.take 6) : Int) - 1000000000000) (strOf []); omega
        clear b1
        go_wp2_with fail
        refine (implEqualBytes_any A1 (some ⟨b, o, none⟩) n1 7 c1_ 7 _ (x :: r) bo _ (by unfold maxLen; omega) (by unfold maxLen; omega) (Rd.of_own o1) (ha.below B1) (by rw [HB.out]; exact HE.out)).mono ?_
        rintro e w2 ⟨rfl, b2⟩
        replace c0 := kcell b2 c0
        replace c1 := kcell b2 c1
        replace c2 := kcell b2 c2
        replace d0 := kcell b2 d0
        replace d1 := kcell b2 d1
        replace d2 := kcell b2 d2
        replace f0 := kfroz b2 f0 (by omega)
        replace f1 := kfroz b2 f1 (by omega)
        replace f2 := kfroz b2 f2 (by omega)
        replace hz := Nat.lt_of_lt_of_le hz b2.size
        replace B1 := B1.trans (b2.mono B1.size)
        clear b2 o1
        cases bo
        · go_wp2
          refine bodyPost_ret (v := .tuple #[.agg #[.int .i64 0, .int .i64 0, .string ⟨#[]⟩], .bool false]) (by simp [results, Try.results26, go_sem, c0, c1, c2, f0, f1, f2]) rfl (DkAny.no (by rw [HD.out, ← HB.out]; rfl) rfl (bset3 B1))
        · go_wp2
          refine bodyPost_ret (v := .tuple #[.agg #[.int .i64 (x.toNat : Int), .int .i64 ((val6 (r.take 6) : Int) - 1000000000000), .string (strOf [])], .bool true]) (by simp [results, Try.results26, go_sem, c0, c1, c2, f0, f1, f2]) rfl (DkAny.yes (by rw [HD.out, ← HB.out]; rfl) rfl (bset3 B1))
      · have hkc := fun y : Int => run_tail (P := Try.prog) ((w.alloc (.cells #[.int .i64 0, .int .i64 0, .string ⟨#[]⟩] 26)).alloc (.cells #[.int .i64 (x.toNat : Int), .int .i64 y, .string ⟨#[]⟩] 26)) 31 9 5 b o n (c - 7) 7 (x :: r) Try.underlying31 Try.underlying5 Try.underlying9 ((ha.alloc _).alloc _) (by omega)
        rw [List.drop_succ_cons] at hkc
        rw [show o + 7 = o + 1 + 6 by omega, show n - 7 = n - 1 - 6 by omega, show c - 7 = c - 1 - 6 by omega] at hkc
        have h3 : 6 < c - 1 := by omega
        clear hm
        obtain ⟨bo, hb⟩ : ∃ bo, bo = keyB (x.toNat : Int) ((val6 (r.take 6) : Int) - 1000000000000) (strOf (r.drop 6)) := ⟨_, rfl⟩
        have HB := Lib.hid hb
        clear hb
        go_wp2_with fail
        refine (implEncodeKey_any (x.toNat : Int) ((val6 (r.take 6) : Int) - 1000000000000) (strOf (r.drop 6)) _ hsz).mono ?_
        rintro e w1 ⟨A1, n1, c1_, rfl, o1, b1⟩
        obtain ⟨⟨hz, B1⟩, ⟨⟨c0, c1, c2⟩, d0, d1, d2⟩, ⟨f0, f1, f2⟩, g0, g1, g2⟩ := two_cells b1
        have hn1b : n1 ≤ 19 := by have z1 := own_lenB o1; have z2 := encK_len (x.toNat : Int) ((val6 (r.take 6) : Int) - 1000000000000) (strOf (r.drop 6)); omega
        clear b1
        go_wp2_with fail
        refine (implEqualBytes_any A1 (some ⟨b, o, none⟩) n1 n c1_ c _ (x :: r) bo _ (by unfold maxLen; omega) (by unfold maxLen; omega) (Rd.of_own o1) (ha.below B1) (by rw [HB.out]; exact HE.out)).mono ?_
        rintro e w2 ⟨rfl, b2⟩
        replace c0 := kcell b2 c0
        replace c1 := kcell b2 c1
        replace c2 := kcell b2 c2
        replace d0 := kcell b2 d0
        replace d1 := kcell b2 d1
        replace d2 := kcell b2 d2
        replace f0 := kfroz b2 f0 (by omega)
        replace f1 := kfroz b2 f1 (by omega)
        replace f2 := kfroz b2 f2 (by omega)
        replace hz := Nat.lt_of_lt_of_le hz b2.size
        replace B1 := B1.trans (b2.mono B1.size)
        clear b2 o1
        cases bo
        · go_wp2
          refine bodyPost_ret (v := .tuple #[.agg #[.int .i64 0, .int .i64 0, .string ⟨#[]⟩], .bool false]) (by simp [results, Try.results26, go_sem, c0, c1, c2, f0, f1, f2]) rfl (DkAny.no (by rw [HD.out, ← HB.out]; rfl) rfl (bset3 B1))
        · go_wp2
          refine bodyPost_ret (v := .tuple #[.agg #[.int .i64 (x.toNat : Int), .int .i64 ((val6 (r.take 6) : Int) - 1000000000000), .string (strOf (r.drop 6))], .bool true]) (by simp [results, Try.results26, go_sem, c0, c1, c2, f0, f1, f2]) rfl (DkAny.yes (by rw [HD.out, ← HB.out]; rfl) rfl (bset3 B1))

theorem specDecodeKey_any (A : Option Addr) (n c : Nat) (l : List UInt8) (w : World) (hn : n ≤ 1099511627776) (hnc : n ≤ c) (hcm : c ≤ 9223372036854775807) (ha : Rd w 1 A n (l.map bv)) :
    Calls Try.prog 24 #[.slice A n c] w (DkAny w (decK l)) := by
  have hl := ha.lenB
  cases l with
  | nil =>
    obtain rfl : n = 0 := by simp at hl; omega
    exact specDecodeKey_nil A c w
  | cons x r =>
    simp only [List.length_cons] at hl
    obtain ⟨b, o, rfl, _, _⟩ := ha.2 (by omega)
    by_cases hx : (x.toNat : Int) = 2
    · exact specDecodeKey_two b o n c x r w hn hnc hcm ha hx
    · by_cases h7 : 7 ≤ n
      · exact specDecodeKey_num b o n c x r w hn h7 hnc hcm ha hx
      · exact specDecodeKey_short b o n c x r w (by omega) hnc hcm ha hx

theorem implDecodeKey_any (A : Option Addr) (n c : Nat) (l : List UInt8) (w : World) (hn : n ≤ 1099511627776) (hnc : n ≤ c) (hcm : c ≤ 9223372036854775807) (ha : Rd w 1 A n (l.map bv)) :
    Calls Try.prog 26 #[.slice A n c] w (DkAny w (decK l)) := by
  have hl := ha.lenB
  cases l with
  | nil =>
    obtain rfl : n = 0 := by simp at hl; omega
    exact implDecodeKey_nil A c w
  | cons x r =>
    simp only [List.length_cons] at hl
    obtain ⟨b, o, rfl, _, _⟩ := ha.2 (by omega)
    by_cases hx : (x.toNat : Int) = 2
    · exact implDecodeKey_two b o n c x r w hn hnc hcm ha hx
    · by_cases h7 : 7 ≤ n
      · exact implDecodeKey_num b o n c x r w hn h7 hnc hcm ha hx
      · exact implDecodeKey_short b o n c x r w (by omega) hnc hcm ha hx

/-- The four results. -/
def dkT (r : Option (Int × Int × ByteArray)) : Int × Int × ByteArray × Bool := match r with
  | none => (0, 0, ⟨#[]⟩, false)
  | some (k, n, s) => (k, n, s, true)
theorem DkAny.t {w w' : World} {r : Option (Int × Int × ByteArray)} {e : Ending} {k n : Int} {s : ByteArray} {b : Bool} (h : dkT r = (k, n, s, b)) (hd : DkAny w r e w') : e = .returned (.tuple #[.agg #[.int .i64 k, .int .i64 n, .string s], .bool b]) ∧ Below w.heap.size w w' := by
  cases r with
  | none =>
    simp only [dkT, Prod.mk.injEq] at h
    obtain ⟨rfl, rfl, rfl, rfl⟩ := h
    exact hd
  | some p =>
    obtain ⟨k', n', s'⟩ := p
    simp only [dkT, Prod.mk.injEq] at h
    obtain ⟨rfl, rfl, rfl, rfl⟩ := h
    exact hd
theorem specDecodeKey_t (A : Option Addr) (n c : Nat) (l : List UInt8) (k m : Int) (s : ByteArray) (bo : Bool) (w : World) (hn : n ≤ 1099511627776) (hnc : n ≤ c) (hcm : c ≤ 9223372036854775807) (ha : Rd w 1 A n (l.map bv)) (h : dkT (decK l) = (k, m, s, bo)) :
    Calls Try.prog 24 #[.slice A n c] w fun e w' => e = .returned (.tuple #[.agg #[.int .i64 k, .int .i64 m, .string s], .bool bo]) ∧ Below w.heap.size w w' :=
  (specDecodeKey_any A n c l w hn hnc hcm ha).mono fun _ _ hd => hd.t h
theorem implDecodeKey_t (A : Option Addr) (n c : Nat) (l : List UInt8) (k m : Int) (s : ByteArray) (bo : Bool) (w : World) (hn : n ≤ 1099511627776) (hnc : n ≤ c) (hcm : c ≤ 9223372036854775807) (ha : Rd w 1 A n (l.map bv)) (h : dkT (decK l) = (k, m, s, bo)) :
    Calls Try.prog 26 #[.slice A n c] w fun e w' => e = .returned (.tuple #[.agg #[.int .i64 k, .int .i64 m, .string s], .bool bo]) ∧ Below w.heap.size w w' :=
  (implDecodeKey_any A n c l w hn hnc hcm ha).mono fun _ _ hd => hd.t h
theorem dkT_size {l : List UInt8} {k n : Int} {s : ByteArray} {b : Bool} (h : dkT (decK l) = (k, n, s, b)) : s.size ≤ 12 := by
  cases hd : decK l with
  | none =>
    rw [hd] at h
    simp only [dkT, Prod.mk.injEq] at h
    obtain ⟨rfl, rfl, rfl, rfl⟩ := h
    exact Nat.zero_le _
  | some p =>
    obtain ⟨k', n', s'⟩ := p
    rw [hd] at h
    simp only [dkT, Prod.mk.injEq] at h
    obtain ⟨rfl, rfl, rfl, rfl⟩ := h
    exact keyB_len (decK_some hd).1
theorem dkT_enc {l : List UInt8} {k n : Int} {s : ByteArray} (h : dkT (decK l) = (k, n, s, true)) : encK k n s = l := by
  cases hd : decK l with
  | none =>
    rw [hd] at h
    simp [dkT] at h
  | some p =>
    obtain ⟨k', n', s'⟩ := p
    rw [hd] at h
    simp only [dkT, Prod.mk.injEq] at h
    obtain ⟨rfl, rfl, rfl, _⟩ := h
    exact (decK_some hd).2
end Go.Proofs.Ytnbhdijmbpdgoaa
