/-
  Proved: the contracts of the reference's draws of ranges, of bent bytes, and of the arguments of InRangeOf and DecodeKey. Only what is needed of what is drawn is said. Conditions: the code reads as a list of at most 2^40 bytes.
  By an AI agent; no person has read it.
-/
import Derived.Test.YtbbngihmjdndoaaDrawK
import Derived.Test.YtbbngihmjdndoaaKeyE
import Derived.Deep.RegionWith
namespace Go.Proofs.Ytbbngihmjdndoaa
open Go.RowKit
set_option linter.unusedSimpArgs false

theorem gcell {w w' : World} {b o p : Nat} {v : Value} (hg : w.grownBy w' (some p)) (h : w.cell? ⟨b, o, none⟩ = some v) (hne : b ≠ p) : w'.cell? ⟨b, o, none⟩ = some v := hg.cell h (fun e => hne (by injection e))
theorem gfroz {w w' : World} {b o p : Nat} (hg : w.grownBy w' (some p)) (hlt : b < w.heap.size) (h : w.frozen? ⟨b, o, none⟩ = false) (hne : b ≠ p) : w'.frozen? ⟨b, o, none⟩ = false :=
  (World.frozen?_of_block (a := ⟨b, o, none⟩) (hg.block b hlt (fun e => hne (by injection e)))).trans h
/-- A draw of a range of keys. -/
def DR (w : World) (p : Nat) (e : Ending) (w' : World) : Prop :=
  ∃ a b k n s k2 n2 s2, e = .returned (.agg #[.bool a, .bool b, .int .i64 k, .int .i64 n, .string s, .int .i64 k2, .int .i64 n2, .string s2]) ∧ (anyK k n s ∧ anyK k2 n2 s2) ∧ Cur w' p ∧ w.grownBy w' (some p)
theorem res8 {w w1 : World} {p : Nat} {x0 x1 x2 x3 x4 x5 x6 x7 : Value} (hc : Cur w1 p) (hg : w.grownBy w1 (some p)) (hp : p < w.heap.size) :
    Cur ((((((((w1.setCell ⟨w.heap.size, 0, none⟩ (x0)).setCell ⟨w.heap.size, 1, none⟩ (x1)).setCell ⟨w.heap.size, 2, none⟩ (x2)).setCell ⟨w.heap.size, 3, none⟩ (x3)).setCell ⟨w.heap.size, 4, none⟩ (x4)).setCell ⟨w.heap.size, 5, none⟩ (x5)).setCell ⟨w.heap.size, 6, none⟩ (x6)).setCell ⟨w.heap.size, 7, none⟩ (x7)) p ∧ w.grownBy ((((((((w1.setCell ⟨w.heap.size, 0, none⟩ (x0)).setCell ⟨w.heap.size, 1, none⟩ (x1)).setCell ⟨w.heap.size, 2, none⟩ (x2)).setCell ⟨w.heap.size, 3, none⟩ (x3)).setCell ⟨w.heap.size, 4, none⟩ (x4)).setCell ⟨w.heap.size, 5, none⟩ (x5)).setCell ⟨w.heap.size, 6, none⟩ (x6)).setCell ⟨w.heap.size, 7, none⟩ (x7)) (some p) :=
  ⟨cur_set (cur_set (cur_set (cur_set (cur_set (cur_set (cur_set (cur_set (hc) hp) hp) hp) hp) hp) hp) hp) hp, gro_set (gro_set (gro_set (gro_set (gro_set (gro_set (gro_set (gro_set (hg) (Nat.le_refl _)) (Nat.le_refl _)) (Nat.le_refl _)) (Nat.le_refl _)) (Nat.le_refl _)) (Nat.le_refl _)) (Nat.le_refl _)) (Nat.le_refl _)⟩
theorem anyK_zero : anyK 0 0 ⟨#[]⟩ := ⟨by omega, by omega, Nat.zero_le _⟩

/-- A row of the run's own, cut short. -/
theorem own_cut {w : World} {base : Nat} {e : TypeId} {A : Option Addr} {n c q : Nat} {xs : List Value} (h : w.ownsRow base e 1 (.slice A n c) n xs) (hq : q ≤ n) (h0 : 0 < n) : w.ownsRow base e 1 (.slice A q c) q (xs.take q) := by
  have hl : xs.length = n := by have := h.1; omega
  refine ⟨by simp; omega, ?_⟩
  rcases h.2 with ⟨_, hn⟩ | ⟨g, cap, cur, hv, hg, hh, h1, h2, h3, h4⟩
  · omega
  · injection hv with e1 e2 e3
    refine .inr ⟨g, cap, cur, by rw [e1, e3], hg, hh, by omega, h2, h3, ?_⟩
    rw [Nat.mul_one] at h4 ⊢
    rw [← h4, List.take_take, Nat.min_eq_left hq]

set_option maxRecDepth 100000 in
set_option maxHeartbeats 800000 in
theorem l1Bent_any (p : Nat) (A : Option Addr) (n c : Nat) (l : List UInt8) (w : World) (hn : n ≤ 1099511627) (hr : Rd w 1 A n (l.map bv)) (hc : Cur w p) :
    Calls Try.prog 123 #[.pointer (some ⟨p, 0, none⟩), .slice A n c] w (DBs w p fun m => m.length ≤ l.length + 1) := by
  obtain ⟨i0, hi, hz0, hz1, hz2⟩ := info_parts infoU8
  have hp := hc.lt
  have hl := hr.lenB
  go_enter Try.func123, Try.ntmps123
  go_wp2_with (at_builtin; refine wpList_cat (w.alloc (.cells #[] 5)) rfl _ _ 58 rfl w.heap.size 5 i0 (.int .u8 0) 1 1 Try.underlying58 hi hz0 hz1 hz2 rfl (by decide) _ _ _ [] rfl (own_new (Nat.le_refl _)) A n c (l.map bv) rfl (hr.alloc _) (ones_bv l) ?c1 ?c2 ?c3 ?_)
  case c1 => unfold maxLen; omega
  case c2 => omega
  case c3 => simp
  intro A1 n1 c1 w1 hn1 o1 b1 _
  obtain rfl : n1 = n := by omega
  have O1 : w1.ownsRow w.heap.size 5 1 (.slice A1 n1 c1) n1 (l.map bv) := by simpa using o1
  have b01 : Below w.heap.size w w1 := Below.trans (al' _) b1
  have cc1 := hc.belowB b01 hp
  have g01 := only_of_below b01 (some p)
  clear hn1 o1 b1
  go_wp2_with fail
  refine (l1Below_any p 6 _ (by omega) (by omega) cc1).mono ?_
  rintro e w2 ⟨x, rfl, hx, c2, g2⟩
  have O2 := Lib.hid (own_only O1 g2 hp)
  have g02 := only_trans g01 g2
  have cap2 := own_cap O1
  clear O1 b01 cc1 g01 g2
  rcases (by omega : x = 0 ∨ x = 1 ∨ x = 2 ∨ 2 < x) with rfl | rfl | rfl | hx3
  · by_cases h0 : n1 = 0
    · subst h0
      go_wp2
      go_ret
      exact ⟨_, _, _, l, rfl, O2.out, by omega, c2, g02⟩
    · have hn0 : 0 < n1 := by omega
      go_wp2_with fail
      refine (l1Below_any p n1 _ (by omega) (by omega) c2).mono ?_
      rintro e w3 ⟨y, rfl, hy, c3, g3⟩
      obtain ⟨i, rfl⟩ : ∃ i : Nat, y = (i : Int) := ⟨y.toNat, by omega⟩
      have hin : i < n1 := by omega
      go_wp2_with fail
      refine (l1Below_any p 256 _ (by omega) (by omega) c3).mono ?_
      rintro e w4 ⟨z, rfl, hz, c4, g4⟩
      have O4 := own_only (own_only O2.out g3 hp) g4 hp
      have g04 := only_trans g02 (only_trans g3 g4)
      obtain ⟨g, cap, hgv, hgb, hglt⟩ := O4.form hn0
      obtain ⟨rfl, rfl⟩ : A1 = some ⟨g, 0, none⟩ ∧ c1 = cap := by
        injection hgv with e1 e2 e3
        exact ⟨e1, e3⟩
      obtain ⟨b, o, v, hbo, _, hv, hcv0⟩ := (Rd.of_own O4).byte hin
      have hcv : w4.cell? ⟨g, i, none⟩ = some (.int .u8 (v.toNat : Int)) := by
        injection hbo with hbo
        injection hbo with e1 e2
        rw [← e1, ← e2, Nat.zero_add] at hcv0
        exact hcv0
      have hfz := O4.frozenAt i
      have hst := O4.stored i (bv (UInt8.ofNat z.toNat))
      have e1 : bv (UInt8.ofNat z.toNat) = .int .u8 z := by
        unfold bv
        rw [UInt8.toNat_ofNat']
        congr 1
        omega
      have O5 : Hid ((w4.setCell ⟨g, i, none⟩ (.int .u8 z)).ownsRow w.heap.size 5 1 (.slice (some ⟨g, 0, none⟩) n1 c1) n1 ((l.set i (UInt8.ofNat z.toNat)).map bv)) := by
        show World.ownsRow _ _ _ _ _ _ _
        rw [List.map_set, ← e1]
        exact hst.1
      have c5 : Hid (Cur (w4.setCell ⟨g, i, none⟩ (.int .u8 z)) p) := cur_set c4 (by omega)
      have g05 : Hid (w.grownBy (w4.setCell ⟨g, i, none⟩ (.int .u8 z)) (some p)) := gro_set g04 hgb
      clear hbo hv hcv0 hst e1 O4 g04 hgv c4 c3 g3 g4 c2 g02
      go_wp2
      go_ret
      exact ⟨_, _, _, l.set i (UInt8.ofNat z.toNat), rfl, O5.out, by simp, c5.out, g05.out⟩
  · go_wp2_with fail
    refine (l1Below_any p (n1 + 1) _ (by omega) (by omega) c2).mono ?_
    rintro e w3 ⟨y, rfl, hy, c3, g3⟩
    obtain ⟨q, rfl⟩ : ∃ q : Nat, y = (q : Int) := ⟨y.toNat, by omega⟩
    have hq : q ≤ n1 := by omega
    have hqc : q ≤ c1 := by omega
    have O3 := Lib.hid (own_only O2.out g3 hp)
    have g03 := Lib.hid (only_trans g02 g3)
    have hcm : c1 ≤ 9223372036854775807 := cap2.2
    clear g3 g02 c2
    by_cases h0 : n1 = 0
    · subst h0
      obtain rfl : q = 0 := by omega
      go_wp2
      go_ret
      exact ⟨_, _, _, l, rfl, O3.out, by omega, c3, g03.out⟩
    · go_wp2
      go_ret
      exact ⟨_, _, _, l.take q, rfl, by rw [List.map_take]; exact own_cut O3.out hq (by omega), by simp; omega, c3, g03.out⟩
  · have hp2 := c2.lt
    go_wp2_with fail
    refine (l1Int_any p _ 4 4 [0, 1, 128, 255] _ (by decide) (by decide) (rd_lit w2 _ _) (lit_ne hp2) (c2.below (al' _))).mono ?_
    rintro e w3 ⟨y, rfl, hy, c3, g3⟩
    have hy2 := (by decide : ∀ x ∈ [0, 1, 128, (255 : Int)], 0 ≤ x ∧ x ≤ 255) y hy
    have g23 := only_trans (only_alloc (World.grownBy.refl w2 (some p)) _) g3
    have O3 := own_only O2.out g23 hp
    have g03 := only_trans g02 g23
    have hbs := g03.size
    have HC := Lib.hid c3
    have HG := Lib.hid g03
    clear hy g3 g23 g03 c3 c2 g02
    go_wp2_with (at_builtin; refine wpList_push w3 rfl _ _ 58 rfl w.heap.size 5 i0 (.int .u8 0) 1 Try.underlying58 hi hz0 hz1 hz2 rfl A1 n1 c1 _ (by rfl) O3 _ (by rfl) (by rfl) ?d1 ?d2 ?d3 ?_)
    case d1 => unfold maxLen; omega
    case d2 => omega
    case d3 => exact hbs
    intro A' k' c' w4 hk2 o4 b4
    have HO : Hid (w4.ownsRow w.heap.size 5 1 (.slice A' k' c') k' ((l ++ [UInt8.ofNat y.toNat]).map bv)) := by
      have e : Value.int .u8 y = bv (UInt8.ofNat y.toNat) := by
        unfold bv
        rw [UInt8.toNat_ofNat']
        congr 1
        omega
      rw [List.map_append]
      show w4.ownsRow _ _ _ _ _ (l.map bv ++ [bv _])
      rw [← e]
      first | exact o4 | (simpa using o4)
    have HC2 := Lib.hid (HC.out.belowB b4 hp)
    have HG2 := Lib.hid (only_below HG.out b4)
    clear hk2 o4 b4 O3
    go_wp2
    go_ret
    exact ⟨_, _, _, l ++ [UInt8.ofNat y.toNat], rfl, HO.out, by simp, HC2.out, HG2.out⟩
  · have e0 : (x == 0) = false := by simp; omega
    have e1 : (x == 1) = false := by simp; omega
    have e2 : (x == 2) = false := by simp; omega
    go_wp2
    go_ret
    exact ⟨_, _, _, l, rfl, O2.out, by omega, c2, g02⟩

/-- A draw of bytes from the code. -/
def DrB (w : World) (P : List UInt8 → Prop) (e : Ending) (w' : World) : Prop := ∃ A n c l, e = .returned (.slice A n c) ∧ w'.ownsRow w.heap.size 5 1 (.slice A n c) n (l.map bv) ∧ P l ∧ Below w.heap.size w w'
theorem bsetg {a w : World} {B g o : Nat} {v : Value} (h : Below B a w) (hg : B ≤ g) : Below B a (w.setCell ⟨g, o, none⟩ v) := h.setCell (p := ⟨g, o, none⟩) hg v
theorem cur_drew {w : World} {p : Nat} (h : Cur w p) : Cur w.drew p := h
theorem grules {w w' : World} {p : Nat} (hg : w.grownBy w' (some p)) : (∀ b o, b < w.heap.size → ¬ b = p → w'.cell? ⟨b, o, none⟩ = w.cell? ⟨b, o, none⟩) ∧ (∀ b o, b < w.heap.size → ¬ b = p → w'.frozen? ⟨b, o, none⟩ = w.frozen? ⟨b, o, none⟩) :=
  ⟨fun b o hb hne => World.cell?_of_block (a := ⟨b, o, none⟩) (hg.block b hb (fun e => hne (by injection e))), fun b o hb hne => World.frozen?_of_block (a := ⟨b, o, none⟩) (hg.block b hb (fun e => hne (by injection e)))⟩
/-- A draw of a key and a range from the code. -/
def DrKR (w : World) (e : Ending) (w' : World) : Prop :=
  ∃ k0 n0 s0 a b k n s k2 n2 s2, e = .returned (.tuple #[.agg #[.int .i64 k0, .int .i64 n0, .string s0], .agg #[.bool a, .bool b, .int .i64 k, .int .i64 n, .string s, .int .i64 k2, .int .i64 n2, .string s2]]) ∧ (anyK k0 n0 s0 ∧ anyK k n s ∧ anyK k2 n2 s2) ∧ Below w.heap.size w w'
end Go.Proofs.Ytbbngihmjdndoaa
