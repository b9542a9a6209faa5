/-
  Proved: the contracts of the reference's draws of ranges, of bent bytes, and of the arguments of InRangeOf and DecodeKey. Only what is needed of what is drawn is said. Conditions: the code reads as a list of at most 2^40 bytes.
  By an AI agent; no person has read it.
-/
import Derived.Test.YtnbhdijmbpdgoaaDrawK
import Derived.Test.YtnbhdijmbpdgoaaKeyE
import Derived.Deep.RegionWith
namespace Go.Proofs.Ytnbhdijmbpdgoaa
open Go.RowKit
set_option linter.unusedSimpArgs false

theorem gcell {w w' : World} {b o p : Nat} {v : Value} (hg : w.grownBy w' (some p)) (h : w.cell? ⟨b, o, none⟩ = some v) (hne : b ≠ p) : w'.cell? ⟨b, o, none⟩ = some v := hg.cell h (fun e => hne (by injection e))
theorem gfroz {w w' : World} {b o p : Nat} (hg : w.grownBy w' (some p)) (hlt : b < w.heap.size) (h : w.frozen? ⟨b, o, none⟩ = false) (hne : b ≠ p) : w'.frozen? ⟨b, o, none⟩ = false :=
  (World.frozen?_of_block (a := ⟨b, o, none⟩) (hg.block b hlt (fun e => hne (by injection e)))).trans h
/-- A draw of a range of keys. -/
def DR (w : World) (p : Nat) (e : Ending) (w' : World) : Prop :=
  ∃ a b k n s k2 n2 s2, e = .returned (.agg #[.bool a, .bool b, .int .i64 k, .int .i64 n, .string s, .int .i64 k2, .int .i64 n2, .string s2]) ∧ (anyK k n s ∧ anyK k2 n2 s2) ∧ Cur w' p ∧ w.grownBy w' (some p)
theorem res8 {w w1 : World} {p : Nat} {x0 x1 x2 x3 x4 x5 x6 x7 : Value} (hc : Cur w1 p) (hg : w.grownBy w1 (some p)) (hp : p < w.heap.size) :
    Cur ((((((((w1.setCell ⟨w.heap.size, 0, none⟩ (x0)).setCell ⟨w.heap.size, 1, none⟩ (x1)).setCell ⟨w.heap.size, 2, none⟩ (x2)).setCell ⟨w.heap.size, 3, none⟩ (x3)).setCell ⟨w.heap.size, 4, none⟩ (x4)).setCell ⟨w.heap.size, 5, none⟩ (x5)).setCell ⟨w.heap.size, 6, none⟩ (x6)).setCell ⟨w.heap.size, 7, none⟩ (x7)) p ∧ w.grownBy ((((((((w1.setCell ⟨w.heap.size, 0, none⟩ (x0)).setCell ⟨w.heap.size, 1, none⟩ (x1)).setCell ⟨w.heap.size, 2, none⟩ (x2)).setCell ⟨w.heap.size, 3, none⟩ (x3)).setCell ⟨w.heap.size, 4, none⟩ (x4)).setCell ⟨w.heap.size, 5, none⟩ (x5)).setCell ⟨w.heap.size, 6, none⟩ (x6)).setCell ⟨w.heap.size, 7, none⟩ (x7)) (some p) :=
  ⟨cur_set (cur_set (cur_set (cur_set (cur_set (cur_set (cur_set (cur_set (hc) hp) hp) hp) hp) hp) hp) hp) hp, gro_set (gro_set (gro_set (gro_set (gro_set (gro_set (gro_set (gro_set (hg) (Nat.le_refl _)) (Nat.le_refl _)) (Nat.le_refl _)) (Nat.le_refl _)) (Nat.le_refl _)) (Nat.le_refl _)) (Nat.le_refl _)) (Nat.le_refl _)⟩
theorem anyK_zero : anyK 0 0 ⟨#[]⟩ := ⟨by omega, by omega, Nat.zero_le _⟩

set_option maxRecDepth 100000 in
set_option maxHeartbeats 800000 in
theorem l4Range_any (p : Nat) (w : World) (hc : Cur w p) : Calls Try.prog 44 #[.pointer (some ⟨p, 0, none⟩)] w (DR w p) := by
  have hp := hc.lt
  go_enter Try.func44, Try.ntmps44
  go_wp2_with fail
  refine (l1Once_any p 2 _ (by omega) (by omega) (hc.below (al' _))).mono ?_
  rintro e w1 ⟨a, rfl, c1, g1⟩
  go_wp2_with fail
  refine (l1Once_any p 2 _ (by omega) (by omega) c1).mono ?_
  rintro e w2 ⟨b, rfl, c2, g2⟩
  go_wp2_with fail
  refine (l4Small_any p _ c2).mono ?_
  rintro e w3 ⟨k, n, s, rfl, hk, c3, g3⟩
  go_wp2_with fail
  refine (l4Small_any p _ c3).mono ?_
  rintro e w4 ⟨k2, n2, s2, rfl, hk2, c4, g4⟩
  have hv1 := anyK_of hk
  have hv2 := anyK_of hk2
  have gr := only_trans g1 (only_trans g2 (only_trans g3 g4))
  have hp4 := c4.lt
  have hs4 : w.heap.size < w4.heap.size := by have := gr.size; simp at this; omega
  clear hk hk2 g1 g2 g3 g4 c1 c2 c3
  have c5 := c4.below (al' (.cells #[.bool a, .bool b, .int .i64 k, .int .i64 n, .string s, .int .i64 k2, .int .i64 n2, .string s2] 40))
  have ga := only_alloc gr (.cells #[.bool a, .bool b, .int .i64 k, .int .i64 n, .string s, .int .i64 k2, .int .i64 n2, .string s2] 40)
  go_wp2_with fail
  refine (l1Once_any p 12 _ (by omega) (by omega) c5).mono ?_
  rintro e w5 ⟨x, rfl, c6, g5⟩
  have gz := only_trans ga g5
  have hz5 : w4.heap.size < w5.heap.size := by have := g5.size; simp at this; omega
  have d0 : w5.cell? ⟨w.heap.size, 0, none⟩ = some (.bool false) := gcell gz (by simp) (by omega)
  have d1 : w5.cell? ⟨w.heap.size, 1, none⟩ = some (.bool false) := gcell gz (by simp) (by omega)
  have d2 : w5.cell? ⟨w.heap.size, 2, none⟩ = some (.int .i64 0) := gcell gz (by simp) (by omega)
  have d3 : w5.cell? ⟨w.heap.size, 3, none⟩ = some (.int .i64 0) := gcell gz (by simp) (by omega)
  have d4 : w5.cell? ⟨w.heap.size, 4, none⟩ = some (.string ⟨#[]⟩) := gcell gz (by simp) (by omega)
  have d5 : w5.cell? ⟨w.heap.size, 5, none⟩ = some (.int .i64 0) := gcell gz (by simp) (by omega)
  have d6 : w5.cell? ⟨w.heap.size, 6, none⟩ = some (.int .i64 0) := gcell gz (by simp) (by omega)
  have d7 : w5.cell? ⟨w.heap.size, 7, none⟩ = some (.string ⟨#[]⟩) := gcell gz (by simp) (by omega)
  have df0 : w5.frozen? ⟨w.heap.size, 0, none⟩ = false := gfroz gz (by simp) (by simp) (by omega)
  have df1 : w5.frozen? ⟨w.heap.size, 1, none⟩ = false := gfroz gz (by simp) (by simp) (by omega)
  have df2 : w5.frozen? ⟨w.heap.size, 2, none⟩ = false := gfroz gz (by simp) (by simp) (by omega)
  have df3 : w5.frozen? ⟨w.heap.size, 3, none⟩ = false := gfroz gz (by simp) (by simp) (by omega)
  have df4 : w5.frozen? ⟨w.heap.size, 4, none⟩ = false := gfroz gz (by simp) (by simp) (by omega)
  have df5 : w5.frozen? ⟨w.heap.size, 5, none⟩ = false := gfroz gz (by simp) (by simp) (by omega)
  have df6 : w5.frozen? ⟨w.heap.size, 6, none⟩ = false := gfroz gz (by simp) (by simp) (by omega)
  have df7 : w5.frozen? ⟨w.heap.size, 7, none⟩ = false := gfroz gz (by simp) (by simp) (by omega)
  have y0 : w5.cell? ⟨w4.heap.size, 0, none⟩ = some (.bool a) := gcell g5 (by simp) (by omega)
  have y1 : w5.cell? ⟨w4.heap.size, 1, none⟩ = some (.bool b) := gcell g5 (by simp) (by omega)
  have y2 : w5.cell? ⟨w4.heap.size, 2, none⟩ = some (.int .i64 k) := gcell g5 (by simp) (by omega)
  have y3 : w5.cell? ⟨w4.heap.size, 3, none⟩ = some (.int .i64 n) := gcell g5 (by simp) (by omega)
  have y4 : w5.cell? ⟨w4.heap.size, 4, none⟩ = some (.string s) := gcell g5 (by simp) (by omega)
  have y5 : w5.cell? ⟨w4.heap.size, 5, none⟩ = some (.int .i64 k2) := gcell g5 (by simp) (by omega)
  have y6 : w5.cell? ⟨w4.heap.size, 6, none⟩ = some (.int .i64 n2) := gcell g5 (by simp) (by omega)
  have y7 : w5.cell? ⟨w4.heap.size, 7, none⟩ = some (.string s2) := gcell g5 (by simp) (by omega)
  have yf0 : w5.frozen? ⟨w4.heap.size, 0, none⟩ = false := gfroz g5 (by simp) (by simp) (by omega)
  have yf1 : w5.frozen? ⟨w4.heap.size, 1, none⟩ = false := gfroz g5 (by simp) (by simp) (by omega)
  have yf2 : w5.frozen? ⟨w4.heap.size, 2, none⟩ = false := gfroz g5 (by simp) (by simp) (by omega)
  have yf3 : w5.frozen? ⟨w4.heap.size, 3, none⟩ = false := gfroz g5 (by simp) (by simp) (by omega)
  have yf4 : w5.frozen? ⟨w4.heap.size, 4, none⟩ = false := gfroz g5 (by simp) (by simp) (by omega)
  have yf5 : w5.frozen? ⟨w4.heap.size, 5, none⟩ = false := gfroz g5 (by simp) (by simp) (by omega)
  have yf6 : w5.frozen? ⟨w4.heap.size, 6, none⟩ = false := gfroz g5 (by simp) (by simp) (by omega)
  have yf7 : w5.frozen? ⟨w4.heap.size, 7, none⟩ = false := gfroz g5 (by simp) (by simp) (by omega)
  have gw := only_trans (only_alloc (World.grownBy.refl w (some p)) _) gz
  have hne : ¬ w4.heap.size = w.heap.size := by omega
  have hne2 : ¬ w.heap.size = w4.heap.size := by omega
  clear gr ga g5 gz
  cases x
  · go_wp2
    exact bodyPost_ret (v := .agg #[.bool a, .bool b, .int .i64 k, .int .i64 n, .string s, .int .i64 k2, .int .i64 n2, .string s2]) (by simp [results, Try.results44, go_sem, d0, d1, d2, d3, d4, d5, d6, d7, hne, hne2]) rfl ⟨_, _, _, _, _, _, _, _, rfl, ⟨hv1, hv2⟩, res8 c6 gw hp⟩
  · go_wp2
    exact bodyPost_ret (v := .agg #[.bool a, .bool b, .int .i64 0, .int .i64 0, .string ⟨#[]⟩, .int .i64 k2, .int .i64 n2, .string s2]) (by simp [results, Try.results44, go_sem, d0, d1, d2, d3, d4, d5, d6, d7, hne, hne2]) rfl ⟨_, _, _, _, _, _, _, _, rfl, ⟨anyK_zero, hv2⟩, res8 (cur_set (cur_set (cur_set c6 hp4) hp4) hp4) (gro_set (gro_set (gro_set gw (by omega)) (by omega)) (by omega)) hp⟩

/-- A row of the run's own, cut short. -/
theorem own_cut {w : World} {base : Nat} {e : TypeId} {A : Option Addr} {n c q : Nat} {xs : List Value} (h : w.ownsRow base e 1 (.slice A n c) n xs) (hq : q ≤ n) (h0 : 0 < n) : w.ownsRow base e 1 (.slice A q c) q (xs.take q) := by
  have hl : xs.length = n := by have := h.1; omega
  refine ⟨by simp; omega, ?_⟩
  rcases h.2 with ⟨_, hn⟩ | ⟨g, cap, cur, hv, hg, hh, h1, h2, h3, h4⟩
  · omega
  · injection hv with e1 e2 e3
    refine .inr ⟨g, cap, cur, by rw [e1, e3], hg, hh, by omega, h2, h3, ?_⟩
    rw [Nat.mul_one] at h4 ⊢
    rw [← h4, List.take_take, Nat.min_eq_left hq]

set_option maxRecDepth 100000 in
set_option maxHeartbeats 800000 in
theorem l1Bent_any (p : Nat) (A : Option Addr) (n c : Nat) (l : List UInt8) (w : World) (hn : n ≤ 1099511627) (hr : Rd w 1 A n (l.map bv)) (hc : Cur w p) :
    Calls Try.prog 46 #[.pointer (some ⟨p, 0, none⟩), .slice A n c] w (DBs w p fun m => m.length ≤ l.length + 1) := by
  obtain ⟨i0, hi, hz0, hz1, hz2⟩ := info_parts infoU8
  have hp := hc.lt
  have hl := hr.lenB
  go_enter Try.func46, Try.ntmps46
  go_wp2_with (at_builtin; refine wpList_cat (w.alloc (.cells #[] 5)) rfl _ _ 31 rfl w.heap.size 5 i0 (.int .u8 0) 1 1 Try.underlying31 hi hz0 hz1 hz2 rfl (by decide) _ _ _ [] rfl (own_new (Nat.le_refl _)) A n c (l.map bv) rfl (hr.alloc _) (ones_bv l) ?c1 ?c2 ?c3 ?_)
  case c1 => unfold maxLen; omega
  case c2 => omega
  case c3 => simp
  intro A1 n1 c1 w1 hn1 o1 b1 _
  obtain rfl : n1 = n := by omega
  have O1 : w1.ownsRow w.heap.size 5 1 (.slice A1 n1 c1) n1 (l.map bv) := by simpa using o1
  have b01 : Below w.heap.size w w1 := Below.trans (al' _) b1
  have cc1 := hc.belowB b01 hp
  have g01 := only_of_below b01 (some p)
  clear hn1 o1 b1
  go_wp2_with fail
  refine (l1Below_any p 6 _ (by omega) (by omega) cc1).mono ?_
  rintro e w2 ⟨x, rfl, hx, c2, g2⟩
  have O2 := Lib.hid (own_only O1 g2 hp)
  have g02 := only_trans g01 g2
  have cap2 := own_cap O1
  clear O1 b01 cc1 g01 g2
  rcases (by omega : x = 0 ∨ x = 1 ∨ x = 2 ∨ 2 < x) with rfl | rfl | rfl | hx3
  · by_cases h0 : n1 = 0
    · subst h0
      go_wp2
      go_ret
      exact ⟨_, _, _, l, rfl, O2.out, by omega, c2, g02⟩
    · have hn0 : 0 < n1 := by omega
      go_wp2_with fail
      refine (l1Below_any p n1 _ (by omega) (by omega) c2).mono ?_
      rintro e w3 ⟨y, rfl, hy, c3, g3⟩
      obtain ⟨i, rfl⟩ : ∃ i : Nat, y = (i : Int) := ⟨y.toNat, by omega⟩
      have hin : i < n1 := by omega
      go_wp2_with fail
      refine (l1Below_any p 256 _ (by omega) (by omega) c3).mono ?_
      rintro e w4 ⟨z, rfl, hz, c4, g4⟩
      have O4 := own_only (own_only O2.out g3 hp) g4 hp
      have g04 := only_trans g02 (only_trans g3 g4)
      obtain ⟨g, cap, hgv, hgb, hglt⟩ := O4.form hn0
      obtain ⟨rfl, rfl⟩ : A1 = some ⟨g, 0, none⟩ ∧ c1 = cap := by
        injection hgv with e1 e2 e3
        exact ⟨e1, e3⟩
      obtain ⟨b, o, v, hbo, _, hv, hcv0⟩ := (Rd.of_own O4).byte hin
      have hcv : w4.cell? ⟨g, i, none⟩ = some (.int .u8 (v.toNat : Int)) := by
        injection hbo with hbo
        injection hbo with e1 e2
        rw [← e1, ← e2, Nat.zero_add] at hcv0
        exact hcv0
      have hfz := O4.frozenAt i
      have hst := O4.stored i (bv (UInt8.ofNat z.toNat))
      have e1 : bv (UInt8.ofNat z.toNat) = .int .u8 z := by
        unfold bv
        rw [UInt8.toNat_ofNat']
        congr 1
        omega
      have O5 : Hid ((w4.setCell ⟨g, i, none⟩ (.int .u8 z)).ownsRow w.heap.size 5 1 (.slice (some ⟨g, 0, none⟩) n1 c1) n1 ((l.set i (UInt8.ofNat z.toNat)).map bv)) := by
        show World.ownsRow _ _ _ _ _ _ _
        rw [List.map_set, ← e1]
        exact hst.1
      have c5 : Hid (Cur (w4.setCell ⟨g, i, none⟩ (.int .u8 z)) p) := cur_set c4 (by omega)
      have g05 : Hid (w.grownBy (w4.setCell ⟨g, i, none⟩ (.int .u8 z)) (some p)) := gro_set g04 hgb
      clear hbo hv hcv0 hst e1 O4 g04 hgv c4 c3 g3 g4 c2 g02
      go_wp2
      go_ret
      exact ⟨_, _, _, l.set i (UInt8.ofNat z.toNat), rfl, O5.out, by simp, c5.out, g05.out⟩
  · go_wp2_with fail
    refine (l1Below_any p (n1 + 1) _ (by omega) (by omega) c2).mono ?_
    rintro e w3 ⟨y, rfl, hy, c3, g3⟩
    obtain ⟨q, rfl⟩ : ∃ q : Nat, y = (q : Int) := ⟨y.toNat, by omega⟩
    have hq : q ≤ n1 := by omega
    have hqc : q ≤ c1 := by omega
    have O3 := Lib.hid (own_only O2.out g3 hp)
    have g03 := Lib.hid (only_trans g02 g3)
    have hcm : c1 ≤ 9223372036854775807 := cap2.2
    clear g3 g02 c2
    by_cases h0 : n1 = 0
    · subst h0
      obtain rfl : q = 0 := by omega
      go_wp2
      go_ret
      exact ⟨_, _, _, l, rfl, O3.out, by omega, c3, g03.out⟩
    · go_wp2
      go_ret
      exact ⟨_, _, _, l.take q, rfl, by rw [List.map_take]; exact own_cut O3.out hq (by omega), by simp; omega, c3, g03.out⟩
  · have hp2 := c2.lt
    go_wp2_with fail
    refine (l1Int_any p _ 4 4 [0, 1, 128, 255] _ (by decide) (by decide) (rd_lit w2 _ _) (lit_ne hp2) (c2.below (al' _))).mono ?_
    rintro e w3 ⟨y, rfl, hy, c3, g3⟩
    have hy2 := (by decide : ∀ x ∈ [0, 1, 128, (255 : Int)], 0 ≤ x ∧ x ≤ 255) y hy
    have g23 := only_trans (only_alloc (World.grownBy.refl w2 (some p)) _) g3
    have O3 := own_only O2.out g23 hp
    have g03 := only_trans g02 g23
    have hbs := g03.size
    have HC := Lib.hid c3
    have HG := Lib.hid g03
    clear hy g3 g23 g03 c3 c2 g02
    go_wp2_with (at_builtin; refine wpList_push w3 rfl _ _ 31 rfl w.heap.size 5 i0 (.int .u8 0) 1 Try.underlying31 hi hz0 hz1 hz2 rfl A1 n1 c1 _ (by rfl) O3 _ (by rfl) (by rfl) ?d1 ?d2 ?d3 ?_)
    case d1 => unfold maxLen; omega
    case d2 => omega
    case d3 => exact hbs
    intro A' k' c' w4 hk2 o4 b4
    have HO : Hid (w4.ownsRow w.heap.size 5 1 (.slice A' k' c') k' ((l ++ [UInt8.ofNat y.toNat]).map bv)) := by
      have e : Value.int .u8 y = bv (UInt8.ofNat y.toNat) := by
        unfold bv
        rw [UInt8.toNat_ofNat']
        congr 1
        omega
      rw [List.map_append]
      show w4.ownsRow _ _ _ _ _ (l.map bv ++ [bv _])
      rw [← e]
      first | exact o4 | (simpa using o4)
    have HC2 := Lib.hid (HC.out.belowB b4 hp)
    have HG2 := Lib.hid (only_below HG.out b4)
    clear hk2 o4 b4 O3
    go_wp2
    go_ret
    exact ⟨_, _, _, l ++ [UInt8.ofNat y.toNat], rfl, HO.out, by simp, HC2.out, HG2.out⟩
  · have e0 : (x == 0) = false := by simp; omega
    have e1 : (x == 1) = false := by simp; omega
    have e2 : (x == 2) = false := by simp; omega
    go_wp2
    go_ret
    exact ⟨_, _, _, l, rfl, O2.out, by omega, c2, g02⟩

/-- A draw of bytes from the code. -/
def DrB (w : World) (P : List UInt8 → Prop) (e : Ending) (w' : World) : Prop := ∃ A n c l, e = .returned (.slice A n c) ∧ w'.ownsRow w.heap.size 5 1 (.slice A n c) n (l.map bv) ∧ P l ∧ Below w.heap.size w w'
set_option maxRecDepth 100000 in
theorem drawDecodeKey_any (A : Option Addr) (n c : Nat) (l : List UInt8) (w : World) (hn : n ≤ 1099511627776) (hr : Rd w 1 A n (l.map bv)) :
    Calls Try.prog 30 #[.slice A n c] w (DrB w fun m => m.length ≤ 20) := by
  go_enter Try.func30, Try.ntmps30
  go_wp2_with fail
  refine (l1New_any A n c l _ hn hr).mono ?_
  rintro e w1 ⟨p, rfl, c1, b1, hp⟩
  go_wp2_with fail
  refine (l4Key_any p _ c1).mono ?_
  rintro e w2 ⟨k, m, s, rfl, hk, c2, g2⟩
  have B2 := below_only b1 g2 b1.size hp
  have hk2 := anyK_of hk
  have hks : s.size ≤ maxLen := by unfold anyK at hk2; unfold maxLen; omega
  clear hk hk2
  go_wp2_with fail
  refine (specEncodeKey_any k m s _ hks).mono ?_
  rintro e w3 ⟨A3, n3, c3, rfl, o3, b3⟩
  have B3 := B2.trans (b3.mono B2.size)
  have cc3 := c2.below b3
  have hp3 := c2.lt
  have hl3 := encK_len k m s
  have q3 := own_lenB o3
  go_wp2_with fail
  refine (l1Once_any p 3 _ (by omega) (by omega) cc3).mono ?_
  rintro e w4 ⟨x, rfl, c4, g4⟩
  have B4 := below_only B3 g4 B3.size hp
  have o4 := own_only o3 g4 hp3
  clear o3 g4 b3 cc3
  cases x
  · have HO := Lib.hid (own_base o4 B2.size)
    clear o4
    go_wp2
    go_ret
    exact ⟨_, _, _, _, rfl, HO.out, by omega, B4⟩
  · go_wp2_with fail
    refine (l1Bent_any p A3 n3 c3 _ _ (by omega) (Rd.of_own o4) c4).mono ?_
    rintro e w5 ⟨A5, n5, c5, l5, rfl, o5, hl5, c5', g5⟩
    have B5 := below_only B4 g5 B4.size hp
    have HO := Lib.hid (own_base o5 B4.size)
    have hl6 : l5.length ≤ 20 := by omega
    clear o5 hl5
    go_wp2
    go_ret
    exact ⟨_, _, _, l5, rfl, HO.out, hl6, B5⟩

theorem bsetg {a w : World} {B g o : Nat} {v : Value} (h : Below B a w) (hg : B ≤ g) : Below B a (w.setCell ⟨g, o, none⟩ v) := h.setCell (p := ⟨g, o, none⟩) hg v
theorem cur_drew {w : World} {p : Nat} (h : Cur w p) : Cur w.drew p := h
theorem grules {w w' : World} {p : Nat} (hg : w.grownBy w' (some p)) : (∀ b o, b < w.heap.size → ¬ b = p → w'.cell? ⟨b, o, none⟩ = w.cell? ⟨b, o, none⟩) ∧ (∀ b o, b < w.heap.size → ¬ b = p → w'.frozen? ⟨b, o, none⟩ = w.frozen? ⟨b, o, none⟩) :=
  ⟨fun b o hb hne => World.cell?_of_block (a := ⟨b, o, none⟩) (hg.block b hb (fun e => hne (by injection e))), fun b o hb hne => World.frozen?_of_block (a := ⟨b, o, none⟩) (hg.block b hb (fun e => hne (by injection e)))⟩
/-- A draw of a key and a range from the code. -/
def DrKR (w : World) (e : Ending) (w' : World) : Prop :=
  ∃ k0 n0 s0 a b k n s k2 n2 s2, e = .returned (.tuple #[.agg #[.int .i64 k0, .int .i64 n0, .string s0], .agg #[.bool a, .bool b, .int .i64 k, .int .i64 n, .string s, .int .i64 k2, .int .i64 n2, .string s2]]) ∧ (anyK k0 n0 s0 ∧ anyK k n s ∧ anyK k2 n2 s2) ∧ Below w.heap.size w w'
set_option maxRecDepth 100000 in
set_option maxHeartbeats 800000 in
theorem drawInRangeOf_any (A : Option Addr) (n c : Nat) (l : List UInt8) (w : World) (hn : n ≤ 1099511627776) (hr : Rd w 1 A n (l.map bv)) :
    Calls Try.prog 29 #[.slice A n c] w (DrKR w) := by
  go_enter Try.func29, Try.ntmps29
  go_wp2_with fail
  refine (l1New_any A n c l _ hn ((hr.alloc _).alloc _)).mono ?_
  rintro e w1 ⟨p, rfl, c1, b1, hp0⟩
  have hp : w.heap.size + 1 < p := by simp at hp0; omega
  have B1 : Below w.heap.size w w1 := Below.trans (al (al (Below.refl _ _))) (b1.mono (by simp; omega))
  have b1' : Below (w.heap.size + 2) ((w.alloc (.cells #[.int .i64 0, .int .i64 0, .string ⟨#[]⟩] 26)).alloc (.cells #[.bool false, .bool false, .int .i64 0, .int .i64 0, .string ⟨#[]⟩, .int .i64 0, .int .i64 0, .string ⟨#[]⟩] 40)) w1 := b1.mono (by simp)
  clear hp0 b1
  go_wp2_with fail
  refine (l4Small_any p _ c1).mono ?_
  rintro e w2 ⟨k, m, s, rfl, hk, c2, g2⟩
  have hv := anyK_of hk
  have B2 := below_only b1' g2 (by have := b1'.size; simp at this; omega) (by omega)
  clear b1' hk c1
  have c2' := c2.below (al' (.cells #[.int .i64 k, .int .i64 m, .string s] 26))
  have hp2 := c2.lt
  go_wp2_with fail
  refine (l1Once_any p 5 _ (by omega) (by omega) c2').mono ?_
  rintro e w3 ⟨x, rfl, c3, g3⟩
  have hs3 : w2.heap.size < w3.heap.size := by have := g3.size; simp at this; omega
  have y0 : w3.cell? ⟨w2.heap.size, 0, none⟩ = some (.int .i64 k) := gcell g3 (by simp) (by omega)
  have y1 : w3.cell? ⟨w2.heap.size, 1, none⟩ = some (.int .i64 m) := gcell g3 (by simp) (by omega)
  have y2 : w3.cell? ⟨w2.heap.size, 2, none⟩ = some (.string s) := gcell g3 (by simp) (by omega)
  have f0 : w3.frozen? ⟨w2.heap.size, 0, none⟩ = false := gfroz g3 (by simp) (by simp) (by omega)
  have f1 : w3.frozen? ⟨w2.heap.size, 1, none⟩ = false := gfroz g3 (by simp) (by simp) (by omega)
  have f2 : w3.frozen? ⟨w2.heap.size, 2, none⟩ = false := gfroz g3 (by simp) (by simp) (by omega)
  have hs20 : w.heap.size + 2 ≤ w2.heap.size := by have := B2.size; simp at this; omega
  have B3 := below_only (B2.alloc hs20 (.cells #[.int .i64 k, .int .i64 m, .string s] 26)) g3 (by simp; omega) (by omega)
  clear B2 g3 c2 c2'
  cases x
  · have d0 : w3.cell? ⟨w.heap.size, 0, none⟩ = some (.int .i64 0) := (B3.cell (by simp)).trans (by simp)
    have d1 : w3.cell? ⟨w.heap.size, 1, none⟩ = some (.int .i64 0) := (B3.cell (by simp)).trans (by simp)
    have d2 : w3.cell? ⟨w.heap.size, 2, none⟩ = some (.string ⟨#[]⟩) := (B3.cell (by simp)).trans (by simp)
    have df0 : w3.frozen? ⟨w.heap.size, 0, none⟩ = false := (B3.frozen (by simp)).trans (by simp)
    have df1 : w3.frozen? ⟨w.heap.size, 1, none⟩ = false := (B3.frozen (by simp)).trans (by simp)
    have df2 : w3.frozen? ⟨w.heap.size, 2, none⟩ = false := (B3.frozen (by simp)).trans (by simp)
    have e0 : w3.cell? ⟨w.heap.size + 1, 0, none⟩ = some (.bool false) := (B3.cell (by simp)).trans (by simp)
    have e1 : w3.cell? ⟨w.heap.size + 1, 1, none⟩ = some (.bool false) := (B3.cell (by simp)).trans (by simp)
    have e2 : w3.cell? ⟨w.heap.size + 1, 2, none⟩ = some (.int .i64 0) := (B3.cell (by simp)).trans (by simp)
    have e3 : w3.cell? ⟨w.heap.size + 1, 3, none⟩ = some (.int .i64 0) := (B3.cell (by simp)).trans (by simp)
    have e4 : w3.cell? ⟨w.heap.size + 1, 4, none⟩ = some (.string ⟨#[]⟩) := (B3.cell (by simp)).trans (by simp)
    have e5 : w3.cell? ⟨w.heap.size + 1, 5, none⟩ = some (.int .i64 0) := (B3.cell (by simp)).trans (by simp)
    have e6 : w3.cell? ⟨w.heap.size + 1, 6, none⟩ = some (.int .i64 0) := (B3.cell (by simp)).trans (by simp)
    have e7 : w3.cell? ⟨w.heap.size + 1, 7, none⟩ = some (.string ⟨#[]⟩) := (B3.cell (by simp)).trans (by simp)
    have ef0 : w3.frozen? ⟨w.heap.size + 1, 0, none⟩ = false := (B3.frozen (by simp)).trans (by simp)
    have ef1 : w3.frozen? ⟨w.heap.size + 1, 1, none⟩ = false := (B3.frozen (by simp)).trans (by simp)
    have ef2 : w3.frozen? ⟨w.heap.size + 1, 2, none⟩ = false := (B3.frozen (by simp)).trans (by simp)
    have ef3 : w3.frozen? ⟨w.heap.size + 1, 3, none⟩ = false := (B3.frozen (by simp)).trans (by simp)
    have ef4 : w3.frozen? ⟨w.heap.size + 1, 4, none⟩ = false := (B3.frozen (by simp)).trans (by simp)
    have ef5 : w3.frozen? ⟨w.heap.size + 1, 5, none⟩ = false := (B3.frozen (by simp)).trans (by simp)
    have ef6 : w3.frozen? ⟨w.heap.size + 1, 6, none⟩ = false := (B3.frozen (by simp)).trans (by simp)
    have ef7 : w3.frozen? ⟨w.heap.size + 1, 7, none⟩ = false := (B3.frozen (by simp)).trans (by simp)
    have BW : Below w.heap.size w w3 := Below.trans (al (al (Below.refl _ _))) (B3.mono (by omega))
    have hw0 : w.heap.size < w3.heap.size := by omega
    have hw1 : w.heap.size + 1 < w3.heap.size := by omega
    have n0 : ¬ w.heap.size = p := by omega
    have n1 : ¬ w.heap.size + 1 = p := by omega
    have n2 : ¬ w2.heap.size = p := by omega
    go_wp2
    go_region_with (go_at_call 44; refine (l4Range_any p _ ?_).mono ?_; exact cur_drew c3; rintro e W1 ⟨a, b, k1, q1, s1, k2, q2, s2, rfl, hv1, c6, g6⟩; replace d0 := gcell g6 d0 n0; replace df0 := gfroz g6 hw0 df0 n0; replace d1 := gcell g6 d1 n0; replace df1 := gfroz g6 hw0 df1 n0; replace d2 := gcell g6 d2 n0; replace df2 := gfroz g6 hw0 df2 n0; replace e0 := gcell g6 e0 n1; replace ef0 := gfroz g6 hw1 ef0 n1; replace e1 := gcell g6 e1 n1; replace ef1 := gfroz g6 hw1 ef1 n1; replace e2 := gcell g6 e2 n1; replace ef2 := gfroz g6 hw1 ef2 n1; replace e3 := gcell g6 e3 n1; replace ef3 := gfroz g6 hw1 ef3 n1; replace e4 := gcell g6 e4 n1; replace ef4 := gfroz g6 hw1 ef4 n1; replace e5 := gcell g6 e5 n1; replace ef5 := gfroz g6 hw1 ef5 n1; replace e6 := gcell g6 e6 n1; replace ef6 := gfroz g6 hw1 ef6 n1; replace e7 := gcell g6 e7 n1; replace ef7 := gfroz g6 hw1 ef7 n1; replace y0 := gcell g6 y0 n2; replace y1 := gcell g6 y1 n2; replace y2 := gcell g6 y2 n2)
    all_goals
      go_wp2
      refine bodyPost_ret (v := .tuple #[.agg #[.int .i64 k, .int .i64 m, .string s], .agg #[.bool a, .bool b, .int .i64 k1, .int .i64 q1, .string s1, .int .i64 k2, .int .i64 q2, .string s2]]) (by simp [results, Try.results29, go_sem, *]) rfl ⟨_, _, _, _, _, _, _, _, _, _, _, rfl, ⟨hv, hv1.1, hv1.2⟩, ?_⟩
      repeat refine bsetg ?_ (by omega)
      exact below_only BW.drew g6 (by show w.heap.size ≤ w3.heap.size; omega) (by omega)
  · go_wp2_with fail
    refine (l4Any_any p _ c3).mono ?_
    rintro e w4 ⟨k', m', s', rfl, hv', c4, g4⟩
    have hs4 : w2.heap.size < w4.heap.size := Nat.lt_of_lt_of_le hs3 g4.size
    replace y0 := gcell g4 y0 (by omega)
    replace y1 := gcell g4 y1 (by omega)
    replace y2 := gcell g4 y2 (by omega)
    replace f0 := gfroz g4 hs3 f0 (by omega)
    replace f1 := gfroz g4 hs3 f1 (by omega)
    replace f2 := gfroz g4 hs3 f2 (by omega)
    have B4 := below_only B3 g4 (by omega) (by omega)
    clear B3 g4 c3 hv
    go_wp2
    have hB5 := bsetg (o := 2) (v := .string s') (bsetg (o := 1) (v := .int .i64 m') (bsetg (o := 0) (v := .int .i64 k') B4 hs20) hs20) hs20
    have hc5 := cur_set (o := 2) (v := .string s') (cur_set (o := 1) (v := .int .i64 m') (cur_set (o := 0) (v := .int .i64 k') c4 hp2) hp2) hp2
    have hy0 : (((w4.setCell ⟨w2.heap.size, 0, none⟩ (.int .i64 k')).setCell ⟨w2.heap.size, 1, none⟩ (.int .i64 m')).setCell ⟨w2.heap.size, 2, none⟩ (.string s')).cell? ⟨w2.heap.size, 0, none⟩ = some (.int .i64 k') := by go_simp
    have hy1 : (((w4.setCell ⟨w2.heap.size, 0, none⟩ (.int .i64 k')).setCell ⟨w2.heap.size, 1, none⟩ (.int .i64 m')).setCell ⟨w2.heap.size, 2, none⟩ (.string s')).cell? ⟨w2.heap.size, 1, none⟩ = some (.int .i64 m') := by go_simp
    have hy2 : (((w4.setCell ⟨w2.heap.size, 0, none⟩ (.int .i64 k')).setCell ⟨w2.heap.size, 1, none⟩ (.int .i64 m')).setCell ⟨w2.heap.size, 2, none⟩ (.string s')).cell? ⟨w2.heap.size, 2, none⟩ = some (.string s') := by go_simp
    have hs5 : w2.heap.size < (((w4.setCell ⟨w2.heap.size, 0, none⟩ (.int .i64 k')).setCell ⟨w2.heap.size, 1, none⟩ (.int .i64 m')).setCell ⟨w2.heap.size, 2, none⟩ (.string s')).heap.size := by simp; omega
    clear y0 y1 y2 f0 f1 f2 B4 c4 hs4 hs3
    generalize ((w4.setCell ⟨w2.heap.size, 0, none⟩ (.int .i64 k')).setCell ⟨w2.heap.size, 1, none⟩ (.int .i64 m')).setCell ⟨w2.heap.size, 2, none⟩ (.string s') = W at hB5 hc5 hy0 hy1 hy2 hs5 ⊢
    have d0 : W.cell? ⟨w.heap.size, 0, none⟩ = some (.int .i64 0) := (hB5.cell (by simp)).trans (by simp)
    have d1 : W.cell? ⟨w.heap.size, 1, none⟩ = some (.int .i64 0) := (hB5.cell (by simp)).trans (by simp)
    have d2 : W.cell? ⟨w.heap.size, 2, none⟩ = some (.string ⟨#[]⟩) := (hB5.cell (by simp)).trans (by simp)
    have df0 : W.frozen? ⟨w.heap.size, 0, none⟩ = false := (hB5.frozen (by simp)).trans (by simp)
    have df1 : W.frozen? ⟨w.heap.size, 1, none⟩ = false := (hB5.frozen (by simp)).trans (by simp)
    have df2 : W.frozen? ⟨w.heap.size, 2, none⟩ = false := (hB5.frozen (by simp)).trans (by simp)
    have e0 : W.cell? ⟨w.heap.size + 1, 0, none⟩ = some (.bool false) := (hB5.cell (by simp)).trans (by simp)
    have e1 : W.cell? ⟨w.heap.size + 1, 1, none⟩ = some (.bool false) := (hB5.cell (by simp)).trans (by simp)
    have e2 : W.cell? ⟨w.heap.size + 1, 2, none⟩ = some (.int .i64 0) := (hB5.cell (by simp)).trans (by simp)
    have e3 : W.cell? ⟨w.heap.size + 1, 3, none⟩ = some (.int .i64 0) := (hB5.cell (by simp)).trans (by simp)
    have e4 : W.cell? ⟨w.heap.size + 1, 4, none⟩ = some (.string ⟨#[]⟩) := (hB5.cell (by simp)).trans (by simp)
    have e5 : W.cell? ⟨w.heap.size + 1, 5, none⟩ = some (.int .i64 0) := (hB5.cell (by simp)).trans (by simp)
    have e6 : W.cell? ⟨w.heap.size + 1, 6, none⟩ = some (.int .i64 0) := (hB5.cell (by simp)).trans (by simp)
    have e7 : W.cell? ⟨w.heap.size + 1, 7, none⟩ = some (.string ⟨#[]⟩) := (hB5.cell (by simp)).trans (by simp)
    have ef0 : W.frozen? ⟨w.heap.size + 1, 0, none⟩ = false := (hB5.frozen (by simp)).trans (by simp)
    have ef1 : W.frozen? ⟨w.heap.size + 1, 1, none⟩ = false := (hB5.frozen (by simp)).trans (by simp)
    have ef2 : W.frozen? ⟨w.heap.size + 1, 2, none⟩ = false := (hB5.frozen (by simp)).trans (by simp)
    have ef3 : W.frozen? ⟨w.heap.size + 1, 3, none⟩ = false := (hB5.frozen (by simp)).trans (by simp)
    have ef4 : W.frozen? ⟨w.heap.size + 1, 4, none⟩ = false := (hB5.frozen (by simp)).trans (by simp)
    have ef5 : W.frozen? ⟨w.heap.size + 1, 5, none⟩ = false := (hB5.frozen (by simp)).trans (by simp)
    have ef6 : W.frozen? ⟨w.heap.size + 1, 6, none⟩ = false := (hB5.frozen (by simp)).trans (by simp)
    have ef7 : W.frozen? ⟨w.heap.size + 1, 7, none⟩ = false := (hB5.frozen (by simp)).trans (by simp)
    have BW : Below w.heap.size w W := Below.trans (al (al (Below.refl _ _))) (hB5.mono (by omega))
    have hw0 : w.heap.size < W.heap.size := by omega
    have hw1 : w.heap.size + 1 < W.heap.size := by omega
    have n0 : ¬ w.heap.size = p := by omega
    have n1 : ¬ w.heap.size + 1 = p := by omega
    have n2 : ¬ w2.heap.size = p := by omega
    go_wp2
    go_region_with (go_at_call 44; refine (l4Range_any p _ ?_).mono ?_; exact cur_drew hc5; rintro e W1 ⟨a, b, k1, q1, s1, k2, q2, s2, rfl, hv1, c6, g6⟩; replace d0 := gcell g6 d0 n0; replace df0 := gfroz g6 hw0 df0 n0; replace d1 := gcell g6 d1 n0; replace df1 := gfroz g6 hw0 df1 n0; replace d2 := gcell g6 d2 n0; replace df2 := gfroz g6 hw0 df2 n0; replace e0 := gcell g6 e0 n1; replace ef0 := gfroz g6 hw1 ef0 n1; replace e1 := gcell g6 e1 n1; replace ef1 := gfroz g6 hw1 ef1 n1; replace e2 := gcell g6 e2 n1; replace ef2 := gfroz g6 hw1 ef2 n1; replace e3 := gcell g6 e3 n1; replace ef3 := gfroz g6 hw1 ef3 n1; replace e4 := gcell g6 e4 n1; replace ef4 := gfroz g6 hw1 ef4 n1; replace e5 := gcell g6 e5 n1; replace ef5 := gfroz g6 hw1 ef5 n1; replace e6 := gcell g6 e6 n1; replace ef6 := gfroz g6 hw1 ef6 n1; replace e7 := gcell g6 e7 n1; replace ef7 := gfroz g6 hw1 ef7 n1; replace hy0 := gcell g6 hy0 n2; replace hy1 := gcell g6 hy1 n2; replace hy2 := gcell g6 hy2 n2)
    all_goals
      go_wp2
      refine bodyPost_ret (v := .tuple #[.agg #[.int .i64 k', .int .i64 m', .string s'], .agg #[.bool a, .bool b, .int .i64 k1, .int .i64 q1, .string s1, .int .i64 k2, .int .i64 q2, .string s2]]) (by simp [results, Try.results29, go_sem, *]) rfl ⟨_, _, _, _, _, _, _, _, _, _, _, rfl, ⟨hv', hv1.1, hv1.2⟩, ?_⟩
      repeat refine bsetg ?_ (by omega)
      exact below_only BW.drew g6 (by show w.heap.size ≤ W.heap.size; omega) (by omega)
end Go.Proofs.Ytnbhdijmbpdgoaa
