/-
  Proved: the contracts of the reference's further draws: bytes, numbers, words, one of a list of strings. Only the range of what is drawn is said. Conditions: the pointer's block is a cursor over bytes of an older block.
  By an AI agent; no person has read it.
-/
import Derived.Test.YtiliahafaldfcaaDraw
namespace Go.Proofs.Ytiliahafaldfcaa
open Go.RowKit

theorem Cur.blocks {w w' : World} {p : Nat} (h : Cur w p) (hs : w.heap.size ≤ w'.heap.size) (hb : ∀ i, i ≤ p → w'.heap[i]? = w.heap[i]?) : Cur w' p := by
  obtain ⟨A, n, c, l, i, x, ⟨h1, h2, h3, h4⟩, hr1, hA, a, b, d, e, f, g⟩ := h
  have hc : ∀ o, w'.cell? ⟨p, o, none⟩ = w.cell? ⟨p, o, none⟩ := fun o => World.cell?_of_block (hb p (Nat.le_refl _))
  have hf : ∀ o, w'.frozen? ⟨p, o, none⟩ = w.frozen? ⟨p, o, none⟩ := fun o => World.frozen?_of_block (hb p (Nat.le_refl _))
  refine ⟨A, n, c, l, i, x, ⟨Nat.lt_of_lt_of_le h1 hs, h2, h3, h4⟩, ⟨hr1.1, fun h0 => ?_⟩, hA, by rw [hc]; exact a, by rw [hc]; exact b, by rw [hc]; exact d, by rw [hf]; exact e, by rw [hf]; exact f, by rw [hf]; exact g⟩
  obtain ⟨b2, o2, e2, hlt, hcl⟩ := hr1.2 h0
  have hb2 := hA _ e2 h0
  exact ⟨b2, o2, e2, Nat.lt_of_lt_of_le hlt hs, fun j u hu => (World.cell?_of_block (hb b2 (Nat.le_of_lt hb2))).trans (hcl j u hu)⟩
theorem Cur.belowB {w w' : World} {p B : Nat} (h : Cur w p) (hb : Below B w w') (hp : p < B) : Cur w' p := h.blocks hb.size (fun i hi => hb.block i (by omega))
theorem only_below {w wr w2 : World} {row : Option Nat} (h : w.grownBy wr row) (hb : Below w.heap.size wr w2) : w.grownBy w2 row :=
  ⟨hb.os.trans h.os, hb.tape.trans h.tape, hb.output.trans h.output, Nat.le_trans h.size hb.size, fun i hi hne => (hb.block i hi).trans (h.block i hi hne)⟩
theorem rd_lit (w : World) (xs : List Value) (t : TypeId) : Rd (w.alloc (.cells xs.toArray t)) 1 (some ⟨w.heap.size, 0, none⟩) xs.length xs :=
  ⟨by omega, fun _ => ⟨_, _, rfl, by simp, fun j u hu => by
    have hh : (w.alloc (.cells xs.toArray t)).heap[w.heap.size]? = some (.cells xs.toArray t (0, 0)) := heap_alloc_new w _
    rw [Nat.zero_add, cell_of_row _ _ j _ t (0, 0) hh]
    simpa using hu⟩⟩
theorem lit_ne {w : World} {p : Nat} (h : p < w.heap.size) : ∀ ad, some (⟨w.heap.size, 0, none⟩ : Addr) = some ad → ad.block ≠ p := by
  intro ad e
  injection e with e
  rw [← e]
  show w.heap.size ≠ p
  omega
theorem al' {w : World} (o : Obj) : Below w.heap.size w (w.alloc o) := (Below.refl _ _).alloc (Nat.le_refl _) o
def i64R (x : Int) : Prop := -9223372036854775808 ≤ x ∧ x ≤ 9223372036854775807
/-- A draw of bytes. -/
def DBs (w : World) (p : Nat) (P : List UInt8 → Prop) (e : Ending) (w' : World) : Prop :=
  ∃ A n c l, e = .returned (.slice A n c) ∧ w'.ownsRow w.heap.size 5 1 (.slice A n c) n (l.map bv) ∧ P l ∧ Cur w' p ∧ w.grownBy w' (some p)
/-- A draw of ints. -/
def DIs (w : World) (p : Nat) (P : List Int → Prop) (e : Ending) (w' : World) : Prop :=
  ∃ A n c l, e = .returned (.slice A n c) ∧ w'.ownsRow w.heap.size 3 1 (.slice A n c) n (l.map iv) ∧ P l ∧ Cur w' p ∧ w.grownBy w' (some p)

/-- What the laws' function 'at' gives: a byte of the code, or a number in its place. -/
def atF (l : List UInt8) (i : Nat) : Int := match l[i]? with
  | some x => (x.toNat : Int)
  | none => ((i : Int) * 31 + (l.length : Int) * 7) % 256
theorem atF_rng (l : List UInt8) (i : Nat) : 0 ≤ atF l i ∧ atF l i ≤ 255 := by
  unfold atF
  split
  · rename_i x _
    have := byte_lt x
    omega
  · omega
theorem l1Str_any (p : Nat) (A : Option Addr) (n c : Nat) (l : List ByteArray) (w : World) (h1 : 1 ≤ n) (h2 : n ≤ 1099511627776) (hr : Rd w 1 A n (l.map Value.string)) (hne : ∀ ad, A = some ad → ad.block ≠ p) (hc : Cur w p) :
    Calls Try.prog 39 #[.pointer (some ⟨p, 0, none⟩), .slice A n c] w (DS w p fun x => x ∈ l) := by
  go_enter Try.func39, Try.ntmps39
  go_wp2_with fail
  refine (l1Below_any p n _ (by omega) (by omega) hc).mono ?_
  rintro e w1 ⟨x, rfl, hx, c1, g1⟩
  obtain ⟨k, rfl⟩ : ∃ k : Nat, x = (k : Int) := ⟨x.toNat, by omega⟩
  have hk : k < n := by omega
  obtain ⟨b, o, u, rfl, _, hu, hcy⟩ := (hr.grown g1 (fun ad e e2 => hne ad e (by injection e2 with e2; exact e2.symm))).at1 hk
  rw [List.getElem?_map, Option.map_eq_some_iff] at hu
  obtain ⟨y, hy, rfl⟩ := hu
  have hm := List.mem_of_getElem? hy
  clear hy
  go_wp2
  go_ret
  exact ⟨_, rfl, hm, c1, g1⟩

set_option maxRecDepth 100000 in
theorem l1Bytes_any (p n : Nat) (w : World) (hn : n ≤ 1099511627776) (hc : Cur w p) : Calls Try.prog 33 #[.pointer (some ⟨p, 0, none⟩), .int .i64 (n : Int)] w (DBs w p fun l => l.length = n) := by
  obtain ⟨i0, hi, hz0, hz1, hz2⟩ := info_parts infoU8
  have hp := hc.lt
  go_enter Try.func33, Try.ntmps33
  go_wp2
  go_loopw [5, 6] (fun v i wr => ∃ (k : Nat) (B : Option Addr) (m d : Nat) (l : List UInt8), k ≤ n ∧ i = .int .i64 k ∧ v = .slice B m d ∧ m = k ∧ wr.ownsRow w.heap.size 5 1 (.slice B m d) m (l.map bv) ∧ Cur wr p ∧ w.grownBy wr (some p)) (fun _ i _ => n - (intOf i).toNat)
  case atStart => exact ⟨0, _, _, _, [], Nat.zero_le _, rfl, rfl, rfl, own_new (Nat.le_refl _), hc.below (al' _), only_alloc (World.grownBy.refl _ _) _⟩
  case round =>
    obtain ⟨k, B, m, d, l, hk, rfl, rfl, rfl, ho, hcr, hg⟩ := hrel
    by_cases hlt : m < n
    · go_wp2_with fail
      refine (l1Byte_any p _ hcr).mono ?_
      rintro e w1 ⟨x, rfl, hx, c1, g1⟩
      replace ho := own_only ho g1 hp
      have hg1 := only_trans hg g1
      have hbs := hg1.size
      have HC := Lib.hid c1
      have HG := Lib.hid hg1
      clear c1 g1 hg1 hcr hg
      go_wp2_with (at_builtin; refine wpList_push w1 rfl _ _ 22 rfl w.heap.size 5 i0 (.int .u8 0) 1 Try.underlying22 hi hz0 hz1 hz2 rfl B m d _ (by rfl) ho _ (by rfl) (by rfl) ?c1 ?c2 ?c3 ?_)
      case c1 => unfold maxLen; omega
      case c2 => omega
      case c3 => exact hbs
      intro A' k' c' w2 hk2 ho2 hb2
      have HO : Hid (w2.ownsRow w.heap.size 5 1 (.slice A' k' c') k' ((l ++ [UInt8.ofNat x.toNat]).map bv)) := by
        have e : Value.int .u8 x = bv (UInt8.ofNat x.toNat) := by
          unfold bv
          rw [UInt8.toNat_ofNat']
          congr 1
          omega
        rw [List.map_append]
        show w2.ownsRow _ _ _ _ _ (l.map bv ++ [bv _])
        rw [← e]
        first | exact ho2 | (simpa using ho2)
      have HC2 := Lib.hid (HC.out.belowB hb2 hp)
      have HG2 := Lib.hid (only_below HG.out hb2)
      have HK := Lib.hid hk2
      clear hk2 ho2 hb2
      go_wp2
      go_roundw
      case rel => exact ⟨m + 1, _, _, _, _, by omega, by go_num, rfl, HK.out, HO.out, HC2.out, HG2.out⟩
      case measure => simp [intOf]; omega
    · obtain rfl : m = n := by omega
      have hl := own_lenB ho
      go_wp2
      go_ret
      exact ⟨_, _, _, l, rfl, ho, hl, hcr, hg⟩

theorem l1Odd_any (p : Nat) (w : World) (hc : Cur w p) : Calls Try.prog 49 #[.pointer (some ⟨p, 0, none⟩)] w (DI w p i64R) := by
  have hp := hc.lt
  go_enter Try.func49, Try.ntmps49
  go_wp2_with fail
  refine (l1Int_any p _ 14 14 [-1, 0, 1, 2, 255, 256, 65535, 2147483647, 2147483648, 4294967295, 4294967296, -2147483648, 9223372036854775807, -9223372036854775808] _ (by decide) (by decide) (rd_lit w _ _) (lit_ne hp) (hc.below (al' _))).mono ?_
  rintro e w1 ⟨x, rfl, hx, c1, g1⟩
  go_wp2
  go_ret
  exact ⟨x, rfl, (by unfold i64R; decide : ∀ x ∈ [-1, 0, 1, 2, 255, 256, 65535, 2147483647, 2147483648, 4294967295, 4294967296, -2147483648, 9223372036854775807, (-9223372036854775808 : Int)], i64R x) x hx, c1, only_trans (only_alloc (World.grownBy.refl _ _) _) g1⟩

theorem l1Raw_any (p : Nat) (w : World) (hc : Cur w p) : Calls Try.prog 48 #[.pointer (some ⟨p, 0, none⟩)] w (DI w p i64R) := by
  go_enter Try.func48, Try.ntmps48
  go_wp2_with fail
  refine (l1Once_any p 2 _ (by omega) (by omega) hc).mono ?_
  rintro e w1 ⟨b, rfl, c1, g1⟩
  have hp := c1.lt
  cases b
  · go_wp2_with fail
    refine (l1Int_any p _ 3 3 [-1, 1000000000000, 1000000000001] _ (by decide) (by decide) (rd_lit w1 _ _) (lit_ne hp) (c1.below (al' _))).mono ?_
    rintro e w2 ⟨x, rfl, hx, c2, g2⟩
    go_wp2
    go_ret
    exact ⟨x, rfl, (by unfold i64R; decide : ∀ x ∈ [-1, 1000000000000, (1000000000001 : Int)], i64R x) x hx, c2, only_trans g1 (only_trans (only_alloc (World.grownBy.refl _ _) _) g2)⟩
  · go_wp2_with fail
    refine (l1Odd_any p _ c1).mono ?_
    rintro e w2 ⟨x, rfl, hx, c2, g2⟩
    go_wp2
    go_ret
    exact ⟨x, rfl, hx, c2, only_trans g1 g2⟩

theorem l1Num_any (p : Nat) (w : World) (hc : Cur w p) : Calls Try.prog 45 #[.pointer (some ⟨p, 0, none⟩)] w (DI w p i64R) := by
  go_enter Try.func45, Try.ntmps45
  go_wp2_with fail
  refine (l1Below_any p 4 _ (by omega) (by omega) hc).mono ?_
  rintro e w1 ⟨x, rfl, hx, c1, g1⟩
  have hp := c1.lt
  rcases (by omega : x = 0 ∨ x = 1 ∨ x = 2 ∨ x = 3) with rfl | rfl | rfl | rfl
  · go_wp2_with fail
    refine (l1Below_any p 2000 _ (by omega) (by omega) c1).mono ?_
    rintro e w2 ⟨x, rfl, hx, c2, g2⟩
    go_wp2
    go_ret
    exact ⟨x, rfl, by unfold i64R; omega, c2, only_trans g1 g2⟩
  · go_wp2_with fail
    refine (l1Int_any p _ 7 7 [0, 1, 127, 128, 2147483646, 2147483647, 1000000000000] _ (by decide) (by decide) (rd_lit w1 _ _) (lit_ne hp) (c1.below (al' _))).mono ?_
    rintro e w2 ⟨x, rfl, hx, c2, g2⟩
    go_wp2
    go_ret
    exact ⟨x, rfl, (by unfold i64R; decide : ∀ x ∈ [0, 1, 127, 128, 2147483646, 2147483647, (1000000000000 : Int)], i64R x) x hx, c2, only_trans g1 (only_trans (only_alloc (World.grownBy.refl _ _) _) g2)⟩
  · go_wp2_with fail
    refine (l1Below_any p 1000000 _ (by omega) (by omega) c1).mono ?_
    rintro e w2 ⟨x, rfl, hx, c2, g2⟩
    go_wp2_with fail
    refine (l1Below_any p 1000000 _ (by omega) (by omega) c2).mono ?_
    rintro e w3 ⟨y, rfl, hy, c3, g3⟩
    go_wp2
    go_ret
    exact ⟨_, rfl, w64_rng _, c3, only_trans g1 (only_trans g2 g3)⟩
  · go_wp2_with fail
    refine (l1Below_any p 20 _ (by omega) (by omega) c1).mono ?_
    rintro e w2 ⟨x, rfl, hx, c2, g2⟩
    go_wp2
    go_ret
    exact ⟨x, rfl, by unfold i64R; omega, c2, only_trans g1 g2⟩

theorem l1One_any (p : Nat) (w : World) (hc : Cur w p) : Calls Try.prog 42 #[.pointer (some ⟨p, 0, none⟩)] w (DI w p i64R) := by
  go_enter Try.func42, Try.ntmps42
  go_wp2_with fail
  refine (l1Once_any p 6 _ (by omega) (by omega) hc).mono ?_
  rintro e w1 ⟨b, rfl, c1, g1⟩
  cases b
  · go_wp2_with fail
    refine (l1Num_any p _ c1).mono ?_
    rintro e w2 ⟨x, rfl, hx, c2, g2⟩
    go_wp2
    go_ret
    exact ⟨x, rfl, hx, c2, only_trans g1 g2⟩
  · go_wp2_with fail
    refine (l1Raw_any p _ c1).mono ?_
    rintro e w2 ⟨x, rfl, hx, c2, g2⟩
    go_wp2
    go_ret
    exact ⟨x, rfl, hx, c2, only_trans g1 g2⟩

/-- The range of a word. -/
def wordR (x : Int) : Prop := -1 ≤ x ∧ x ≤ 2147483648000
theorem l3Word_any (p : Nat) (w : World) (hc : Cur w p) : Calls Try.prog 32 #[.pointer (some ⟨p, 0, none⟩)] w (DI w p wordR) := by
  go_enter Try.func32, Try.ntmps32
  go_wp2_with fail
  refine (l1Once_any p 10 _ (by omega) (by omega) hc).mono ?_
  rintro e w1 ⟨b, rfl, c1, g1⟩
  have hp := c1.lt
  cases b
  · go_wp2_with fail
    refine (l1Once_any p 4 _ (by omega) (by omega) c1).mono ?_
    rintro e w2 ⟨b2, rfl, c2, g2⟩
    have hp2 := c2.lt
    cases b2
    · go_wp2_with fail
      refine (l1Below_any p 1000000 _ (by omega) (by omega) c2).mono ?_
      rintro e w3 ⟨x, rfl, hx, c3, g3⟩
      go_wp2_with fail
      refine (l1Below_any p 2000 _ (by omega) (by omega) c3).mono ?_
      rintro e w4 ⟨y, rfl, hy, c4, g4⟩
      have hxy : 0 ≤ x * y ∧ x * y ≤ 2000000000 := ⟨Int.mul_nonneg hx.1 hy.1, by
        have h1 : x * y ≤ 1000000 * y := Int.mul_le_mul_of_nonneg_right (by omega) hy.1
        omega⟩
      have hw : wrap64 (x * y) = x * y := by
        unfold wrap64
        omega
      have HW := Lib.hid hw
      clear hw
      go_wp2
      go_ret
      exact ⟨x * y, by first | rfl | rw [HW.out], by unfold wordR; omega, c4, only_trans g1 (only_trans g2 (only_trans g3 g4))⟩
    · go_wp2_with fail
      refine (l1Int_any p _ 3 3 [0, 1, 2147483646] _ (by decide) (by decide) (rd_lit w2 _ _) (lit_ne hp2) (c2.below (al' _))).mono ?_
      rintro e w3 ⟨x, rfl, hx, c3, g3⟩
      go_wp2
      go_ret
      exact ⟨x, rfl, (by unfold wordR; decide : ∀ x ∈ [0, 1, (2147483646 : Int)], wordR x) x hx, c3, only_trans g1 (only_trans g2 (only_trans (only_alloc (World.grownBy.refl _ _) _) g3))⟩
  · go_wp2_with fail
    refine (l1Int_any p _ 3 3 [-1, 2147483647, 2147483648] _ (by decide) (by decide) (rd_lit w1 _ _) (lit_ne hp) (c1.below (al' _))).mono ?_
    rintro e w2 ⟨x, rfl, hx, c2, g2⟩
    go_wp2
    go_ret
    exact ⟨x, rfl, (by unfold wordR; decide : ∀ x ∈ [-1, 2147483647, (2147483648 : Int)], wordR x) x hx, c2, only_trans g1 (only_trans (only_alloc (World.grownBy.refl _ _) _) g2)⟩
set_option maxRecDepth 100000 in
theorem l3Words_any (p : Nat) (w : World) (hc : Cur w p) : Calls Try.prog 36 #[.pointer (some ⟨p, 0, none⟩)] w (DIs w p fun l => l.length ≤ 4 ∧ ∀ z ∈ l, wordR z) := by
  obtain ⟨i0, hi, hz0, hz1, hz2⟩ := info_parts infoI
  have hp := hc.lt
  go_enter Try.func36, Try.ntmps36
  go_wp2_with fail
  refine (l1Below_any p 5 _ (by omega) (by omega) (hc.below (al' _))).mono ?_
  rintro e w1 ⟨q0, rfl, hq0, c1, g1⟩
  have HG1 := Lib.hid (only_trans (only_alloc (World.grownBy.refl w (some p)) _) g1)
  have HO1 := Lib.hid (own_only (own_new (w := w) (e := 3) (size := 1) (Nat.le_refl _)) g1 hp)
  have HC1 := Lib.hid c1
  clear c1 g1
  go_wp2
  go_loopw [3, 4] (fun v i wr => ∃ (q : Int) (B : Option Addr) (m d : Nat) (l : List Int), (0 ≤ q ∧ (m : Int) + q ≤ 4) ∧ i = .int .i64 q ∧ v = .slice B m d ∧ wr.ownsRow w.heap.size 3 1 (.slice B m d) m (l.map iv) ∧ (∀ z ∈ l, wordR z) ∧ Cur wr p ∧ w.grownBy wr (some p)) (fun _ i _ => (intOf i).toNat)
  case atStart => exact ⟨q0, _, _, _, [], by omega, rfl, rfl, HO1.out, by simp, HC1.out, HG1.out⟩
  case round =>
    obtain ⟨q, B, m, d, l, hq, rfl, rfl, ho, hw, hcr, hg⟩ := hrel
    clear HO1 HC1 HG1
    have HW := Lib.hid hw
    clear hw
    by_cases hlt : 0 < q
    · go_wp2_with fail
      refine (l3Word_any p _ hcr).mono ?_
      rintro e w1 ⟨x, rfl, hx, c1, g1⟩
      replace ho := own_only ho g1 hp
      have hg1 := only_trans hg g1
      have hbs := hg1.size
      have HC := Lib.hid c1
      have HG := Lib.hid hg1
      have HX := Lib.hid hx
      clear c1 g1 hg1 hcr hg hx
      go_wp2_with (at_builtin; refine wpList_push w1 rfl _ _ 28 rfl w.heap.size 3 i0 (.int .i64 0) 8 Try.underlying28 hi hz0 hz1 hz2 rfl B m d _ (by rfl) ho _ (by rfl) (by rfl) ?c1 ?c2 ?c3 ?_)
      case c1 => unfold maxLen; omega
      case c2 => omega
      case c3 => exact hbs
      intro A' k' c' w2 hk2 ho2 hb2
      have HO : Hid (w2.ownsRow w.heap.size 3 1 (.slice A' k' c') k' ((l ++ [x]).map iv)) := by
        rw [List.map_append]
        first | exact ho2 | (simpa using ho2)
      have HC2 := Lib.hid (HC.out.belowB hb2 hp)
      have HG2 := Lib.hid (only_below HG.out hb2)
      have HW2 : Hid (∀ z ∈ l ++ [x], wordR z) := by
        intro z hz
        rcases List.mem_append.1 hz with h | h
        · exact HW.out z h
        · rw [List.mem_singleton.1 h]
          exact HX.out
      have hks : (k' : Int) + (q - 1) ≤ 4 := by omega
      clear hk2 ho2 hb2
      go_wp2
      go_roundw
      case rel => exact ⟨q - 1, _, _, _, _, ⟨by omega, hks⟩, rfl, rfl, HO.out, HW2.out, HC2.out, HG2.out⟩
      case measure => simp [intOf]; omega
    · have hl := own_lenI ho
      go_wp2
      go_ret
      exact ⟨_, _, _, l, rfl, ho, ⟨by omega, HW.out⟩, hcr, hg⟩

/-- What a draw of an int and a row of bytes hands back; of a row of bytes and an int; and so on. -/
def DrIB (w : World) (P : Int → Prop) (Q : List UInt8 → Prop) (e : Ending) (w' : World) : Prop :=
  ∃ x A n c l, e = .returned (.tuple #[.int .i64 x, .slice A n c]) ∧ w'.ownsRow w.heap.size 5 1 (.slice A n c) n (l.map bv) ∧ P x ∧ Q l ∧ Below w.heap.size w w'
def DrII (w : World) (P : Int → Prop) (Q : List Int → Prop) (e : Ending) (w' : World) : Prop :=
  ∃ x A n c l, e = .returned (.tuple #[.int .i64 x, .slice A n c]) ∧ w'.ownsRow w.heap.size 3 1 (.slice A n c) n (l.map iv) ∧ P x ∧ Q l ∧ Below w.heap.size w w'
def DrIS (w : World) (P : Int → Prop) (Q : ByteArray → Prop) (e : Ending) (w' : World) : Prop :=
  ∃ x s, e = .returned (.tuple #[.int .i64 x, .string s]) ∧ P x ∧ Q s ∧ Below w.heap.size w w'
def DrBI (w : World) (P : List UInt8 → Prop) (Q : Int → Prop) (e : Ending) (w' : World) : Prop :=
  ∃ A n c l x, e = .returned (.tuple #[.slice A n c, .int .i64 x]) ∧ w'.ownsRow w.heap.size 5 1 (.slice A n c) n (l.map bv) ∧ P l ∧ Q x ∧ Below w.heap.size w w'
def DrBB (w : World) (P Q : List UInt8 → Prop) (e : Ending) (w' : World) : Prop :=
  ∃ A n c l A2 n2 c2 l2, e = .returned (.tuple #[.slice A n c, .slice A2 n2 c2]) ∧ w'.ownsRow w.heap.size 5 1 (.slice A n c) n (l.map bv) ∧ w'.ownsRow w.heap.size 5 1 (.slice A2 n2 c2) n2 (l2.map bv) ∧ P l ∧ Q l2 ∧ Below w.heap.size w w'
theorem own_onlyB {w w' : World} {base p : Nat} {e : TypeId} {size : Nat} {A : Option Addr} {n c : Nat} {xs : List Value} (h : w.ownsRow base e size (.slice A n c) n xs) (hg : w.grownBy w' (some p)) (hne : ∀ ad, A = some ad → ad.block ≠ p) : w'.ownsRow base e size (.slice A n c) n xs :=
  own_grown h hg (fun ad ha e2 => hne ad ha (by injection e2 with e2; exact e2.symm))

theorem drawEncrypt_any (A : Option Addr) (n c : Nat) (l : List UInt8) (w : World) (hn : n ≤ 1099511627776) (hr : Rd w 1 A n (l.map bv)) :
    Calls Try.prog 8 #[.slice A n c] w (DrIB w wordR fun l => l.length ≤ 8) := by
  go_enter Try.func8, Try.ntmps8
  go_wp2_with fail
  refine (l1New_any A n c l _ hn hr).mono ?_
  rintro e w1 ⟨p, rfl, c1, b1, hp⟩
  go_wp2_with fail
  refine (l3Word_any p _ c1).mono ?_
  rintro e w2 ⟨x, rfl, hx, c2, g2⟩
  have B2 := below_only b1 g2 b1.size hp
  have HX := Lib.hid hx
  clear hx
  go_wp2_with fail
  refine (l1Below_any p 8 _ (by omega) (by omega) c2).mono ?_
  rintro e w3 ⟨y, rfl, hy, c3, g3⟩
  have B3 := below_only B2 g3 B2.size hp
  obtain ⟨m, rfl⟩ : ∃ m : Nat, y = (m : Int) := ⟨y.toNat, by omega⟩
  go_wp2_with fail
  refine (l1Bytes_any p m _ (by omega) c3).mono ?_
  rintro e w4 ⟨A4, n4, c4', l4, rfl, o4, h4, c4, g4⟩
  have B4 := below_only B3 g4 B3.size hp
  have HO := Lib.hid (own_base o4 B3.size)
  have HL := Lib.hid h4
  clear o4 h4
  go_wp2
  go_ret2
  exact ⟨_, _, _, _, l4, rfl, HO.out, HX.out, by have := HL.out; omega, B4⟩

theorem drawKeyedHash_any (A : Option Addr) (n c : Nat) (l : List UInt8) (w : World) (hn : n ≤ 1099511627776) (hr : Rd w 1 A n (l.map bv)) :
    Calls Try.prog 12 #[.slice A n c] w (DrII w wordR fun l => l.length ≤ 4 ∧ ∀ z ∈ l, wordR z) := by
  go_enter Try.func12, Try.ntmps12
  go_wp2_with fail
  refine (l1New_any A n c l _ hn hr).mono ?_
  rintro e w1 ⟨p, rfl, c1, b1, hp⟩
  go_wp2_with fail
  refine (l3Word_any p _ c1).mono ?_
  rintro e w2 ⟨x, rfl, hx, c2, g2⟩
  have B2 := below_only b1 g2 b1.size hp
  have HX := Lib.hid hx
  clear hx
  go_wp2_with fail
  refine (l3Words_any p _ c2).mono ?_
  rintro e w4 ⟨A4, n4, c4', l4, rfl, o4, h4, c4, g4⟩
  have B4 := below_only B2 g4 B2.size hp
  have HO := Lib.hid (own_base o4 B2.size)
  have HL := Lib.hid h4
  clear o4 h4
  go_wp2
  go_ret2
  exact ⟨_, _, _, _, l4, rfl, HO.out, HX.out, HL.out, B4⟩

theorem drawDerive_any (A : Option Addr) (n c : Nat) (l : List UInt8) (w : World) (hn : n ≤ 1099511627776) (hr : Rd w 1 A n (l.map bv)) :
    Calls Try.prog 17 #[.slice A n c] w (DrIS w wordR fun s => s.size ≤ 4) := by
  go_enter Try.func17, Try.ntmps17
  go_wp2_with fail
  refine (l1New_any A n c l _ hn hr).mono ?_
  rintro e w1 ⟨p, rfl, c1, b1, hp⟩
  go_wp2_with fail
  refine (l3Word_any p _ c1).mono ?_
  rintro e w2 ⟨x, rfl, hx, c2, g2⟩
  have B2 := below_only b1 g2 b1.size hp
  have HX := Lib.hid hx
  have hpl := c2.lt
  clear hx
  go_wp2_with fail
  refine (l1Str_any p _ 6 6 [⟨#[]⟩, ⟨#[97]⟩, ⟨#[98]⟩, ⟨#[97, 98]⟩, ⟨#[110, 101, 119, 115]⟩, ⟨#[120]⟩] _ (by decide) (by decide) (rd_lit w2 _ _) (lit_ne hpl) (c2.below (al' _))).mono ?_
  rintro e w3 ⟨s, rfl, hs, c3, g3⟩
  have B3 := below_only B2 (only_trans (only_alloc (World.grownBy.refl _ _) _) g3) B2.size hp
  have HS := Lib.hid hs
  clear hs
  go_wp2
  go_ret2
  exact ⟨_, _, rfl, HX.out, (by decide : ∀ s ∈ [(⟨#[]⟩ : ByteArray), ⟨#[97]⟩, ⟨#[98]⟩, ⟨#[97, 98]⟩, ⟨#[110, 101, 119, 115]⟩, ⟨#[120]⟩], s.size ≤ 4) s HS.out, B3⟩

theorem drawAppendBytes_any (A : Option Addr) (n c : Nat) (l : List UInt8) (w : World) (hn : n ≤ 1099511627776) (hr : Rd w 1 A n (l.map bv)) :
    Calls Try.prog 20 #[.slice A n c] w (DrBB w (fun l => l.length ≤ 8) (fun l => l.length ≤ 8)) := by
  go_enter Try.func20, Try.ntmps20
  go_wp2_with fail
  refine (l1New_any A n c l _ hn hr).mono ?_
  rintro e w1 ⟨p, rfl, c1, b1, hp⟩
  go_wp2_with fail
  refine (l1Below_any p 3 _ (by omega) (by omega) c1).mono ?_
  rintro e w2 ⟨y, rfl, hy, c2, g2⟩
  have B2 := below_only b1 g2 b1.size hp
  obtain ⟨m, rfl⟩ : ∃ m : Nat, y = (m : Int) := ⟨y.toNat, by omega⟩
  have hpl := c2.lt
  go_wp2_with fail
  refine (l1Bytes_any p m _ (by omega) c2).mono ?_
  rintro e w3 ⟨A3, n3, c3', l3, rfl, o3, h3, c3, g3⟩
  have B3 := below_only B2 g3 B2.size hp
  have q3 : l3.length ≤ 8 := by omega
  clear h3
  go_wp2_with fail
  refine (l1Below_any p 6 _ (by omega) (by omega) c3).mono ?_
  rintro e w4 ⟨z, rfl, hz, c4, g4⟩
  have B4 := below_only B3 g4 B3.size hp
  replace o3 := own_only o3 g4 hpl
  obtain ⟨m2, rfl⟩ : ∃ m2 : Nat, z = (m2 : Int) := ⟨z.toNat, by omega⟩
  go_wp2_with fail
  refine (l1Bytes_any p m2 _ (by omega) c4).mono ?_
  rintro e w5 ⟨A5, n5, c5', l5, rfl, o5, h5, c5, g5⟩
  have B5 := below_only B4 g5 B4.size hp
  have q5 : l5.length ≤ 8 := by omega
  have HO3 := Lib.hid (own_base (own_only o3 g5 hpl) B2.size)
  have HO5 := Lib.hid (own_base o5 B4.size)
  clear o3 o5 h5
  go_wp2
  go_ret2
  exact ⟨_, _, _, l3, _, _, _, l5, rfl, HO3.out, HO5.out, q3, q5, B5⟩

theorem drawAppendUvarint_any (A : Option Addr) (n c : Nat) (l : List UInt8) (w : World) (hn : n ≤ 1099511627776) (hr : Rd w 1 A n (l.map bv)) :
    Calls Try.prog 26 #[.slice A n c] w (DrBI w (fun l => l.length ≤ 8) i64R) := by
  go_enter Try.func26, Try.ntmps26
  go_wp2_with fail
  refine (l1New_any A n c l _ hn hr).mono ?_
  rintro e w1 ⟨p, rfl, c1, b1, hp⟩
  go_wp2_with fail
  refine (l1Below_any p 3 _ (by omega) (by omega) c1).mono ?_
  rintro e w2 ⟨y, rfl, hy, c2, g2⟩
  have B2 := below_only b1 g2 b1.size hp
  obtain ⟨m, rfl⟩ : ∃ m : Nat, y = (m : Int) := ⟨y.toNat, by omega⟩
  have hpl := c2.lt
  go_wp2_with fail
  refine (l1Bytes_any p m _ (by omega) c2).mono ?_
  rintro e w3 ⟨A3, n3, c3', l3, rfl, o3, h3, c3, g3⟩
  have B3 := below_only B2 g3 B2.size hp
  have q3 : l3.length ≤ 8 := by omega
  clear h3
  go_wp2_with fail
  refine (l1One_any p _ c3).mono ?_
  rintro e w4 ⟨x, rfl, hx, c4, g4⟩
  have B4 := below_only B3 g4 B3.size hp
  have HO3 := Lib.hid (own_base (own_only o3 g4 hpl) B2.size)
  have HX := Lib.hid hx
  clear o3 hx
  go_wp2
  go_ret2
  exact ⟨_, _, _, l3, _, rfl, HO3.out, q3, HX.out, B4⟩
end Go.Proofs.Ytiliahafaldfcaa
