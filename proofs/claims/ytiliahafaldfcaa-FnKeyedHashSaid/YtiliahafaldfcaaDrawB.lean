/-
  Proved: the contracts of the draw of a varint's bytes and of the laws' small functions. Only the range of what is drawn is said. Conditions: the code reads as a list of at most 2^40 bytes.
  By an AI agent; no person has read it.
-/
import Derived.Test.YtiliahafaldfcaaDrawA
import Derived.Test.YtiliahafaldfcaaUv
namespace Go.Proofs.Ytiliahafaldfcaa
open Go.RowKit

theorem big_any (A : Option Addr) (n c : Nat) (r : Bool) (w : World) (_hn : n ≤ 9223372036854775807) (hr : r = decide ((1048576 : Int) < (n : Int))) :
    Calls Try.prog 7 #[.slice A n c] w fun e w' => e = .returned (.bool r) ∧ w = w' := by
  have HR := Lib.hid hr
  clear hr
  go_enter Try.func7, Try.ntmps7
  go_wp2
  go_ret
  exact ⟨ret_bool HR.out, rfl⟩

set_option maxRecDepth 100000 in
theorem at_any (A : Option Addr) (n c : Nat) (l : List UInt8) (i : Nat) (w : World) (hn : n ≤ 1099511627776) (hi : i ≤ 1000) (hr : Rd w 1 A n (l.map bv)) :
    Calls Try.prog 15 #[.slice A n c, .int .i64 (i : Int)] w fun e w' => e = .returned (.int .i64 (atF l i)) ∧ w = w' := by
  have hl := hr.lenB
  by_cases h : i < n
  · obtain ⟨b, o, x, rfl, _, hx, hc⟩ := hr.byte h
    have HF : Hid (atF l i = (x.toNat : Int)) := by
      unfold atF
      rw [hx]
      exact rfl
    have hyl := byte_lt x
    clear hx
    go_enter Try.func15, Try.ntmps15
    go_wp2
    go_ret
    exact ⟨ret_int HF.out, rfl⟩
  · have HF : Hid (atF l i = ((i : Int) * 31 + (n : Int) * 7) % 256) := by
      unfold atF
      rw [List.getElem?_eq_none (by omega), hl]
      exact rfl
    go_enter Try.func15, Try.ntmps15
    go_wp2
    go_ret
    exact ⟨ret_int HF.out, rfl⟩

set_option maxRecDepth 100000 in
theorem drawReadUvarint_any (A : Option Addr) (n c : Nat) (l : List UInt8) (w : World) (hn : n ≤ 1099511627776) (hr : Rd w 1 A n (l.map bv)) :
    Calls Try.prog 29 #[.slice A n c] w (DrBI w (fun l => l.length ≤ 16) (fun x => -1 ≤ x ∧ x ≤ 3)) := by
  obtain ⟨i0, hi, hz0, hz1, hz2⟩ := info_parts infoU8
  go_enter Try.func29, Try.ntmps29
  go_wp2_with fail
  refine (l1New_any A n c l _ hn hr).mono ?_
  rintro e w1 ⟨p, rfl, c1, b1, hp⟩
  go_wp2_with fail
  refine (l1Once_any p 2 _ (by omega) (by omega) c1).mono ?_
  rintro e w2 ⟨b, rfl, c2, g2⟩
  have B2 := below_only b1 g2 b1.size hp
  have hpl := c2.lt
  cases b
  · go_wp2_with fail
    refine (l1Below_any p 8 _ (by omega) (by omega) (c2.below (al' _))).mono ?_
    rintro e w3 ⟨q0, rfl, hq0, c3, g3⟩
    have HG3 := Lib.hid (only_trans (only_alloc (World.grownBy.refl w2 (some p)) _) g3)
    have HO3 := Lib.hid (own_only (own_new (w := w2) (e := 5) (size := 1) (Nat.le_refl _)) g3 hpl)
    have HC3 := Lib.hid c3
    clear c3 g3
    go_wp2
    go_loopw [5, 6] (fun v i wr => ∃ (q : Int) (B : Option Addr) (m d : Nat) (l : List UInt8), (0 ≤ q ∧ (m : Int) + q ≤ 8) ∧ i = .int .i64 q ∧ v = .slice B m d ∧ wr.ownsRow w2.heap.size 5 1 (.slice B m d) m (l.map bv) ∧ Cur wr p ∧ w2.grownBy wr (some p)) (fun _ i _ => (intOf i).toNat)
    case atStart => exact ⟨q0, _, _, _, [], by omega, rfl, rfl, HO3.out, HC3.out, HG3.out⟩
    case round =>
      obtain ⟨q, B, m, d, l, hq, rfl, rfl, ho, hcr, hg⟩ := hrel
      clear HO3 HC3 HG3
      have hpr := hcr.lt
      by_cases hlt : 0 < q
      · go_wp2_with fail
        refine (l1Int_any p _ 5 5 [128, 255, 0, 1, 127] _ (by decide) (by decide) (rd_lit wr _ _) (lit_ne hpr) (hcr.below (al' _))).mono ?_
        rintro e w4 ⟨x, rfl, hx, c4, g4⟩
        have hx2 := (by decide : ∀ x ∈ [128, 255, 0, 1, (127 : Int)], 0 ≤ x ∧ x ≤ 255) x hx
        have g4' := only_trans (only_alloc (World.grownBy.refl wr (some p)) _) g4
        replace ho := own_only ho g4' hpl
        have hg1 := only_trans hg g4'
        have hbs := hg1.size
        have HC := Lib.hid c4
        have HG := Lib.hid hg1
        clear c4 g4 g4' hg1 hcr hg hx
        go_wp2_with (at_builtin; refine wpList_push w4 rfl _ _ 22 rfl w2.heap.size 5 i0 (.int .u8 0) 1 Try.underlying22 hi hz0 hz1 hz2 rfl B m d _ (by rfl) ho _ (by rfl) (by rfl) ?c1 ?c2 ?c3 ?_)
        case c1 => unfold maxLen; omega
        case c2 => omega
        case c3 => exact hbs
        intro A' k' c' w5 hk2 ho2 hb2
        have HO : Hid (w5.ownsRow w2.heap.size 5 1 (.slice A' k' c') k' ((l ++ [UInt8.ofNat x.toNat]).map bv)) := by
          have e : Value.int .u8 x = bv (UInt8.ofNat x.toNat) := by
            unfold bv
            rw [UInt8.toNat_ofNat']
            congr 1
            omega
          rw [List.map_append]
          show w5.ownsRow _ _ _ _ _ (l.map bv ++ [bv _])
          rw [← e]
          first | exact ho2 | (simpa using ho2)
        have HC2 := Lib.hid (HC.out.belowB hb2 hpl)
        have HG2 := Lib.hid (only_below HG.out hb2)
        have hks : (k' : Int) + (q - 1) ≤ 8 := by omega
        clear hk2 ho2 hb2
        go_wp2
        go_roundw
        case rel => exact ⟨q - 1, _, _, _, _, ⟨by omega, hks⟩, rfl, rfl, HO.out, HC2.out, HG2.out⟩
        case measure => simp [intOf]; omega
      · have hl := own_lenB ho
        go_wp2_with fail
        refine (l1Below_any p 4 _ (by omega) (by omega) hcr).mono ?_
        rintro e w4 ⟨x, rfl, hx, c4, g4⟩
        have HB := Lib.hid (below_only (below_only B2 hg B2.size hp) g4 (Nat.le_trans B2.size hg.size) hp)
        have HO := Lib.hid (own_base (own_only ho g4 hpl) B2.size)
        clear ho g4 hg
        go_wp2
        go_ret2
        exact ⟨_, _, _, l, _, rfl, HO.out, by omega, ⟨by omega, by omega⟩, HB.out⟩
  · go_wp2_with fail
    refine (l1Bytes_any p 1 _ (by omega) c2).mono ?_
    rintro e w3 ⟨A3, n3, c3', l3, rfl, o3, h3, c3, g3⟩
    have B3 := below_only B2 g3 B2.size hp
    go_wp2_with fail
    refine (l1Num_any p _ c3).mono ?_
    rintro e w4 ⟨x, rfl, hx, c4, g4⟩
    have B4 := below_only B3 g4 B3.size hp
    replace o3 := own_only o3 g4 hpl
    have q3 := own_lenB o3
    go_wp2_with fail
    refine (specAppendUvarint_any A3 n3 c3' l3 x _ (by omega) (Rd.of_own o3)).mono ?_
    rintro e w5 ⟨A5, n5, c5, rfl, o5, b5⟩
    have HB := Lib.hid (B4.trans (b5.mono B4.size))
    have HO := Lib.hid (own_base o5 B4.size)
    have hl := appU_len l3 x
    clear o5 b5 o3
    go_wp2
    go_ret2
    exact ⟨_, _, _, _, _, rfl, HO.out, by omega, ⟨by omega, by omega⟩, HB.out⟩
end Go.Proofs.Ytiliahafaldfcaa
