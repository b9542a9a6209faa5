/-
  Proved: the contracts of the draws for the laws on ints, and of the program's CeilDiv. Conditions: the slice reads as a list of bytes.
  By an AI agent; no person has read it.
-/
import Derived.Test.YtnbhdijmbpdgoaaDoorDrawA
import Derived.Test.YtnbhdijmbpdgoaaDoorDrawB
import Derived.Test.YtnbhdijmbpdgoaaDoorArith
import Derived.Test.YtnbhdijmbpdgoaaDoorFmt
import Derived.Test.YtnbhdijmbpdgoaaDoorFmtK
namespace Go.Proofs.YtnbhdijmbpdgoaaDoor
open Go.RowKit

theorem drawFormatInt_any (A : Option Addr) (n c : Nat) (l : List UInt8) (w : World) (hn : n ≤ 1099511627776) (hr : Rd w 1 A n (l.map bv)) :
    Calls Tryd.prog 29 #[.slice A n c] w fun e w' => (∃ x : Int, e = .returned (.int .i64 x) ∧ i64R x) ∧ Below w.heap.size w w' := by
  go_enter Tryd.func29, Tryd.ntmps29
  go_wp2_with fail
  refine (l1New_any A n c l _ hn hr).mono ?_
  rintro e w1 ⟨p, rfl, c1, b1, hp⟩
  go_wp2_with fail
  refine (l1One_any p _ c1).mono ?_
  rintro e w2 ⟨x, rfl, hx, c2, g2⟩
  have B2 := below_only b1 g2 b1.size hp
  go_wp2
  go_ret
  exact ⟨⟨x, rfl, hx⟩, B2⟩

theorem drawCeilDiv_any (A : Option Addr) (n c : Nat) (l : List UInt8) (w : World) (hn : n ≤ 1099511627776) (hr : Rd w 1 A n (l.map bv)) :
    Calls Tryd.prog 30 #[.slice A n c] w fun e w' => (∃ x y : Int, e = .returned (.tuple #[.int .i64 x, .int .i64 y]) ∧ i64R x ∧ i64R y) ∧ Below w.heap.size w w' := by
  go_enter Tryd.func30, Tryd.ntmps30
  go_wp2_with fail
  refine (l1New_any A n c l _ hn hr).mono ?_
  rintro e w1 ⟨p, rfl, c1, b1, hp⟩
  go_wp2_with fail
  refine (l1One_any p _ c1).mono ?_
  rintro e w2 ⟨x, rfl, hx, c2, g2⟩
  have B2 := below_only b1 g2 b1.size hp
  have HX := Lib.hid hx
  clear hx
  go_wp2_with fail
  refine (l1One_any p _ c2).mono ?_
  rintro e w3 ⟨y, rfl, hy, c3, g3⟩
  have B3 := below_only B2 g3 B2.size hp
  have HY := Lib.hid hy
  clear hy
  go_wp2
  go_ret2
  exact ⟨⟨x, y, rfl, HX.out, HY.out⟩, B3⟩

theorem drawParseInt_any (A : Option Addr) (n c : Nat) (l : List UInt8) (w : World) (hn : n ≤ 1099511627776) (hr : Rd w 1 A n (l.map bv)) :
    Calls Tryd.prog 28 #[.slice A n c] w fun e w' => (∃ s : ByteArray, e = .returned (.string s) ∧ s.size ≤ 100) ∧ Below w.heap.size w w' := by
  go_enter Tryd.func28, Tryd.ntmps28
  go_wp2_with fail
  refine (l1New_any A n c l _ hn hr).mono ?_
  rintro e w1 ⟨p, rfl, c1, b1, hp⟩
  go_wp2_with fail
  refine (l1Once_any p 2 _ (by omega) (by omega) c1).mono ?_
  rintro e w2 ⟨b, rfl, c2, g2⟩
  have B2 := below_only b1 g2 b1.size hp
  have hp2 := c2.lt
  cases b
  · go_wp2_with fail
    refine (l1Num_any p _ c2).mono ?_
    rintro e w3 ⟨x, rfl, hx, c3, g3⟩
    have B3 := below_only B2 g3 B2.size hp
    go_wp2_with fail
    refine (specFormatInt_any x _ hx).mono ?_
    rintro e w4 ⟨rfl, b4⟩
    have B4 := B3.trans (b4.mono B3.size)
    have hz := itoa_size x hx
    have HZ := Lib.hid hz
    clear hz hx
    go_wp2
    go_ret
    exact ⟨⟨_, rfl, Nat.le_trans HZ.out (by decide)⟩, B4⟩
  · go_wp2_with fail
    refine (l1Str_any p _ 11 11 [⟨#[]⟩, ⟨#[48]⟩, ⟨#[48, 48]⟩, ⟨#[45, 49]⟩, ⟨#[48, 49]⟩, ⟨#[55]⟩, ⟨#[49, 48, 48, 48, 48, 48, 48, 48, 48, 48, 48, 48, 48]⟩, ⟨#[49, 48, 48, 48, 48, 48, 48, 48, 48, 48, 48, 48, 49]⟩, ⟨#[57, 57, 57, 57, 57, 57, 57, 57, 57, 57, 57, 57, 57, 57]⟩, ⟨#[49, 120]⟩, ⟨#[32, 49]⟩] _ (by decide) (by decide) (rd_lit w2 _ _) (lit_ne hp2) (c2.below (al' _))).mono ?_
    rintro e w3 ⟨y, rfl, hy, c3, g3⟩
    have hz : y.size ≤ 100 := (by decide : ∀ x ∈ [(⟨#[]⟩ : ByteArray), ⟨#[48]⟩, ⟨#[48, 48]⟩, ⟨#[45, 49]⟩, ⟨#[48, 49]⟩, ⟨#[55]⟩, ⟨#[49, 48, 48, 48, 48, 48, 48, 48, 48, 48, 48, 48, 48]⟩, ⟨#[49, 48, 48, 48, 48, 48, 48, 48, 48, 48, 48, 48, 49]⟩, ⟨#[57, 57, 57, 57, 57, 57, 57, 57, 57, 57, 57, 57, 57, 57]⟩, ⟨#[49, 120]⟩, ⟨#[32, 49]⟩], x.size ≤ 100) y hy
    have B3 := below_only (B2.trans ((al' _).mono B2.size)) g3 (by have := B2.size; simp; omega) hp
    have HZ := Lib.hid hz
    clear hz hy
    go_wp2
    go_ret
    exact ⟨⟨_, rfl, HZ.out⟩, B3⟩

/-- CeilDiv as the program computes it. -/
def ceF (a b : Int) : Int := if (0 ≤ a ∧ a ≤ 1000000000000) ∧ (1 ≤ b ∧ b ≤ 1000000000000) then (a + b - 1) / b else 0
theorem implCeilDiv_any (a b : Int) (w : World) :
    Calls Tryd.prog 31 #[.int .i64 a, .int .i64 b] w fun e w' => e = .returned (.int .i64 (ceF a b)) ∧ w = w' := by
  by_cases ha : 0 ≤ a ∧ a ≤ 1000000000000
  · by_cases hb : 1 ≤ b ∧ b ≤ 1000000000000
    · have HF := Lib.hid (show ceF a b = (a + b - 1) / b from if_pos ⟨ha, hb⟩)
      go_enter Tryd.func31, Tryd.ntmps31
      go_wp2_with fail
      refine (InRange_any _ _ _ true _ (inR_true ha.1 ha.2).symm).mono ?_
      rintro e w1 ⟨rfl, rfl⟩
      go_wp2_with fail
      refine (InRange_any _ _ _ true _ (inR_true hb.1 hb.2).symm).mono ?_
      rintro e w1 ⟨rfl, rfl⟩
      go_wp2
      go_ret
      exact ⟨ret_int HF.out, rfl⟩
    · have HF := Lib.hid (show ceF a b = 0 from if_neg (fun h => hb h.2))
      go_enter Tryd.func31, Tryd.ntmps31
      go_wp2_with fail
      refine (InRange_any _ _ _ true _ (inR_true ha.1 ha.2).symm).mono ?_
      rintro e w1 ⟨rfl, rfl⟩
      go_wp2_with fail
      refine (InRange_any _ _ _ false _ (decide_eq_false hb).symm).mono ?_
      rintro e w1 ⟨rfl, rfl⟩
      go_wp2
      go_ret
      exact ⟨ret_int HF.out, rfl⟩
  · have HF := Lib.hid (show ceF a b = 0 from if_neg (fun h => ha h.1))
    go_enter Tryd.func31, Tryd.ntmps31
    go_wp2_with fail
    refine (InRange_any _ _ _ false _ (decide_eq_false ha).symm).mono ?_
    rintro e w1 ⟨rfl, rfl⟩
    go_wp2
    go_ret
    exact ⟨ret_int HF.out, rfl⟩
end Go.Proofs.YtnbhdijmbpdgoaaDoor
