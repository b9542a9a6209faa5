/-
  Proved: the contracts of EqualBytes, CompareBytes and bytes.Compare. Conditions: the slices read as lists.
  By an AI agent; no person has read it.
-/
import Derived.Test.YtnbhdijmbpdgoaaDoorTypes
import Derived.Test.YtnbhdijmbpdgoaaDoorStr
import Derived.Test.YtnbhdijmbpdgoaaDoorEqS
import Derived.Lib.Bytealg
import Derived.Lib.BytesEntry
import Derived.Lib.Strings
import Derived.WalkLawsBesides
import Derived.Laws.Externs
namespace Go.Proofs.YtnbhdijmbpdgoaaDoor
open Go.RowKit

/-- The sign of a comparison. -/
def signOf (a b : Bool) : Int := if a then -1 else if b then 1 else 0
theorem decide_eq_beq (x y : List UInt8) : decide (x = y) = (x == y) := by
  by_cases h : x = y <;> simp [h]
theorem cmp_self : ∀ x : List UInt8, Lib.compareBytes x x = 0
  | [] => rfl
  | a :: x => by
    simp only [Lib.compareBytes]
    rw [if_neg (by exact UInt8.lt_irrefl a), if_neg (by exact UInt8.lt_irrefl a)]
    exact cmp_self x
theorem cmp_sign : ∀ x y : List UInt8, Lib.compareBytes x y = signOf (Op.bytesLess x y) (!(Op.bytesLess x y || x == y))
  | [], [] => rfl
  | [], _ :: _ => rfl
  | _ :: _, [] => rfl
  | a :: x, b :: y => by
    have ih := cmp_sign x y
    simp only [Lib.compareBytes, Op.bytesLess]
    by_cases h : a < b
    · simp [h, signOf]
    · by_cases h2 : b < a
      · have hne : ¬ a = b := by rintro rfl; exact h h2
        simp [h, h2, hne, signOf]
      · have heq : a = b := by
          apply UInt8.toNat_inj.1
          rw [UInt8.lt_iff_toNat_lt] at h h2
          omega
        subst heq
        simp [h, ih]


theorem run_compareBytes {P : Program} (A B : Option Addr) (n m c d : Nat) (xs ys : List UInt8) (w : World) (ha : Rd w 1 A n (xs.map bv)) (hb : Rd w 1 B m (ys.map bv)) :
    (Extern.BytealgCompare.compare #[.slice A n c, .slice B m d]).run P w = .ok (.int .i64 (Lib.compareBytes xs ys)) w := by
  have one : ∀ (A : Option Addr) (n c : Nat) (l : List UInt8), Rd w 1 A n (l.map bv) → (Extern.Bytes.bytesOf (.slice A n c)).run P w = .ok (strOf l) w := by
    intro A n c l h
    have hl := h.lenB
    cases A with
    | none =>
      have hn : n = 0 := by
        rcases Nat.eq_zero_or_pos n with h0 | h0
        · exact h0
        · obtain ⟨b, o, e1, _⟩ := h.2 h0
          cases e1
      subst hn
      have : l = [] := List.eq_nil_of_length_eq_zero hl
      subst this
      rfl
    | some ad =>
      have hx := Lib.run_loadBytesX (P := P) w (l.map fun x => (x.toNat : Int)) ad .empty (fun j x hj => by
        rw [List.getElem?_map, Option.map_eq_some_iff] at hj
        obtain ⟨u, hu, rfl⟩ := hj
        have hjl : j < n := by have := (List.getElem?_eq_some_iff.1 hu).1; omega
        obtain ⟨b, o, x, e1, _, hx, hc⟩ := h.byte hjl
        injection e1 with e1
        subst e1
        rw [addr_add, hc]
        rw [hu] at hx
        injection hx with hx
        rw [hx])
      rw [List.length_map, hl] at hx
      simp only [Extern.Bytes.bytesOf]
      rw [hx]
      congr 1
      have e : Lib.bytesOf (l.map fun x => (x.toNat : Int)) = l := by
        simp only [Lib.bytesOf, List.map_map]
        rw [List.map_congr_left (g := id) (fun x _ => by simp [Function.comp]), List.map_id]
      rw [e]
      simp [strOf]
  change Sem.run P (do pure (goInt (Extern.BytealgCompare.cmp (← Extern.Bytes.bytesOf (.slice A n c)) (← Extern.Bytes.bytesOf (.slice B m d))))) w = _
  simp only [Sem.run_bind, one A n c xs ha, one B m d ys hb, Sem.run_pure, Result.andThen]
  rw [Lib.cmp_eq, strOf_toList, strOf_toList]
  rfl
set_option maxRecDepth 100000 in
theorem bytesCompare_any (A B : Option Addr) (n m c d : Nat) (xs ys : List UInt8) (w : World) (ha : Rd w 1 A n (xs.map bv)) (hb : Rd w 1 B m (ys.map bv)) :
    Calls Tryd.prog 41 #[.slice A n c, .slice B m d] w fun e w' => e = .returned (.int .i64 (Lib.compareBytes xs ys)) ∧ w = w' := by
  go_enter Tryd.func41, Tryd.ntmps41
  go_wp2
  rw [run_callFunc_extern Tryd.func60 (by kernel_rfl) (by kernel_rfl) (by kernel_rfl) (e := Extern.BytealgCompare.compare) (by kernel_rfl), run_compareBytes A B n m c d xs ys w ha hb]
  simp only [Result.andThen]
  rw [Oper.upon_value]
  go_wp2
  go_ret
  exact ⟨rfl, rfl⟩

theorem implCompareBytes_any (A B : Option Addr) (n m c d : Nat) (xs ys : List UInt8) (w : World) (ha : Rd w 1 A n (xs.map bv)) (hb : Rd w 1 B m (ys.map bv)) :
    Calls Tryd.prog 15 #[.slice A n c, .slice B m d] w fun e w' => e = .returned (.int .i64 (Lib.compareBytes xs ys)) ∧ w = w' := by
  go_enter Tryd.func15, Tryd.ntmps15
  go_wp2_with fail
  refine (bytesCompare_any A B n m c d xs ys w ha hb).mono ?_
  rintro e w' ⟨rfl, rfl⟩
  go_wp2
  go_ret
  exact ⟨rfl, rfl⟩
end Go.Proofs.YtnbhdijmbpdgoaaDoor
