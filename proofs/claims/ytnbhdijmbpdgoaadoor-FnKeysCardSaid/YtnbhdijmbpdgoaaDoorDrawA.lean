/-
  Proved: the contracts of the reference's further draws: bytes, numbers, words, one of a list of strings. Only the range of what is drawn is said. Conditions: the pointer's block is a cursor over bytes of an older block.
  By an AI agent; no person has read it.
-/
import Derived.Test.YtnbhdijmbpdgoaaDoorDraw
namespace Go.Proofs.YtnbhdijmbpdgoaaDoor
open Go.RowKit

theorem Cur.blocks {w w' : World} {p : Nat} (h : Cur w p) (hs : w.heap.size ≤ w'.heap.size) (hb : ∀ i, i ≤ p → w'.heap[i]? = w.heap[i]?) : Cur w' p := by
  obtain ⟨A, n, c, l, i, x, ⟨h1, h2, h3, h4⟩, hr1, hA, a, b, d, e, f, g⟩ := h
  have hc : ∀ o, w'.cell? ⟨p, o, none⟩ = w.cell? ⟨p, o, none⟩ := fun o => World.cell?_of_block (hb p (Nat.le_refl _))
  have hf : ∀ o, w'.frozen? ⟨p, o, none⟩ = w.frozen? ⟨p, o, none⟩ := fun o => World.frozen?_of_block (hb p (Nat.le_refl _))
  refine ⟨A, n, c, l, i, x, ⟨Nat.lt_of_lt_of_le h1 hs, h2, h3, h4⟩, ⟨hr1.1, fun h0 => ?_⟩, hA, by rw [hc]; exact a, by rw [hc]; exact b, by rw [hc]; exact d, by rw [hf]; exact e, by rw [hf]; exact f, by rw [hf]; exact g⟩
  obtain ⟨b2, o2, e2, hlt, hcl⟩ := hr1.2 h0
  have hb2 := hA _ e2 h0
  exact ⟨b2, o2, e2, Nat.lt_of_lt_of_le hlt hs, fun j u hu => (World.cell?_of_block (hb b2 (Nat.le_of_lt hb2))).trans (hcl j u hu)⟩
theorem Cur.belowB {w w' : World} {p B : Nat} (h : Cur w p) (hb : Below B w w') (hp : p < B) : Cur w' p := h.blocks hb.size (fun i hi => hb.block i (by omega))
theorem only_below {w wr w2 : World} {row : Option Nat} (h : w.grownBy wr row) (hb : Below w.heap.size wr w2) : w.grownBy w2 row :=
  ⟨hb.os.trans h.os, hb.tape.trans h.tape, hb.output.trans h.output, Nat.le_trans h.size hb.size, fun i hi hne => (hb.block i hi).trans (h.block i hi hne)⟩
theorem rd_lit (w : World) (xs : List Value) (t : TypeId) : Rd (w.alloc (.cells xs.toArray t)) 1 (some ⟨w.heap.size, 0, none⟩) xs.length xs :=
  ⟨by omega, fun _ => ⟨_, _, rfl, by simp, fun j u hu => by
    have hh : (w.alloc (.cells xs.toArray t)).heap[w.heap.size]? = some (.cells xs.toArray t (0, 0)) := heap_alloc_new w _
    rw [Nat.zero_add, cell_of_row _ _ j _ t (0, 0) hh]
    simpa using hu⟩⟩
theorem lit_ne {w : World} {p : Nat} (h : p < w.heap.size) : ∀ ad, some (⟨w.heap.size, 0, none⟩ : Addr) = some ad → ad.block ≠ p := by
  intro ad e
  injection e with e
  rw [← e]
  show w.heap.size ≠ p
  omega
theorem al' {w : World} (o : Obj) : Below w.heap.size w (w.alloc o) := (Below.refl _ _).alloc (Nat.le_refl _) o
def i64R (x : Int) : Prop := -9223372036854775808 ≤ x ∧ x ≤ 9223372036854775807
/-- A draw of bytes. -/
def DBs (w : World) (p : Nat) (P : List UInt8 → Prop) (e : Ending) (w' : World) : Prop :=
  ∃ A n c l, e = .returned (.slice A n c) ∧ w'.ownsRow w.heap.size 5 1 (.slice A n c) n (l.map bv) ∧ P l ∧ Cur w' p ∧ w.grownBy w' (some p)
/-- A draw of ints. -/
def DIs (w : World) (p : Nat) (P : List Int → Prop) (e : Ending) (w' : World) : Prop :=
  ∃ A n c l, e = .returned (.slice A n c) ∧ w'.ownsRow w.heap.size 3 1 (.slice A n c) n (l.map iv) ∧ P l ∧ Cur w' p ∧ w.grownBy w' (some p)

/-- What the laws' function 'at' gives: a byte of the code, or a number in its place. -/
def atF (l : List UInt8) (i : Nat) : Int := match l[i]? with
  | some x => (x.toNat : Int)
  | none => ((i : Int) * 31 + (l.length : Int) * 7) % 256
theorem atF_rng (l : List UInt8) (i : Nat) : 0 ≤ atF l i ∧ atF l i ≤ 255 := by
  unfold atF
  split
  · rename_i x _
    have := byte_lt x
    omega
  · omega
theorem l1Str_any (p : Nat) (A : Option Addr) (n c : Nat) (l : List ByteArray) (w : World) (h1 : 1 ≤ n) (h2 : n ≤ 1099511627776) (hr : Rd w 1 A n (l.map Value.string)) (hne : ∀ ad, A = some ad → ad.block ≠ p) (hc : Cur w p) :
    Calls Tryd.prog 44 #[.pointer (some ⟨p, 0, none⟩), .slice A n c] w (DS w p fun x => x ∈ l) := by
  go_enter Tryd.func44, Tryd.ntmps44
  go_wp2_with fail
  refine (l1Below_any p n _ (by omega) (by omega) hc).mono ?_
  rintro e w1 ⟨x, rfl, hx, c1, g1⟩
  obtain ⟨k, rfl⟩ : ∃ k : Nat, x = (k : Int) := ⟨x.toNat, by omega⟩
  have hk : k < n := by omega
  obtain ⟨b, o, u, rfl, _, hu, hcy⟩ := (hr.grown g1 (fun ad e e2 => hne ad e (by injection e2 with e2; exact e2.symm))).at1 hk
  rw [List.getElem?_map, Option.map_eq_some_iff] at hu
  obtain ⟨y, hy, rfl⟩ := hu
  have hm := List.mem_of_getElem? hy
  clear hy
  go_wp2
  go_ret
  exact ⟨_, rfl, hm, c1, g1⟩

theorem l1Odd_any (p : Nat) (w : World) (hc : Cur w p) : Calls Tryd.prog 76 #[.pointer (some ⟨p, 0, none⟩)] w (DI w p i64R) := by
  have hp := hc.lt
  go_enter Tryd.func76, Tryd.ntmps76
  go_wp2_with fail
  refine (l1Int_any p _ 14 14 [-1, 0, 1, 2, 255, 256, 65535, 2147483647, 2147483648, 4294967295, 4294967296, -2147483648, 9223372036854775807, -9223372036854775808] _ (by decide) (by decide) (rd_lit w _ _) (lit_ne hp) (hc.below (al' _))).mono ?_
  rintro e w1 ⟨x, rfl, hx, c1, g1⟩
  go_wp2
  go_ret
  exact ⟨x, rfl, (by unfold i64R; decide : ∀ x ∈ [-1, 0, 1, 2, 255, 256, 65535, 2147483647, 2147483648, 4294967295, 4294967296, -2147483648, 9223372036854775807, (-9223372036854775808 : Int)], i64R x) x hx, c1, only_trans (only_alloc (World.grownBy.refl _ _) _) g1⟩

theorem l1Raw_any (p : Nat) (w : World) (hc : Cur w p) : Calls Tryd.prog 66 #[.pointer (some ⟨p, 0, none⟩)] w (DI w p i64R) := by
  go_enter Tryd.func66, Tryd.ntmps66
  go_wp2_with fail
  refine (l1Once_any p 2 _ (by omega) (by omega) hc).mono ?_
  rintro e w1 ⟨b, rfl, c1, g1⟩
  have hp := c1.lt
  cases b
  · go_wp2_with fail
    refine (l1Int_any p _ 3 3 [-1, 1000000000000, 1000000000001] _ (by decide) (by decide) (rd_lit w1 _ _) (lit_ne hp) (c1.below (al' _))).mono ?_
    rintro e w2 ⟨x, rfl, hx, c2, g2⟩
    go_wp2
    go_ret
    exact ⟨x, rfl, (by unfold i64R; decide : ∀ x ∈ [-1, 1000000000000, (1000000000001 : Int)], i64R x) x hx, c2, only_trans g1 (only_trans (only_alloc (World.grownBy.refl _ _) _) g2)⟩
  · go_wp2_with fail
    refine (l1Odd_any p _ c1).mono ?_
    rintro e w2 ⟨x, rfl, hx, c2, g2⟩
    go_wp2
    go_ret
    exact ⟨x, rfl, hx, c2, only_trans g1 g2⟩

theorem l1Num_any (p : Nat) (w : World) (hc : Cur w p) : Calls Tryd.prog 51 #[.pointer (some ⟨p, 0, none⟩)] w (DI w p i64R) := by
  go_enter Tryd.func51, Tryd.ntmps51
  go_wp2_with fail
  refine (l1Below_any p 4 _ (by omega) (by omega) hc).mono ?_
  rintro e w1 ⟨x, rfl, hx, c1, g1⟩
  have hp := c1.lt
  rcases (by omega : x = 0 ∨ x = 1 ∨ x = 2 ∨ x = 3) with rfl | rfl | rfl | rfl
  · go_wp2_with fail
    refine (l1Below_any p 2000 _ (by omega) (by omega) c1).mono ?_
    rintro e w2 ⟨x, rfl, hx, c2, g2⟩
    go_wp2
    go_ret
    exact ⟨x, rfl, by unfold i64R; omega, c2, only_trans g1 g2⟩
  · go_wp2_with fail
    refine (l1Int_any p _ 7 7 [0, 1, 127, 128, 2147483646, 2147483647, 1000000000000] _ (by decide) (by decide) (rd_lit w1 _ _) (lit_ne hp) (c1.below (al' _))).mono ?_
    rintro e w2 ⟨x, rfl, hx, c2, g2⟩
    go_wp2
    go_ret
    exact ⟨x, rfl, (by unfold i64R; decide : ∀ x ∈ [0, 1, 127, 128, 2147483646, 2147483647, (1000000000000 : Int)], i64R x) x hx, c2, only_trans g1 (only_trans (only_alloc (World.grownBy.refl _ _) _) g2)⟩
  · go_wp2_with fail
    refine (l1Below_any p 1000000 _ (by omega) (by omega) c1).mono ?_
    rintro e w2 ⟨x, rfl, hx, c2, g2⟩
    go_wp2_with fail
    refine (l1Below_any p 1000000 _ (by omega) (by omega) c2).mono ?_
    rintro e w3 ⟨y, rfl, hy, c3, g3⟩
    go_wp2
    go_ret
    exact ⟨_, rfl, w64_rng _, c3, only_trans g1 (only_trans g2 g3)⟩
  · go_wp2_with fail
    refine (l1Below_any p 20 _ (by omega) (by omega) c1).mono ?_
    rintro e w2 ⟨x, rfl, hx, c2, g2⟩
    go_wp2
    go_ret
    exact ⟨x, rfl, by unfold i64R; omega, c2, only_trans g1 g2⟩

theorem l1One_any (p : Nat) (w : World) (hc : Cur w p) : Calls Tryd.prog 52 #[.pointer (some ⟨p, 0, none⟩)] w (DI w p i64R) := by
  go_enter Tryd.func52, Tryd.ntmps52
  go_wp2_with fail
  refine (l1Once_any p 6 _ (by omega) (by omega) hc).mono ?_
  rintro e w1 ⟨b, rfl, c1, g1⟩
  cases b
  · go_wp2_with fail
    refine (l1Num_any p _ c1).mono ?_
    rintro e w2 ⟨x, rfl, hx, c2, g2⟩
    go_wp2
    go_ret
    exact ⟨x, rfl, hx, c2, only_trans g1 g2⟩
  · go_wp2_with fail
    refine (l1Raw_any p _ c1).mono ?_
    rintro e w2 ⟨x, rfl, hx, c2, g2⟩
    go_wp2
    go_ret
    exact ⟨x, rfl, hx, c2, only_trans g1 g2⟩

/-- The range of a word. -/
def wordR (x : Int) : Prop := -1 ≤ x ∧ x ≤ 2147483648000
/-- What a draw of an int and a row of bytes hands back; of a row of bytes and an int; and so on. -/
def DrIB (w : World) (P : Int → Prop) (Q : List UInt8 → Prop) (e : Ending) (w' : World) : Prop :=
  ∃ x A n c l, e = .returned (.tuple #[.int .i64 x, .slice A n c]) ∧ w'.ownsRow w.heap.size 5 1 (.slice A n c) n (l.map bv) ∧ P x ∧ Q l ∧ Below w.heap.size w w'
def DrII (w : World) (P : Int → Prop) (Q : List Int → Prop) (e : Ending) (w' : World) : Prop :=
  ∃ x A n c l, e = .returned (.tuple #[.int .i64 x, .slice A n c]) ∧ w'.ownsRow w.heap.size 3 1 (.slice A n c) n (l.map iv) ∧ P x ∧ Q l ∧ Below w.heap.size w w'
def DrIS (w : World) (P : Int → Prop) (Q : ByteArray → Prop) (e : Ending) (w' : World) : Prop :=
  ∃ x s, e = .returned (.tuple #[.int .i64 x, .string s]) ∧ P x ∧ Q s ∧ Below w.heap.size w w'
def DrBI (w : World) (P : List UInt8 → Prop) (Q : Int → Prop) (e : Ending) (w' : World) : Prop :=
  ∃ A n c l x, e = .returned (.tuple #[.slice A n c, .int .i64 x]) ∧ w'.ownsRow w.heap.size 5 1 (.slice A n c) n (l.map bv) ∧ P l ∧ Q x ∧ Below w.heap.size w w'
def DrBB (w : World) (P Q : List UInt8 → Prop) (e : Ending) (w' : World) : Prop :=
  ∃ A n c l A2 n2 c2 l2, e = .returned (.tuple #[.slice A n c, .slice A2 n2 c2]) ∧ w'.ownsRow w.heap.size 5 1 (.slice A n c) n (l.map bv) ∧ w'.ownsRow w.heap.size 5 1 (.slice A2 n2 c2) n2 (l2.map bv) ∧ P l ∧ Q l2 ∧ Below w.heap.size w w'
theorem own_onlyB {w w' : World} {base p : Nat} {e : TypeId} {size : Nat} {A : Option Addr} {n c : Nat} {xs : List Value} (h : w.ownsRow base e size (.slice A n c) n xs) (hg : w.grownBy w' (some p)) (hne : ∀ ad, A = some ad → ad.block ≠ p) : w'.ownsRow base e size (.slice A n c) n xs :=
  own_grown h hg (fun ad ha e2 => hne ad ha (by injection e2 with e2; exact e2.symm))

end Go.Proofs.YtnbhdijmbpdgoaaDoor
