/-
  Proved: the contracts of the reference's draws of keys and ranges. Only what is needed of what is drawn is said. Conditions: the pointer's block is a cursor over bytes of an older block.
  By an AI agent; no person has read it.
-/
import Derived.Test.YtbbngihmjdndoaaDrawA
import Derived.Test.YtbbngihmjdndoaaKeyC
namespace Go.Proofs.Ytbbngihmjdndoaa
open Go.RowKit
set_option linter.unusedSimpArgs false

/-- A draw of a key. -/
def DK (w : World) (p : Nat) (P : Int → Int → ByteArray → Prop) (e : Ending) (w' : World) : Prop :=
  ∃ k n s, e = .returned (.agg #[.int .i64 k, .int .i64 n, .string s]) ∧ P k n s ∧ Cur w' p ∧ w.grownBy w' (some p)
theorem rd_lit2 (w : World) (H : Nat) (xs : List Value) (t : TypeId) (hH : w.heap.size = H) : Rd (w.alloc (.cells xs.toArray t)) 1 (some ⟨H, 0, none⟩) xs.length xs := by
  subst hH
  exact rd_lit w xs t
theorem lit_ne2 {H p : Nat} (h : p < H) : ∀ ad, some (⟨H, 0, none⟩ : Addr) = some ad → ad.block ≠ p := by
  intro ad e
  injection e with e
  rw [← e]
  show H ≠ p
  omega
/-- Three cells of block b, to be written. -/
def RB (w : World) (b : Nat) (x y z : Value) : Prop := (w.cell? ⟨b, 0, none⟩ = some x ∧ w.cell? ⟨b, 1, none⟩ = some y ∧ w.cell? ⟨b, 2, none⟩ = some z) ∧ w.frozen? ⟨b, 0, none⟩ = false ∧ w.frozen? ⟨b, 1, none⟩ = false ∧ w.frozen? ⟨b, 2, none⟩ = false
theorem RB.lt {w : World} {b : Nat} {x y z : Value} (h : RB w b x y z) : b < w.heap.size := World.block_lt_of_cell? w _ h.1.1
theorem RB.grown {w w' : World} {b p : Nat} {x y z : Value} (h : RB w b x y z) (hg : w.grownBy w' (some p)) (hne : b ≠ p) : RB w' b x y z := by
  have hb : w'.heap[b]? = w.heap[b]? := hg.block b h.lt (fun e => hne (by injection e))
  have hc : ∀ o, w'.cell? ⟨b, o, none⟩ = w.cell? ⟨b, o, none⟩ := fun o => World.cell?_of_block hb
  have hf : ∀ o, w'.frozen? ⟨b, o, none⟩ = w.frozen? ⟨b, o, none⟩ := fun o => World.frozen?_of_block hb
  obtain ⟨⟨a0, a1, a2⟩, f0, f1, f2⟩ := h
  exact ⟨⟨(hc 0).trans a0, (hc 1).trans a1, (hc 2).trans a2⟩, (hf 0).trans f0, (hf 1).trans f1, (hf 2).trans f2⟩
theorem RB.new (w : World) (x y z : Value) (t : TypeId) : RB (w.alloc (.cells #[x, y, z] t)) w.heap.size x y z := ⟨⟨by simp, by simp, by simp⟩, by simp, by simp, by simp⟩
theorem RB.alloc {w : World} {b : Nat} {x y z : Value} (h : RB w b x y z) (o : Obj) : RB (w.alloc o) b x y z :=
  h.grown (p := w.heap.size) (only_alloc (World.grownBy.refl w _) o) (by have := h.lt; omega)
/-- The result is stored. -/
theorem res3 {w w1 : World} {p : Nat} {x y z : Value} (hc : Cur w1 p) (hg : w.grownBy w1 (some p)) (hp : p < w.heap.size) :
    Cur (((w1.setCell ⟨w.heap.size, 0, none⟩ x).setCell ⟨w.heap.size, 1, none⟩ y).setCell ⟨w.heap.size, 2, none⟩ z) p ∧ w.grownBy (((w1.setCell ⟨w.heap.size, 0, none⟩ x).setCell ⟨w.heap.size, 1, none⟩ y).setCell ⟨w.heap.size, 2, none⟩ z) (some p) := by
  have h : ∀ (W : World) (o : Nat) (v : Value), Cur W p → Cur (W.setCell ⟨w.heap.size, o, none⟩ v) p := fun W o v h => h.grown (row := some w.heap.size) (only_setCell (World.grownBy.refl W _) (.inl rfl) v) (fun k e => by injection e with e; omega)
  have k : ∀ (W : World) (o : Nat) (v : Value), w.grownBy W (some p) → w.grownBy (W.setCell ⟨w.heap.size, o, none⟩ v) (some p) := fun W o v h => only_setCell h (.inr (Nat.le_refl _)) v
  exact ⟨h _ _ _ (h _ _ _ (h _ _ _ hc)), k _ _ _ (k _ _ _ (k _ _ _ hg))⟩

/-- The texts that are drawn. -/
def kTexts : List ByteArray := [⟨#[]⟩, ⟨#[97]⟩, ⟨#[97, 98]⟩, ⟨#[98]⟩, ⟨#[122, 57]⟩, ⟨#[97, 98, 99, 100, 101, 102, 103, 104, 105, 106, 107, 108]⟩]
theorem kTexts_ok : ∀ s ∈ kTexts, textB s.data.toList = true := by decide

theorem keyB_num {n : Int} (h1 : -1000000000000 ≤ n) (h2 : n ≤ 1000000000000) : keyB 1 n ⟨#[]⟩ = true := by
  have e : inR n (-1000000000000) 1000000000000 = true := inR_true h1 h2
  unfold keyB
  rw [e]
  rfl
theorem keyB_pair {n : Int} {s : ByteArray} (h1 : -1000000000000 ≤ n) (h2 : n ≤ 1000000000000) (h3 : textB s.data.toList = true) : keyB 3 n s = true := by
  have e : inR n (-1000000000000) 1000000000000 = true := inR_true h1 h2
  unfold keyB
  rw [e, h3]
  rfl
theorem keyB_text {s : ByteArray} (h3 : textB s.data.toList = true) : keyB 2 0 s = true := by
  unfold keyB
  rw [h3]
  rfl
/-- What is needed of any key that is drawn. -/
def anyK (k n : Int) (s : ByteArray) : Prop := (-4 ≤ k ∧ k ≤ 5) ∧ (-1000000000001 ≤ n ∧ n ≤ 1000000000001) ∧ s.size ≤ 13
theorem anyK_of {k n : Int} {s : ByteArray} (h : keyB k n s = true) : anyK k n s := by
  obtain ⟨h1, h2, _, _, _⟩ := keyB_parts h
  have h3 := keyB_len h
  exact ⟨by omega, by omega, by omega⟩
/-- A cell is stored in a row that is not the cursor. -/
theorem cur_set {w : World} {p b o : Nat} {v : Value} (h : Cur w p) (hb : p < b) : Cur (w.setCell ⟨b, o, none⟩ v) p := h.grown (row := some b) (only_setCell (World.grownBy.refl w _) (.inl rfl) v) (fun k e => by injection e with e; omega)
theorem gro_set {a w : World} {p b o : Nat} {v : Value} (h : a.grownBy w (some p)) (hb : a.heap.size ≤ b) : a.grownBy (w.setCell ⟨b, o, none⟩ v) (some p) := only_setCell h (.inr hb) v

end Go.Proofs.Ytbbngihmjdndoaa
