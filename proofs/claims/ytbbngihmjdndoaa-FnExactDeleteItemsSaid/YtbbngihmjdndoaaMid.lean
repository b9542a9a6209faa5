/-
  Proved: a frame that leaves all blocks outside a range as they were, and what lies outside the range under it. Conditions: those that each statement names.
  By an AI agent; no person has read it.
-/
import Derived.Test.YtbbngihmjdndoaaItQ
import Derived.Test.YtbbngihmjdndoaaFldM
namespace Go.Proofs.Ytbbngihmjdndoaa
open Go.RowKit

/-- A row's block bears the row's element type: a block of another type is another block. -/
theorem own_ne_type2 {w : World} {base : Nat} {e e2 : TypeId} {size : Nat} {A : Option Addr} {n c b : Nat} {xs : List Value} {cs : Array Value} {fr : Nat × Nat} (h : w.ownsRow base e size (.slice A n c) n xs) (hb : w.heap[b]? = some (.cells cs e2 fr)) (hne : e ≠ e2) : ∀ ad, A = some ad → ad.block ≠ b := by
  rintro ad rfl rfl
  rcases h.2 with ⟨hv, _⟩ | ⟨g', cap, cur, hv, hg, hh, _⟩
  · cases hv
  · injection hv with e1 e2 e3
    injection e1 with e1
    subst e1
    rw [hh] at hb
    injection hb with hb
    injection hb with _ h2 _
    exact hne h2
/-- What was there outside the blocks of [lo, hi) is as it was. -/
structure Mid (lo hi : Nat) (w w' : World) : Prop where
  os : w'.os = w.os
  tape : w'.tape = w.tape
  output : w'.output = w.output
  size : w.heap.size ≤ w'.heap.size
  block : ∀ k, k < w.heap.size → k < lo ∨ hi ≤ k → w'.heap[k]? = w.heap[k]?
theorem Mid.refl (lo hi : Nat) (w : World) : Mid lo hi w w := ⟨rfl, rfl, rfl, Nat.le_refl _, fun _ _ _ => rfl⟩
theorem Mid.trans {lo hi : Nat} {a b c : World} (h : Mid lo hi a b) (k : Mid lo hi b c) : Mid lo hi a c :=
  ⟨k.os.trans h.os, k.tape.trans h.tape, k.output.trans h.output, Nat.le_trans h.size k.size, fun i hi ho => (k.block i (Nat.lt_of_lt_of_le hi h.size) ho).trans (h.block i hi ho)⟩
theorem Mid.of_below {lo hi : Nat} {w w' : World} (h : Below w.heap.size w w') : Mid lo hi w w' := ⟨h.os, h.tape, h.output, h.size, fun k hk _ => h.block k hk⟩
theorem Mid.of_grown {lo hi : Nat} {w w' : World} {A : Option Addr} (h : w.grownBy w' (A.map (·.block))) (hA : ∀ ad, A = some ad → lo ≤ ad.block ∧ ad.block < hi) : Mid lo hi w w' :=
  ⟨h.os, h.tape, h.output, h.size, fun k hk ho => h.block k hk (fun e => by
    cases A with
    | none => cases e
    | some ad =>
      have := hA ad rfl
      simp only [Option.map_some, Option.some.injEq] at e
      omega)⟩
theorem Mid.set {lo hi : Nat} {a w : World} (h : Mid lo hi a w) {p : Addr} (h1 : lo ≤ p.block) (h2 : p.block < hi) (v : Value) : Mid lo hi a (w.setCell p v) :=
  h.trans ⟨rfl, rfl, rfl, by simp [World.setCell], fun k _ ho => Below.heap_setCell _ _ _ _ (by omega)⟩
theorem Mid.toBelow {lo hi base : Nat} {w w' : World} (h : Mid lo hi w w') (h1 : base ≤ lo) (h2 : base ≤ w.heap.size) : Below base w w' := ⟨h.os, h.tape, h.output, h.size, fun k hk => h.block k (by omega) (.inl (by omega))⟩
theorem Mid.own {lo hi : Nat} {w w' : World} (hm : Mid lo hi w w') {base : Nat} {e : TypeId} {size : Nat} {A : Option Addr} {n c : Nat} {xs : List Value} (h : w.ownsRow base e size (.slice A n c) n xs) (hs : ∀ ad, A = some ad → ad.block < lo ∨ hi ≤ ad.block) : w'.ownsRow base e size (.slice A n c) n xs := by
  refine ⟨h.1, ?_⟩
  rcases h.2 with h2 | ⟨g, cap, cur, hv, hgb, hh, r⟩
  · exact .inl h2
  · injection hv with hA
    refine .inr ⟨g, cap, cur, by rw [hA]; simp_all, hgb, ?_, r⟩
    rw [hm.block g (Array.getElem?_eq_some_iff.1 hh).1 (hs _ hA)]
    exact hh
theorem Mid.cell {lo hi : Nat} {w w' : World} (hm : Mid lo hi w w') {b o : Nat} {v : Value} (h : w.cell? ⟨b, o, none⟩ = some v) (hs : b < lo ∨ hi ≤ b) : w'.cell? ⟨b, o, none⟩ = some v :=
  (World.cell?_of_block (hm.block b (World.block_lt_of_cell? w _ h) hs)).trans h
/-- The blocks of items' rows lie in [lo, hi). -/
def RgI (A : Option Addr) (l : List Itm) (lo hi : Nat) : Prop := (∀ ad, A = some ad → lo ≤ ad.block ∧ ad.block < hi) ∧ ∀ x ∈ l, ∀ ad, x.A = some ad → lo ≤ ad.block ∧ ad.block < hi
theorem OwnI.rng {w : World} {base : Nat} {A : Option Addr} {n c : Nat} {l : List Itm} (h : OwnI w base A n c l) : RgI A l base w.heap.size := ⟨own_rng h.1, fun x hx => own_rng (h.2.1 x hx)⟩
theorem OwnI.mid {lo hi lo' hi' : Nat} {w w' : World} {base : Nat} {A : Option Addr} {n c : Nat} {l : List Itm} (h : OwnI w base A n c l) (hm : Mid lo hi w w') (r : RgI A l lo' hi') (hs : hi' ≤ lo ∨ hi ≤ lo') : OwnI w' base A n c l :=
  ⟨hm.own h.1 (fun ad e => by have := r.1 ad e; omega), fun x hx => hm.own (h.2.1 x hx) (fun ad e => by have := r.2 x hx ad e; omega), h.2.2⟩

/-- Items marked from k on, and where the count then stands. -/
def mkI : Nat → List Itm → List Itm
  | _, [] => []
  | k, x :: l => Itm.mk (k : Int) ((k + 1 : Nat) : Int) (mtxt (k + 2)) x.A x.m x.c (marksF (k + 3) x.m) :: mkI (k + 3 + 2 * x.m) l
def mkN : Nat → List Itm → Nat
  | k, [] => k
  | k, x :: l => mkN (k + 3 + 2 * x.m) l
theorem mkN_ge (l : List Itm) : ∀ k, k ≤ mkN k l := by
  induction l with
  | nil => exact fun k => Nat.le_refl _
  | cons x l ih =>
    intro k
    have := ih (k + 3 + 2 * x.m)
    simp only [mkN]
    omega
theorem mkN_take (l : List Itm) : ∀ k j, mkN k (l.take j) ≤ mkN k l := by
  induction l with
  | nil => intro k j; simp
  | cons x l ih =>
    intro k j
    cases j with
    | zero => exact mkN_ge _ _
    | succ j => exact ih _ j
theorem mkN_snoc (l : List Itm) (x : Itm) : ∀ k, mkN k (l ++ [x]) = mkN k l + 3 + 2 * x.m := by
  induction l with
  | nil => exact fun k => rfl
  | cons y l ih => exact fun k => ih _
theorem mkI_snoc (l : List Itm) (x : Itm) : ∀ k, mkI k (l ++ [x]) = mkI k l ++ [Itm.mk (mkN k l : Int) ((mkN k l + 1 : Nat) : Int) (mtxt (mkN k l + 2)) x.A x.m x.c (marksF (mkN k l + 3) x.m)] := by
  induction l with
  | nil => exact fun k => rfl
  | cons y l ih =>
    intro k
    simp only [List.cons_append, mkI, mkN, ih]
theorem mkI_len (l : List Itm) : ∀ k, (mkI k l).length = l.length := by
  induction l with
  | nil => exact fun k => rfl
  | cons y l ih => intro k; simp only [mkI, List.length_cons, ih]
theorem mkI_at (l : List Itm) : ∀ (k j : Nat) (x : Itm), l[j]? = some x → (mkI k l)[j]? = some (Itm.mk (mkN k (l.take j) : Int) ((mkN k (l.take j) + 1 : Nat) : Int) (mtxt (mkN k (l.take j) + 2)) x.A x.m x.c (marksF (mkN k (l.take j) + 3) x.m)) := by
  induction l with
  | nil => intro k j x h; simp at h
  | cons y l ih =>
    intro k j x h
    cases j with
    | zero =>
      simp at h
      subst h
      rfl
    | succ j =>
      rw [List.getElem?_cons_succ] at h
      exact ih _ j x h
theorem mkN_le (l : List Itm) : ∀ k, (∀ x ∈ l, x.fs.length = x.m) → mkN k l ≤ k + 3 * l.length + 2 * sumL (l.map Itm.l) := by
  induction l with
  | nil => intro k _; simp [mkN]
  | cons x l ih =>
    intro k h
    have h1 := h x List.mem_cons_self
    have h2 := ih (k + 3 + 2 * x.m) (fun y hy => h y (List.mem_cons_of_mem _ hy))
    have h3 : sumL ((x :: l).map Itm.l) = sizeL x.l + sumL (l.map Itm.l) := rfl
    have h4 : sizeL x.l = x.s.size + (x.fs.length + sumF x.fs) := rfl
    simp only [mkN, List.length_cons]
    omega
end Go.Proofs.Ytbbngihmjdndoaa
