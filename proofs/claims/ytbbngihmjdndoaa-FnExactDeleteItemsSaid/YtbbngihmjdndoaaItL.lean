/-
  Proved: the contracts of the laws' own functions on items and stores (size, copy, comparison). Conditions: the slices read as lists.
  By an AI agent; no person has read it.
-/
import Derived.Test.YtbbngihmjdndoaaIt
import Derived.Test.YtbbngihmjdndoaaFldL
import Derived.Test.YtbbngihmjdndoaaKeyL
namespace Go.Proofs.Ytbbngihmjdndoaa
open Go.RowKit

/-- What an item weighs; the sum over a list. -/
def sizeL (x : LIt) : Nat := x.2.2.1.size + (x.2.2.2.length + sumF x.2.2.2)
def sumL (l : List LIt) : Nat := l.foldr (fun x n => sizeL x + n) 0
theorem sumL_snoc (l : List LIt) (x : LIt) : sumL (l ++ [x]) = sumL l + sizeL x := by
  induction l with
  | nil => simp [sumL]
  | cons g l ih =>
    simp only [sumL, List.cons_append, List.foldr_cons] at ih ⊢
    omega
theorem sumL_take (l : List LIt) (k : Nat) : sumL (l.take k) ≤ sumL l := by
  have h : ∀ a b : List LIt, sumL a ≤ sumL (a ++ b) := by
    intro a b
    induction a with
    | nil => simp [sumL]
    | cons g a ih =>
      simp only [sumL, List.cons_append, List.foldr_cons] at ih ⊢
      omega
  have := h (l.take k) (l.drop k)
  rwa [List.take_append_drop] at this
theorem sumL_mem {l : List LIt} {x : LIt} (h : x ∈ l) : sizeL x ≤ sumL l := by
  induction l with
  | nil => cases h
  | cons g l ih =>
    simp only [sumL, List.foldr_cons] at ih ⊢
    rcases List.mem_cons.1 h with rfl | h
    · omega
    · have := ih h
      omega
theorem map_get {l : List Itm} {j : Nat} {x : Itm} (hx : l[j]? = some x) : (l.map Itm.l)[j]? = some x.l := by
  rw [List.getElem?_map, hx]
  rfl

set_option maxRecDepth 100000 in
theorem szItem_ok (x : Itm) (q : Int) (w : World) (hs : x.s.size ≤ maxLen) (hn : x.m ≤ maxLen) (h0 : 0 ≤ q) (hq : q ≤ 1048576) (ha : Rd w 2 x.A x.m (fl x.fs)) (hok : okF x.fs) (h : (sizeL x.l : Int) ≤ q) :
    Calls Try.prog 139 #[.agg #[.int .i64 x.k, .int .i64 x.n, .string x.s, .slice x.A x.m x.c], .int .i64 q] w fun e w' => e = .returned (.int .i64 (q - sizeL x.l)) ∧ Below w.heap.size w w' := by
  have hl := ha.lenF
  have hsz : sizeL x.l = x.s.size + (x.m + sumF x.fs) := by unfold sizeL Itm.l; rw [hl]
  have HS := Lib.hid hsz
  rw [hsz] at h
  unfold maxLen at hs
  have hr : 0 ≤ q - x.s.size - x.m - sumF x.fs := by omega
  clear hsz hl
  go_enter Try.func139, Try.ntmps139
  go_wp2_with fail
  refine (szKey_okB x.k x.n x.s q _ hs h0 hq (by omega)).mono ?_
  rintro e w1 ⟨rfl, b1⟩
  have B1 : Below w.heap.size w w1 := Below.trans (al (Below.refl _ _)) (b1.mono (by simp))
  have d3 : w1.cell? ⟨w.heap.size, 3, none⟩ = some (.slice x.A x.m x.c) := kcell b1 (by simp)
  clear b1
  go_wp2_with fail
  refine (szRecord_ok x.A x.m x.c x.fs (q - x.s.size) _ hn (by omega) (ha.below B1) hok (by omega)).mono ?_
  rintro e w2 ⟨rfl, b2⟩
  have B2 := B1.trans (b2.mono B1.size)
  clear b2
  go_wp2
  go_ret
  exact ⟨ret_int (by have := HS.out; omega), B2⟩
set_option maxRecDepth 100000 in
theorem szItem_big (x : Itm) (q : Int) (w : World) (hs : x.s.size ≤ maxLen) (hn : x.m ≤ maxLen) (h0 : 0 ≤ q) (hq : q ≤ 1048576) (ha : Rd w 2 x.A x.m (fl x.fs)) (hok : okF x.fs) (h : q < (sizeL x.l : Int)) :
    Calls Try.prog 139 #[.agg #[.int .i64 x.k, .int .i64 x.n, .string x.s, .slice x.A x.m x.c], .int .i64 q] w fun e w' => e = .returned (.int .i64 (-1)) ∧ Below w.heap.size w w' := by
  have hl := ha.lenF
  have hsz : sizeL x.l = x.s.size + (x.m + sumF x.fs) := by unfold sizeL Itm.l; rw [hl]
  rw [hsz] at h
  unfold maxLen at hs
  clear hsz hl
  by_cases h1 : q < (x.s.size : Int)
  · go_enter Try.func139, Try.ntmps139
    go_wp2_with fail
    refine (szKey_big x.k x.n x.s q _ hs h0 hq h1).mono ?_
    rintro e w1 ⟨rfl, rfl⟩
    go_wp2
    go_ret
    exact ⟨rfl, al (al (Below.refl _ _))⟩
  · have h2 : (x.s.size : Int) ≤ q := by omega
    clear h1
    go_enter Try.func139, Try.ntmps139
    go_wp2_with fail
    refine (szKey_okB x.k x.n x.s q _ hs h0 hq h2).mono ?_
    rintro e w1 ⟨rfl, b1⟩
    have B1 : Below w.heap.size w w1 := Below.trans (al (Below.refl _ _)) (b1.mono (by simp))
    have d3 : w1.cell? ⟨w.heap.size, 3, none⟩ = some (.slice x.A x.m x.c) := kcell b1 (by simp)
    clear b1
    go_wp2_with fail
    refine (szRecord_big x.A x.m x.c x.fs (q - x.s.size) _ hn (by omega) (by omega) (ha.below B1) hok (by omega)).mono ?_
    rintro e w2 ⟨rfl, b2⟩
    have B2 := B1.trans (b2.mono B1.size)
    clear b2
    go_wp2
    go_ret
    exact ⟨rfl, B2⟩

set_option maxRecDepth 100000 in
theorem szItemS_ok (A : Option Addr) (n c : Nat) (l : List Itm) (q : Int) (w : World) (hn : n ≤ maxLen) (hq : q ≤ 1048576) (ha : RdI w A n l) (hok : okI (l.map Itm.l)) (h : (n : Int) + sumL (l.map Itm.l) ≤ q) :
    Calls Try.prog 90 #[.slice A n c, .int .i64 q] w fun e w' => e = .returned (.int .i64 (q - n - sumL (l.map Itm.l))) ∧ Below w.heap.size w w' := by
  unfold maxLen at hn
  have la := Lib.hid ha.lenI
  have HH := Lib.hid h
  have hq0 : (n : Int) ≤ q := by omega
  clear h
  go_enter Try.func90, Try.ntmps90
  go_wp2
  go_loopw [1, 5] (fun v i wr => ∃ (k : Nat) (t : Int), k ≤ n ∧ i = .int .i64 k ∧ v = .int .i64 t ∧ t = q - n - sumL ((l.map Itm.l).take k) ∧ Below w.heap.size w wr) (fun _ i _ => n - (intOf i).toNat)
  case atStart => exact ⟨0, q - n, Nat.zero_le _, rfl, rfl, by simp [sumL], Below.refl _ _⟩
  case round =>
    obtain ⟨k, t, hk, rfl, rfl, ht, hbel⟩ := hrel
    have hts : 0 ≤ t ∧ t ≤ 1048576 := by have h1 := sumL_take (l.map Itm.l) k; have h2 := HH.out; omega
    have HT := Lib.hid ht
    clear ht
    by_cases hlt : k < n
    · obtain ⟨b, o, x, rfl, _hb, hx, hc0, hc1, hc2, hc3, hrx⟩ := (ha.below hbel).itm hlt
      have hsn : sumL ((l.map Itm.l).take (k + 1)) = sumL ((l.map Itm.l).take k) + sizeL x.l := by rw [take_snoc (map_get hx), sumL_snoc]
      have hst := sumL_take (l.map Itm.l) (k + 1)
      obtain ⟨-, -, hs, hm, hf⟩ := okI_at hok (List.mem_of_getElem? hx)
      have hxm : x.m ≤ maxLen := by have := hrx.lenF; omega
      have hsq : (sizeL x.l : Int) ≤ t := by have h2 := HH.out; have h3 := HT.out; omega
      have HSN := Lib.hid hsn
      clear hsn hst hx
      go_wp2_with fail
      refine (szItem_ok x t _ hs hxm hts.1 hts.2 hrx hf hsq).mono ?_
      rintro e w1 ⟨rfl, b1⟩
      have B1 := hbel.trans (b1.mono hbel.size)
      go_wp2
      go_roundw
      case rel => exact ⟨k + 1, _, by omega, by go_num, rfl, by have h1 := HSN.out; have h2 := HT.out; omega, B1⟩
      case measure => simp [intOf]; omega
    · obtain rfl : k = n := by omega
      have HF : Hid (q - k - sumL (l.map Itm.l) = t) := by
        have h1 := HT.out
        rw [List.take_of_length_le (by rw [List.length_map]; exact Nat.le_of_eq la.out)] at h1
        exact h1.symm
      go_wp2
      go_ret
      exact ⟨ret_int HF.out, hbel⟩

set_option maxRecDepth 100000 in
theorem szItemS_big (A : Option Addr) (n c : Nat) (l : List Itm) (q : Int) (w : World) (hn : n ≤ maxLen) (h0 : 0 ≤ q) (hq : q ≤ 1048576) (ha : RdI w A n l) (hok : okI (l.map Itm.l)) (h : q < (n : Int) + sumL (l.map Itm.l)) :
    Calls Try.prog 90 #[.slice A n c, .int .i64 q] w fun e w' => e = .returned (.int .i64 (-1)) ∧ Below w.heap.size w w' := by
  unfold maxLen at hn
  have la := Lib.hid ha.lenI
  have HH := Lib.hid h
  clear h
  by_cases hq0 : q < (n : Int)
  · go_enter Try.func90, Try.ntmps90
    go_wp2
    go_ret
    exact ⟨rfl, Below.refl _ _⟩
  have hq1 : (n : Int) ≤ q := by omega
  clear hq0
  go_enter Try.func90, Try.ntmps90
  go_wp2
  go_loopw [1, 5] (fun v i wr => ∃ (k : Nat) (t : Int), k ≤ n ∧ i = .int .i64 k ∧ v = .int .i64 t ∧ (t = q - n - sumL ((l.map Itm.l).take k) ∧ 0 ≤ t) ∧ Below w.heap.size w wr) (fun _ i _ => n - (intOf i).toNat)
  case atStart => exact ⟨0, q - n, Nat.zero_le _, rfl, rfl, ⟨by simp [sumL], by omega⟩, Below.refl _ _⟩
  case round =>
    obtain ⟨k, t, hk, rfl, rfl, ⟨ht, ht0⟩, hbel⟩ := hrel
    have hts : t ≤ 1048576 := by omega
    have HT := Lib.hid ht
    clear ht
    by_cases hlt : k < n
    · obtain ⟨b, o, x, rfl, _hb, hx, hc0, hc1, hc2, hc3, hrx⟩ := (ha.below hbel).itm hlt
      have hsn : sumL ((l.map Itm.l).take (k + 1)) = sumL ((l.map Itm.l).take k) + sizeL x.l := by rw [take_snoc (map_get hx), sumL_snoc]
      obtain ⟨-, -, hs, hm, hf⟩ := okI_at hok (List.mem_of_getElem? hx)
      have hxm : x.m ≤ maxLen := by have := hrx.lenF; omega
      have HSN := Lib.hid hsn
      clear hsn hx
      by_cases hsq : (sizeL x.l : Int) ≤ t
      · go_wp2_with fail
        refine (szItem_ok x t _ hs hxm ht0 hts hrx hf hsq).mono ?_
        rintro e w1 ⟨rfl, b1⟩
        have B1 := hbel.trans (b1.mono hbel.size)
        go_wp2
        go_roundw
        case rel => exact ⟨k + 1, _, by omega, by go_num, rfl, ⟨by have h1 := HSN.out; have h2 := HT.out; omega, by omega⟩, B1⟩
        case measure => simp [intOf]; omega
      · have hsq2 : t < (sizeL x.l : Int) := by omega
        go_wp2_with fail
        refine (szItem_big x t _ hs hxm ht0 hts hrx hf hsq2).mono ?_
        rintro e w1 ⟨rfl, b1⟩
        have B1 := hbel.trans (b1.mono hbel.size)
        go_wp2
        go_ret
        exact ⟨rfl, B1⟩
    · obtain rfl : k = n := by omega
      exfalso
      have h1 := HT.out
      have h2 := HH.out
      rw [List.take_of_length_le (by rw [List.length_map]; exact Nat.le_of_eq la.out)] at h1
      omega

set_option maxRecDepth 100000 in
theorem szStore_ok (s : ByteArray) (A : Option Addr) (n c : Nat) (au : Int) (l : List Itm) (q : Int) (w : World) (hs : s.size ≤ maxLen) (hn : n ≤ maxLen) (h0 : 0 ≤ q) (hq : q ≤ 1048576) (ha : RdI w A n l) (hok : okI (l.map Itm.l)) (h : (s.size : Int) + n + sumL (l.map Itm.l) ≤ q) :
    Calls Try.prog 34 #[.agg #[.string s, .slice A n c, .int .i64 au], .int .i64 q] w fun e w' => e = .returned (.int .i64 (q - s.size - n - sumL (l.map Itm.l))) ∧ Below w.heap.size w w' := by
  have hr : 0 ≤ q - s.size - n - sumL (l.map Itm.l) := by omega
  unfold maxLen at hs
  have h1 : (s.size : Int) ≤ q := by omega
  go_enter Try.func34, Try.ntmps34
  go_wp2_with fail
  refine (szItemS_ok A n c l (q - s.size) _ hn (by omega) (ha.alloc _) hok (by omega)).mono ?_
  rintro e w1 ⟨rfl, b1⟩
  go_wp2
  go_ret
  exact ⟨rfl, Below.trans (al (Below.refl _ _)) (b1.mono (by simp))⟩
set_option maxRecDepth 100000 in
theorem szStore_big (s : ByteArray) (A : Option Addr) (n c : Nat) (au : Int) (l : List Itm) (q : Int) (w : World) (hs : s.size ≤ maxLen) (hn : n ≤ maxLen) (h0 : 0 ≤ q) (hq : q ≤ 1048576) (ha : RdI w A n l) (hok : okI (l.map Itm.l)) (h : q < (s.size : Int) + n + sumL (l.map Itm.l)) :
    Calls Try.prog 34 #[.agg #[.string s, .slice A n c, .int .i64 au], .int .i64 q] w fun e w' => e = .returned (.int .i64 (-1)) ∧ Below w.heap.size w w' := by
  unfold maxLen at hs
  by_cases h1 : q < (s.size : Int)
  · go_enter Try.func34, Try.ntmps34
    go_wp2
    go_ret
    exact ⟨rfl, al (Below.refl _ _)⟩
  · have h2 : (s.size : Int) ≤ q := by omega
    clear h1
    go_enter Try.func34, Try.ntmps34
    go_wp2_with fail
    refine (szItemS_big A n c l (q - s.size) _ hn (by omega) (by omega) (ha.alloc _) hok (by omega)).mono ?_
    rintro e w1 ⟨rfl, b1⟩
    go_wp2
    go_ret
    exact ⟨rfl, Below.trans (al (Below.refl _ _)) (b1.mono (by simp))⟩

/-- The call makes an item; what was there stands. -/
def MkIt (w : World) (k n : Int) (s : ByteArray) (fs : List Fld) (e : Ending) (w' : World) : Prop := ∃ A m c, e = .returned (.agg #[.int .i64 k, .int .i64 n, .string s, .slice A m c]) ∧ w'.ownsRow w.heap.size 91 2 (.slice A m c) m (fl fs) ∧ Below w.heap.size w w'
/-- Rows of fields of the items lie apart. -/
def SepI (l : List Itm) : Prop := l.Pairwise fun x y => ∀ a b, x.A = some a → y.A = some b → a.block ≠ b.block
/-- A slice of items of the run's own, and its items' rows. -/
def OwnI (w : World) (base : Nat) (A : Option Addr) (n c : Nat) (l : List Itm) : Prop :=
  w.ownsRow base 106 4 (.slice A n c) n (itl l) ∧ (∀ x ∈ l, w.ownsRow base 91 2 (.slice x.A x.m x.c) x.m (fl x.fs)) ∧ SepI l
theorem OwnI.rd {w : World} {base : Nat} {A : Option Addr} {n c : Nat} {l : List Itm} (h : OwnI w base A n c l) : RdI w A n l := ⟨Rd.of_own h.1, fun x hx => Rd.of_own (h.2.1 x hx)⟩
theorem OwnI.below {w w' : World} {base : Nat} {A : Option Addr} {n c : Nat} {l : List Itm} (h : OwnI w base A n c l) (hb : Below w.heap.size w w') : OwnI w' base A n c l :=
  ⟨own_below h.1 hb, fun x hx => own_below (h.2.1 x hx) hb, h.2.2⟩
theorem OwnI.base {w : World} {base base' : Nat} {A : Option Addr} {n c : Nat} {l : List Itm} (h : OwnI w base A n c l) (hle : base' ≤ base) : OwnI w base' A n c l :=
  ⟨own_base h.1 hle, fun x hx => own_base (h.2.1 x hx) hle, h.2.2⟩
/-- The call makes a slice of items, a store; what was there stands. -/
def MkIs (w : World) (l : List LIt) (e : Ending) (w' : World) : Prop := ∃ A n c l', e = .returned (.slice A n c) ∧ l'.map Itm.l = l ∧ OwnI w' w.heap.size A n c l' ∧ Below w.heap.size w w'
def MkSt (w : World) (s : ByteArray) (l : List LIt) (au : Int) (e : Ending) (w' : World) : Prop := ∃ A n c l', e = .returned (.agg #[.string s, .slice A n c, .int .i64 au]) ∧ l'.map Itm.l = l ∧ OwnI w' w.heap.size A n c l' ∧ Below w.heap.size w w'
theorem infoIt : (Try.prog.info? 106).map (fun i => (i.zero, i.size, i.bytes)) = some (some (.agg #[.int .i64 0, .int .i64 0, .string ⟨#[]⟩, .slice none 0 0]), 4, 56) := by kernel_rfl

set_option maxRecDepth 100000 in
theorem toItem_any (x : Itm) (w : World) (hn : x.m ≤ 1099511627776) (ha : Rd w 2 x.A x.m (fl x.fs)) :
    Calls Try.prog 140 #[.agg #[.int .i64 x.k, .int .i64 x.n, .string x.s, .slice x.A x.m x.c]] w (MkIt w x.k x.n x.s x.fs) := by
  go_enter Try.func140, Try.ntmps140
  go_wp2_with fail
  refine (toKey_any x.k x.n x.s _).mono ?_
  rintro e w1 ⟨rfl, b1⟩
  have hz : w.heap.size + 2 < w1.heap.size := by have := b1.size; simp at this; omega
  have B1 : Below w.heap.size w w1 := Below.trans (al (al (al (Below.refl _ _)))) (b1.mono (by simp; omega))
  have p3 : w1.cell? ⟨w.heap.size, 3, none⟩ = some (.slice x.A x.m x.c) := kcell b1 (by simp [go_sem])
  have r0 : w1.cell? ⟨w.heap.size + 1, 0, none⟩ = some (.int .i64 0) := kcell b1 (by simp [go_sem])
  have r1 : w1.cell? ⟨w.heap.size + 1, 1, none⟩ = some (.int .i64 0) := kcell b1 (by simp [go_sem])
  have r2 : w1.cell? ⟨w.heap.size + 1, 2, none⟩ = some (.string ⟨#[]⟩) := kcell b1 (by simp [go_sem])
  have r3 : w1.cell? ⟨w.heap.size + 1, 3, none⟩ = some (.slice none 0 0) := kcell b1 (by simp [go_sem])
  have o0 : w1.cell? ⟨w.heap.size + 1 + 1, 0, none⟩ = some (.int .i64 0) := kcell b1 (by simp [go_sem])
  have o1 : w1.cell? ⟨w.heap.size + 1 + 1, 1, none⟩ = some (.int .i64 0) := kcell b1 (by simp [go_sem])
  have o2 : w1.cell? ⟨w.heap.size + 1 + 1, 2, none⟩ = some (.string ⟨#[]⟩) := kcell b1 (by simp [go_sem])
  have o3 : w1.cell? ⟨w.heap.size + 1 + 1, 3, none⟩ = some (.slice none 0 0) := kcell b1 (by simp [go_sem])
  have f0 : ∀ j, w1.frozen? ⟨w.heap.size + 1, j, none⟩ = false := fun j => (b1.frozen (p := ⟨w.heap.size + 1, j, none⟩) (by simp; try omega)).trans (by simp [go_sem])
  have f1 : ∀ j, w1.frozen? ⟨w.heap.size + 1 + 1, j, none⟩ = false := fun j => (b1.frozen (p := ⟨w.heap.size + 1 + 1, j, none⟩) (by simp; try omega)).trans (by simp [go_sem])
  clear b1
  go_wp2_with fail
  obtain ⟨W, hW⟩ : ∃ W, W = ((w1.setCell ⟨w.heap.size + 1 + 1, 0, none⟩ (.int .i64 x.k)).setCell ⟨w.heap.size + 1 + 1, 1, none⟩ (.int .i64 x.n)).setCell ⟨w.heap.size + 1 + 1, 2, none⟩ (.string x.s) := ⟨_, rfl⟩
  have BW : Below w.heap.size w W := by rw [hW]; exact ((B1.setCell (by simp; omega) _).setCell (by simp; omega) _).setCell (by simp; omega) _
  have hz2 : w.heap.size + 2 < W.heap.size := by rw [hW]; simpa using hz
  replace p3 : W.cell? ⟨w.heap.size, 3, none⟩ = some (.slice x.A x.m x.c) := by rw [hW]; simp [go_sem, p3]
  replace r0 : W.cell? ⟨w.heap.size + 1, 0, none⟩ = some (.int .i64 0) := by rw [hW]; simp [go_sem, r0]
  replace r1 : W.cell? ⟨w.heap.size + 1, 1, none⟩ = some (.int .i64 0) := by rw [hW]; simp [go_sem, r1]
  replace r2 : W.cell? ⟨w.heap.size + 1, 2, none⟩ = some (.string ⟨#[]⟩) := by rw [hW]; simp [go_sem, r2]
  replace r3 : W.cell? ⟨w.heap.size + 1, 3, none⟩ = some (.slice none 0 0) := by rw [hW]; simp [go_sem, r3]
  replace o0 : W.cell? ⟨w.heap.size + 1 + 1, 0, none⟩ = some (.int .i64 x.k) := by rw [hW]; simp [go_sem, o0]
  replace o1 : W.cell? ⟨w.heap.size + 1 + 1, 1, none⟩ = some (.int .i64 x.n) := by rw [hW]; simp [go_sem, o1]
  replace o2 : W.cell? ⟨w.heap.size + 1 + 1, 2, none⟩ = some (.string x.s) := by rw [hW]; simp [go_sem, o2]
  replace o3 : W.cell? ⟨w.heap.size + 1 + 1, 3, none⟩ = some (.slice none 0 0) := by rw [hW]; simp [go_sem, o3]
  replace f0 : ∀ j, W.frozen? ⟨w.heap.size + 1, j, none⟩ = false := fun j => by rw [hW]; simp [go_sem, f0]
  replace f1 : ∀ j, W.frozen? ⟨w.heap.size + 1 + 1, j, none⟩ = false := fun j => by rw [hW]; simp [go_sem, f1]
  rw [← hW]
  clear hW B1 hz
  refine (toRecord_any x.A x.m x.c x.fs _ hn (ha.below BW)).mono ?_
  rintro e w2 ⟨A2, n2, c2, rfl, o2', b2⟩
  replace r0 := kcell b2 r0
  replace o0 := kcell b2 o0
  replace r1 := kcell b2 r1
  replace o1 := kcell b2 o1
  replace r2 := kcell b2 r2
  replace o2 := kcell b2 o2
  replace r3 := kcell b2 r3
  replace o3 := kcell b2 o3
  replace f0 : ∀ j, w2.frozen? ⟨w.heap.size + 1, j, none⟩ = false := fun j => (b2.frozen (p := ⟨w.heap.size + 1, j, none⟩) (by simp; omega)).trans (f0 j)
  replace f1 : ∀ j, w2.frozen? ⟨w.heap.size + 1 + 1, j, none⟩ = false := fun j => (b2.frozen (p := ⟨w.heap.size + 1 + 1, j, none⟩) (by simp; omega)).trans (f1 j)
  have O2 : Hid ((((((w2.setCell ⟨w.heap.size + 1 + 1, 3, none⟩ (.slice A2 n2 c2)).setCell ⟨w.heap.size + 1, 0, none⟩ (.int .i64 x.k)).setCell ⟨w.heap.size + 1, 1, none⟩ (.int .i64 x.n)).setCell ⟨w.heap.size + 1, 2, none⟩ (.string x.s)).setCell ⟨w.heap.size + 1, 3, none⟩ (.slice A2 n2 c2)).ownsRow w.heap.size 91 2 (.slice A2 n2 c2) n2 (fl x.fs)) := own_base (ownsRow_setCell_below (ownsRow_setCell_below (ownsRow_setCell_below (ownsRow_setCell_below (ownsRow_setCell_below o2' (a := ⟨w.heap.size + 1 + 1, 3, none⟩) (by simp; omega) _) (a := ⟨w.heap.size + 1, 0, none⟩) (by simp; omega) _) (a := ⟨w.heap.size + 1, 1, none⟩) (by simp; omega) _) (a := ⟨w.heap.size + 1, 2, none⟩) (by simp; omega) _) (a := ⟨w.heap.size + 1, 3, none⟩) (by simp; omega) _) (by omega)
  have B2 : Hid (Below w.heap.size w (((((w2.setCell ⟨w.heap.size + 1 + 1, 3, none⟩ (.slice A2 n2 c2)).setCell ⟨w.heap.size + 1, 0, none⟩ (.int .i64 x.k)).setCell ⟨w.heap.size + 1, 1, none⟩ (.int .i64 x.n)).setCell ⟨w.heap.size + 1, 2, none⟩ (.string x.s)).setCell ⟨w.heap.size + 1, 3, none⟩ (.slice A2 n2 c2))) := (((((BW.trans (b2.mono (by omega))).setCell (p := ⟨w.heap.size + 1 + 1, 3, none⟩) (by simp; omega) _).setCell (p := ⟨w.heap.size + 1, 0, none⟩) (by simp) _).setCell (p := ⟨w.heap.size + 1, 1, none⟩) (by simp) _).setCell (p := ⟨w.heap.size + 1, 2, none⟩) (by simp) _).setCell (p := ⟨w.heap.size + 1, 3, none⟩) (by simp) _
  clear o2' b2 BW
  go_wp2
  exact bodyPost_ret (v := .agg #[.int .i64 x.k, .int .i64 x.n, .string x.s, .slice A2 n2 c2]) (by simp [results, Try.results140, go_sem, r0, r1, r2, r3]) rfl ⟨_, _, _, rfl, O2.out, B2.out⟩

theorem take_four {cur : List Value} {k : Nat} {u v x y : Value} (h : k * 4 + 3 < cur.length) : ((((cur.set (k * 4) u).set (k * 4 + 1) v).set (k * 4 + 2) x).set (k * 4 + 3) y).take ((k + 1) * 4) = cur.take (k * 4) ++ [u, v, x, y] := by
  rw [show (k + 1) * 4 = k * 4 + 1 + 1 + 1 + 1 by omega]
  simp only [List.take_add_one, List.take_set_of_le (show k * 4 ≤ k * 4 from Nat.le_refl _), List.take_set_of_le (show k * 4 ≤ k * 4 + 1 by omega), List.take_set_of_le (show k * 4 ≤ k * 4 + 2 by omega), List.take_set_of_le (show k * 4 ≤ k * 4 + 3 by omega)]
  have e0 : ((((cur.set (k * 4) u).set (k * 4 + 1) v).set (k * 4 + 2) x).set (k * 4 + 3) y)[k * 4]? = some u := by
    rw [List.getElem?_set_ne (by omega), List.getElem?_set_ne (by omega), List.getElem?_set_ne (by omega), List.getElem?_set_self (by omega)]
  have e1 : ((((cur.set (k * 4) u).set (k * 4 + 1) v).set (k * 4 + 2) x).set (k * 4 + 3) y)[k * 4 + 1]? = some v := by
    rw [List.getElem?_set_ne (by omega), List.getElem?_set_ne (by omega), List.getElem?_set_self (by simp; omega)]
  have e2 : ((((cur.set (k * 4) u).set (k * 4 + 1) v).set (k * 4 + 2) x).set (k * 4 + 3) y)[k * 4 + 1 + 1]? = some x := by
    rw [List.getElem?_set_ne (by omega), List.getElem?_set_self (by simp; omega)]
  have e3 : ((((cur.set (k * 4) u).set (k * 4 + 1) v).set (k * 4 + 2) x).set (k * 4 + 3) y)[k * 4 + 1 + 1 + 1]? = some y := by
    rw [List.getElem?_set_self (by simp; omega)]
  rw [e0, e1, e2, e3]
  simp
theorem itl_copy {cur : List Value} {ys : List Itm} {n k : Nat} {x : Itm} {A2 : Option Addr} {n2 c2 : Nat} (hn : cur.length = n * 4) (hk : k < n) (h : cur.take (k * 4) = itl ys) :
    ((((cur.set (k * 4) (.int .i64 x.k)).set (k * 4 + 1) (.int .i64 x.n)).set (k * 4 + 2) (.string x.s)).set (k * 4 + 3) (.slice A2 n2 c2)).take ((k + 1) * 4) = itl (ys ++ [Itm.mk x.k x.n x.s A2 n2 c2 x.fs]) := by
  rw [take_four (by omega), h, itl_append]
  rfl
theorem sepI_snoc {w : World} {e : TypeId} {base base2 : Nat} {ys : List Itm} {y : Itm} (h : SepI ys) (h1 : ∀ x ∈ ys, w.ownsRow base e 2 (.slice x.A x.m x.c) x.m (fl x.fs)) (h2 : ∀ b, y.A = some b → base2 ≤ b.block) (hb : w.heap.size ≤ base2) : SepI (ys ++ [y]) := by
  refine List.pairwise_append.2 ⟨h, List.pairwise_singleton _ _, fun x hx z hz a b ha hb2 => ?_⟩
  obtain rfl : z = y := by simpa using hz
  have := (own_rng (h1 x hx) a ha).2
  have := h2 b hb2
  omega

set_option maxRecDepth 100000 in
set_option maxHeartbeats 1000000 in
theorem toItemS_any (A : Option Addr) (n c : Nat) (l : List Itm) (w : World) (hn : n ≤ 1099511627776) (hm : ∀ x ∈ l, x.m ≤ 1099511627776) (ha : RdI w A n l) :
    Calls Try.prog 91 #[.slice A n c] w (MkIs w (l.map Itm.l)) := by
  obtain ⟨i0, hi, hz0, hz1, hz2⟩ := info_parts infoIt
  have la := Lib.hid ha.lenI
  go_enter Try.func91, Try.ntmps91
  go_wp2_with (at_make; refine wpList_make_full _ rfl _ _ 50 rfl w.heap.size 106 i0 (.agg #[.int .i64 0, .int .i64 0, .string ⟨#[]⟩, .slice none 0 0]) 4 Try.underlying50 hi hz0 hz1 _ _ _ _ n rfl rfl rfl rfl ?c1 ?c2 ?c3 ?_)
  case c1 => rw [hz2]; omega
  case c2 => unfold maxLen; omega
  case c3 => exact Nat.le_refl _
  intro w1 hown hgrow
  have hb1 : Below w.heap.size w w1 := (Below.refl _ _).grown hgrow (Nat.le_refl _) (fun k h => by cases h)
  clear hgrow
  go_wp2
  go_loopw [4] (fun i wr => ∃ (k : Nat) (cur : List Value) (ys : List Itm), k ≤ n ∧ i = .int .i64 k ∧ wr.ownsRow w.heap.size 106 4 (.slice (some ⟨w.heap.size, 0, none⟩) n n) n cur ∧ (cur.take (k * 4) = itl ys ∧ ys.map Itm.l = (l.map Itm.l).take k ∧ SepI ys) ∧ (∀ y ∈ ys, wr.ownsRow (w.heap.size + 1) 91 2 (.slice y.A y.m y.c) y.m (fl y.fs)) ∧ w.heap.size < wr.heap.size ∧ Below w.heap.size w wr) (fun i _ => n - (intOf i).toNat)
  case atStart => exact ⟨0, _, [], Nat.zero_le _, rfl, hown, ⟨rfl, rfl, List.Pairwise.nil⟩, (fun y hy => by cases hy), (own_rng hown _ rfl).2, hb1⟩
  case round =>
    obtain ⟨k, cur, ys, hk, rfl, hownr, hys, hyo, hgz, hbel⟩ := hrel
    clear hown hb1
    have HE := Lib.hid hys
    have HY := Lib.hid hyo
    clear hys hyo
    have hlen : cur.length = n * 4 := hownr.1
    by_cases hlt : k < n
    · obtain ⟨b, o, x, rfl, _hb, hx, hc0, hc1, hc2, hc3, hrx⟩ := (ha.below hbel).itm hlt
      have HX := Lib.hid hx
      have hxm := hm x (List.mem_of_getElem? hx)
      clear hx
      go_wp2_with fail
      refine (toItem_any x _ hxm hrx).mono ?_
      rintro e w2 ⟨A2, n2, c2, rfl, o2x, b2⟩
      have o2 := own_below hownr b2
      have B2 := hbel.trans (b2.mono hbel.size)
      have hgz2 : w.heap.size < w2.heap.size := Nat.lt_of_lt_of_le hgz b2.size
      have HS2 := Lib.hid (itl_copy (x := x) (A2 := A2) (n2 := n2) (c2 := c2) hlen hlt HE.out.1)
      have HM2 : Hid ((ys ++ [Itm.mk x.k x.n x.s A2 n2 c2 x.fs]).map Itm.l = (l.map Itm.l).take (k + 1)) := by
        show (ys ++ [_]).map Itm.l = _
        rw [List.map_append, HE.out.2.1, take_snoc (map_get HX.out)]
        rfl
      have HP2 : Hid (SepI (ys ++ [Itm.mk x.k x.n x.s A2 n2 c2 x.fs])) := sepI_snoc HE.out.2.2 HY.out (fun b hb => (own_rng o2x b hb).1) (Nat.le_refl _)
      have HO2 : Hid (∀ y ∈ ys ++ [Itm.mk x.k x.n x.s A2 n2 c2 x.fs], w2.ownsRow (w.heap.size + 1) 91 2 (.slice y.A y.m y.c) y.m (fl y.fs)) := by
        intro y hy
        rcases List.mem_append.1 hy with h | h
        · exact own_below (HY.out y h) b2
        · have hy2 : y = Itm.mk x.k x.n x.s A2 n2 c2 x.fs := by simpa using h
          subst hy2
          exact own_base o2x (by omega)
      clear hownr b2 o2x
      obtain ⟨u0, hu0⟩ : ∃ u, cur[k * 4]? = some u := ⟨cur[k * 4]'(by omega), List.getElem?_eq_getElem (by omega)⟩
      obtain ⟨u1, hu1⟩ : ∃ u, cur[k * 4 + 1]? = some u := ⟨cur[k * 4 + 1]'(by omega), List.getElem?_eq_getElem (by omega)⟩
      obtain ⟨u2, hu2⟩ : ∃ u, cur[k * 4 + 2]? = some u := ⟨cur[k * 4 + 2]'(by omega), List.getElem?_eq_getElem (by omega)⟩
      obtain ⟨u3, hu3⟩ : ∃ u, cur[k * 4 + 3]? = some u := ⟨cur[k * 4 + 3]'(by omega), List.getElem?_eq_getElem (by omega)⟩
      have d0 : w2.cell? ⟨w.heap.size, k * 4, none⟩ = some u0 := by rw [o2.cellAt (k * 4) (by omega), hu0]
      have d1 : w2.cell? ⟨w.heap.size, k * 4 + 1, none⟩ = some u1 := by rw [o2.cellAt (k * 4 + 1) (by omega), hu1]
      have d2 : w2.cell? ⟨w.heap.size, k * 4 + 2, none⟩ = some u2 := by rw [o2.cellAt (k * 4 + 2) (by omega), hu2]
      have d3 : w2.cell? ⟨w.heap.size, k * 4 + 3, none⟩ = some u3 := by rw [o2.cellAt (k * 4 + 3) (by omega), hu3]
      have f0 := o2.frozenAt (k * 4)
      have f1 := o2.frozenAt (k * 4 + 1)
      have f2 := o2.frozenAt (k * 4 + 2)
      have f3 := o2.frozenAt (k * 4 + 3)
      have hst := ((((o2.stored (k * 4) (.int .i64 x.k)).1.stored (k * 4 + 1) (.int .i64 x.n)).1.stored (k * 4 + 2) (.string x.s)).1.stored (k * 4 + 3) (.slice A2 n2 c2)).1
      have hbs : Below w.heap.size w ((((w2.setCell ⟨w.heap.size, k * 4, none⟩ (.int .i64 x.k)).setCell ⟨w.heap.size, k * 4 + 1, none⟩ (.int .i64 x.n)).setCell ⟨w.heap.size, k * 4 + 2, none⟩ (.string x.s)).setCell ⟨w.heap.size, k * 4 + 3, none⟩ (.slice A2 n2 c2)) := (((B2.setCell (Nat.le_refl _) _).setCell (Nat.le_refl _) _).setCell (Nat.le_refl _) _).setCell (Nat.le_refl _) _
      have HO3 : Hid (∀ y ∈ ys ++ [Itm.mk x.k x.n x.s A2 n2 c2 x.fs], ((((w2.setCell ⟨w.heap.size, k * 4, none⟩ (.int .i64 x.k)).setCell ⟨w.heap.size, k * 4 + 1, none⟩ (.int .i64 x.n)).setCell ⟨w.heap.size, k * 4 + 2, none⟩ (.string x.s)).setCell ⟨w.heap.size, k * 4 + 3, none⟩ (.slice A2 n2 c2)).ownsRow (w.heap.size + 1) 91 2 (.slice y.A y.m y.c) y.m (fl y.fs)) := by
        intro y hy
        exact ownsRow_setCell_below (ownsRow_setCell_below (ownsRow_setCell_below (ownsRow_setCell_below (HO2.out y hy) (a := ⟨w.heap.size, k * 4, none⟩) (by simp) _) (a := ⟨w.heap.size, k * 4 + 1, none⟩) (by simp) _) (a := ⟨w.heap.size, k * 4 + 2, none⟩) (by simp) _) (a := ⟨w.heap.size, k * 4 + 3, none⟩) (by simp) _
      clear hlen hu0 hu1 hu2 hu3
      go_wp2
      go_roundw
      case rel => exact ⟨k + 1, _, _, by omega, by go_num, hst, ⟨HS2.out, HM2.out, HP2.out⟩, HO3.out, by simpa using hgz2, hbs⟩
      case measure => simp [intOf]; omega
    · obtain rfl : k = n := by omega
      have hall : cur = itl ys := by
        have := HE.out.1
        rwa [List.take_of_length_le (Nat.le_of_eq hlen)] at this
      subst hall
      have hms : ys.map Itm.l = l.map Itm.l := by
        have := HE.out.2.1
        rwa [List.take_of_length_le (by rw [List.length_map]; exact Nat.le_of_eq la.out)] at this
      clear hlen
      go_wp2
      go_ret
      exact ⟨_, _, _, ys, rfl, hms, ⟨hownr, fun y hy => own_base (HY.out y hy) (by omega), HE.out.2.2⟩, hbel⟩
end Go.Proofs.Ytbbngihmjdndoaa
