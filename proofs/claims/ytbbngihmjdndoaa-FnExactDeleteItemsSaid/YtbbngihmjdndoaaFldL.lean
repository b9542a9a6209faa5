/-
  Proved: the contracts of the laws' own functions on fields and records (size, copy, comparison). Conditions: the slices read as lists.
  By an AI agent; no person has read it.
-/
import Derived.Test.YtbbngihmjdndoaaFld
import Derived.Test.YtbbngihmjdndoaaStep
import Derived.Deep.QuietTactic
import Derived.BigQuiet
import Derived.WalkLawsBesides
import Derived.Outline
namespace Go.Proofs.Ytbbngihmjdndoaa
open Go.RowKit

theorem szField_ok (s : ByteArray) (x q : Int) (w : World) (hs : s.size ≤ 9223372036854775807) (h0 : 0 ≤ q) (hq : q ≤ 1048576) (h : (s.size : Int) ≤ q) :
    Calls Try.prog 130 #[.agg #[.string s, .int .i64 x], .int .i64 q] w fun e w' => e = .returned (.int .i64 (q - s.size)) ∧ Below w.heap.size w w' := by
  go_enter Try.func130, Try.ntmps130
  go_wp2
  go_ret
  exact ⟨rfl, al (Below.refl _ _)⟩
theorem szField_big (s : ByteArray) (x q : Int) (w : World) (hs : s.size ≤ 9223372036854775807) (h0 : 0 ≤ q) (hq : q ≤ 1048576) (h : q < (s.size : Int)) :
    Calls Try.prog 130 #[.agg #[.string s, .int .i64 x], .int .i64 q] w fun e w' => e = .returned (.int .i64 (-1)) ∧ Below w.heap.size w w' := by
  go_enter Try.func130, Try.ntmps130
  go_wp2
  go_ret
  exact ⟨rfl, al (Below.refl _ _)⟩

/-- The sum of the texts' lengths. -/
def sumF (l : List Fld) : Nat := l.foldr (fun f n => f.1.size + n) 0
theorem sumF_snoc (l : List Fld) (f : Fld) : sumF (l ++ [f]) = sumF l + f.1.size := by
  induction l with
  | nil => simp [sumF]
  | cons g l ih =>
    simp only [sumF, List.cons_append, List.foldr_cons] at ih ⊢
    omega
theorem sumF_take (l : List Fld) (k : Nat) : sumF (l.take k) ≤ sumF l := by
  have h : ∀ a b : List Fld, sumF a ≤ sumF (a ++ b) := by
    intro a b
    induction a with
    | nil => simp [sumF]
    | cons g a ih =>
      simp only [sumF, List.cons_append, List.foldr_cons] at ih ⊢
      omega
  have := h (l.take k) (l.drop k)
  rwa [List.take_append_drop] at this

set_option maxRecDepth 100000 in
theorem szFieldS_ok (A : Option Addr) (n c : Nat) (l : List Fld) (q : Int) (w : World) (hn : n ≤ maxLen) (hq : q ≤ 1048576) (ha : Rd w 2 A n (fl l)) (hok : okF l) (h : (n : Int) + sumF l ≤ q) :
    Calls Try.prog 73 #[.slice A n c, .int .i64 q] w fun e w' => e = .returned (.int .i64 (q - n - sumF l)) ∧ Below w.heap.size w w' := by
  unfold maxLen at hn
  have la := Lib.hid ha.lenF
  have HH := Lib.hid h
  have hq0 : (n : Int) ≤ q := by omega
  clear h
  go_enter Try.func73, Try.ntmps73
  go_wp2
  go_loopw [1, 5] (fun v i wr => ∃ (k : Nat) (t : Int), k ≤ n ∧ i = .int .i64 k ∧ v = .int .i64 t ∧ t = q - n - sumF (l.take k) ∧ Below w.heap.size w wr) (fun _ i _ => n - (intOf i).toNat)
  case atStart => exact ⟨0, q - n, Nat.zero_le _, rfl, rfl, by simp [sumF], Below.refl _ _⟩
  case round =>
    obtain ⟨k, t, hk, rfl, rfl, ht, hbel⟩ := hrel
    have hts : 0 ≤ t ∧ t ≤ 1048576 := by have h1 := sumF_take l k; have h2 := HH.out; omega
    have HT := Lib.hid ht
    clear ht
    by_cases hlt : k < n
    · obtain ⟨b, o, s, x, rfl, _hb, hx, hc0, hc1⟩ := (ha.below hbel).fld hlt
      have hsn : sumF (l.take (k + 1)) = sumF (l.take k) + s.size := by rw [take_snoc hx, sumF_snoc]
      have hst := sumF_take l (k + 1)
      have hs := (hok _ (List.mem_of_getElem? hx)).1
      unfold maxLen at hs
      have hsq : (s.size : Int) ≤ t := by have h2 := HH.out; have h3 := HT.out; omega
      have HSN := Lib.hid hsn
      clear hsn hst hx
      go_wp2_with fail
      refine (szField_ok s x t _ hs hts.1 hts.2 hsq).mono ?_
      rintro e w1 ⟨rfl, b1⟩
      have B1 := hbel.trans (b1.mono hbel.size)
      go_wp2
      go_roundw
      case rel => exact ⟨k + 1, _, by omega, by go_num, rfl, by have h1 := HSN.out; have h2 := HT.out; omega, B1⟩
      case measure => simp [intOf]; omega
    · obtain rfl : k = n := by omega
      have HF : Hid (q - k - sumF l = t) := by
        have h1 := HT.out
        rw [List.take_of_length_le (Nat.le_of_eq la.out)] at h1
        exact h1.symm
      go_wp2
      go_ret
      exact ⟨ret_int HF.out, hbel⟩

set_option maxRecDepth 100000 in
theorem szFieldS_big (A : Option Addr) (n c : Nat) (l : List Fld) (q : Int) (w : World) (hn : n ≤ maxLen) (h0 : 0 ≤ q) (hq : q ≤ 1048576) (ha : Rd w 2 A n (fl l)) (hok : okF l) (h : q < (n : Int) + sumF l) :
    Calls Try.prog 73 #[.slice A n c, .int .i64 q] w fun e w' => e = .returned (.int .i64 (-1)) ∧ Below w.heap.size w w' := by
  unfold maxLen at hn
  have la := Lib.hid ha.lenF
  have HH := Lib.hid h
  clear h
  by_cases hq0 : q < (n : Int)
  · go_enter Try.func73, Try.ntmps73
    go_wp2
    go_ret
    exact ⟨rfl, Below.refl _ _⟩
  have hq1 : (n : Int) ≤ q := by omega
  clear hq0
  go_enter Try.func73, Try.ntmps73
  go_wp2
  go_loopw [1, 5] (fun v i wr => ∃ (k : Nat) (t : Int), k ≤ n ∧ i = .int .i64 k ∧ v = .int .i64 t ∧ (t = q - n - sumF (l.take k) ∧ 0 ≤ t) ∧ Below w.heap.size w wr) (fun _ i _ => n - (intOf i).toNat)
  case atStart => exact ⟨0, q - n, Nat.zero_le _, rfl, rfl, ⟨by simp [sumF], by omega⟩, Below.refl _ _⟩
  case round =>
    obtain ⟨k, t, hk, rfl, rfl, ⟨ht, ht0⟩, hbel⟩ := hrel
    have hts : t ≤ 1048576 := by omega
    have HT := Lib.hid ht
    clear ht
    by_cases hlt : k < n
    · obtain ⟨b, o, s, x, rfl, _hb, hx, hc0, hc1⟩ := (ha.below hbel).fld hlt
      have hsn : sumF (l.take (k + 1)) = sumF (l.take k) + s.size := by rw [take_snoc hx, sumF_snoc]
      have hs := (hok _ (List.mem_of_getElem? hx)).1
      unfold maxLen at hs
      have HSN := Lib.hid hsn
      clear hsn hx
      by_cases hsq : (s.size : Int) ≤ t
      · go_wp2_with fail
        refine (szField_ok s x t _ hs ht0 hts hsq).mono ?_
        rintro e w1 ⟨rfl, b1⟩
        have B1 := hbel.trans (b1.mono hbel.size)
        go_wp2
        go_roundw
        case rel => exact ⟨k + 1, _, by omega, by go_num, rfl, ⟨by have h1 := HSN.out; have h2 := HT.out; omega, by omega⟩, B1⟩
        case measure => simp [intOf]; omega
      · have hsq2 : t < (s.size : Int) := by omega
        go_wp2_with fail
        refine (szField_big s x t _ hs ht0 hts hsq2).mono ?_
        rintro e w1 ⟨rfl, b1⟩
        have B1 := hbel.trans (b1.mono hbel.size)
        go_wp2
        go_ret
        exact ⟨rfl, B1⟩
    · obtain rfl : k = n := by omega
      exfalso
      have h1 := HT.out
      have h2 := HH.out
      rw [List.take_of_length_le (Nat.le_of_eq la.out)] at h1
      omega

theorem szRecord_ok (A : Option Addr) (n c : Nat) (l : List Fld) (q : Int) (w : World) (hn : n ≤ maxLen) (hq : q ≤ 1048576) (ha : Rd w 2 A n (fl l)) (hok : okF l) (h : (n : Int) + sumF l ≤ q) :
    Calls Try.prog 19 #[.agg #[.slice A n c], .int .i64 q] w fun e w' => e = .returned (.int .i64 (q - n - sumF l)) ∧ Below w.heap.size w w' := by
  have hr : 0 ≤ q - n - sumF l := by omega
  go_enter Try.func19, Try.ntmps19
  go_wp2_with fail
  refine (szFieldS_ok A n c l q _ hn hq (ha.alloc _) hok h).mono ?_
  rintro e w1 ⟨rfl, b1⟩
  go_wp2
  go_ret
  exact ⟨rfl, Below.trans (al (Below.refl _ _)) (b1.mono (by simp))⟩
theorem szRecord_big (A : Option Addr) (n c : Nat) (l : List Fld) (q : Int) (w : World) (hn : n ≤ maxLen) (h0 : 0 ≤ q) (hq : q ≤ 1048576) (ha : Rd w 2 A n (fl l)) (hok : okF l) (h : q < (n : Int) + sumF l) :
    Calls Try.prog 19 #[.agg #[.slice A n c], .int .i64 q] w fun e w' => e = .returned (.int .i64 (-1)) ∧ Below w.heap.size w w' := by
  go_enter Try.func19, Try.ntmps19
  go_wp2_with fail
  refine (szFieldS_big A n c l q _ hn h0 hq (ha.alloc _) hok h).mono ?_
  rintro e w1 ⟨rfl, b1⟩
  go_wp2
  go_ret
  exact ⟨rfl, Below.trans (al (Below.refl _ _)) (b1.mono (by simp))⟩

theorem infoF : (Try.prog.info? 91).map (fun i => (i.zero, i.size, i.bytes)) = some (some (.agg #[.string ⟨#[]⟩, .int .i64 0]), 2, 24) := by kernel_rfl
/-- The call makes a slice of fields that reads as l; what was there stands. -/
def MkF (w : World) (l : List Fld) (e : Ending) (w' : World) : Prop := ∃ A n c, e = .returned (.slice A n c) ∧ w'.ownsRow w.heap.size 91 2 (.slice A n c) n (fl l) ∧ Below w.heap.size w w'
/-- The same, as a record. -/
def MkR (w : World) (l : List Fld) (e : Ending) (w' : World) : Prop := ∃ A n c, e = .returned (.agg #[.slice A n c]) ∧ w'.ownsRow w.heap.size 91 2 (.slice A n c) n (fl l) ∧ Below w.heap.size w w'

theorem toField_eq (s : ByteArray) (x : Int) (w : World) :
    Calls Try.prog 132 #[.agg #[.string s, .int .i64 x]] w fun e w' => e = .returned (.agg #[.string s, .int .i64 x]) ∧ w' = ((w.alloc (.cells #[.string s, .int .i64 x] 140)).alloc (.cells #[.string s, .int .i64 x] 91)).alloc (.cells #[.string s, .int .i64 x] 91) := by
  go_enter Try.func132, Try.ntmps132
  go_wp2
  exact bodyPost_ret (v := .agg #[.string s, .int .i64 x]) (by simp [results, Try.results132, go_sem]) rfl ⟨rfl, rfl⟩
theorem toField_any (s : ByteArray) (x : Int) (w : World) :
    Calls Try.prog 132 #[.agg #[.string s, .int .i64 x]] w fun e w' => e = .returned (.agg #[.string s, .int .i64 x]) ∧ Below w.heap.size w w' :=
  (toField_eq s x w).mono fun _ _ ⟨he, hw⟩ => ⟨he, by rw [hw]; exact al (al (al (Below.refl _ _)))⟩

theorem set_take {l : List Value} {j : Nat} {u : Value} {k : Nat} (h : k ≤ j) : (l.set j u).take k = l.take k := by
  rw [List.take_set_of_le h]
theorem take_two {cur : List Value} {k : Nat} {u v : Value} (h : k * 2 + 1 < cur.length) : ((cur.set (k * 2) u).set (k * 2 + 1) v).take ((k + 1) * 2) = cur.take (k * 2) ++ [u, v] := by
  rw [show (k + 1) * 2 = k * 2 + 1 + 1 by omega, List.take_add_one, List.take_add_one, List.take_set_of_le (by omega), List.take_set_of_le (by omega), List.getElem?_set_ne (by omega), List.getElem?_set_self (by omega), List.getElem?_set_self (by simp; omega)]
  simp
theorem fl_take (l : List Fld) (k : Nat) : fl (l.take k) = (fl l).take (k * 2) := by
  induction l generalizing k with
  | nil => simp [fl]
  | cons f l ih =>
    cases k with
    | zero => simp [fl]
    | succ k =>
      rw [List.take_succ_cons, fl_cons, fl_cons, show (k + 1) * 2 = k * 2 + 1 + 1 by omega, List.take_succ_cons, List.take_succ_cons, ih]
theorem fl_copy {cur : List Value} {l : List Fld} {n k : Nat} {s : ByteArray} {x : Int} (hn : cur.length = n * 2) (hk : k < n) (hx : l[k]? = some (s, x)) (h : cur.take (k * 2) = fl (l.take k)) :
    ((cur.set (k * 2) (.string s)).set (k * 2 + 1) (.int .i64 x)).take ((k + 1) * 2) = fl (l.take (k + 1)) := by
  rw [take_two (by omega), h, take_snoc hx, fl_append]
  rfl

set_option maxRecDepth 100000 in
theorem toFieldS_any (A : Option Addr) (n c : Nat) (l : List Fld) (w : World) (hn : n ≤ 1099511627776) (ha : Rd w 2 A n (fl l)) :
    Calls Try.prog 76 #[.slice A n c] w (MkF w l) := by
  obtain ⟨i0, hi, hz0, hz1, hz2⟩ := info_parts infoF
  have la := Lib.hid ha.lenF
  go_enter Try.func76, Try.ntmps76
  go_wp2_with (at_make; refine wpList_make_full _ rfl _ _ 26 rfl w.heap.size 91 i0 (.agg #[.string ⟨#[]⟩, .int .i64 0]) 2 Try.underlying26 hi hz0 hz1 _ _ _ _ n rfl rfl rfl rfl ?c1 ?c2 ?c3 ?_)
  case c1 => rw [hz2]; omega
  case c2 => unfold maxLen; omega
  case c3 => exact Nat.le_refl _
  intro w1 hown hgrow
  have hb1 : Below w.heap.size w w1 := (Below.refl _ _).grown hgrow (Nat.le_refl _) (fun k h => by cases h)
  clear hgrow
  go_wp2
  go_loopw [4] (fun i wr => ∃ (k : Nat) (cur : List Value), k ≤ n ∧ i = .int .i64 k ∧ wr.ownsRow w.heap.size 91 2 (.slice (some ⟨w.heap.size, 0, none⟩) n n) n cur ∧ cur.take (k * 2) = fl (l.take k) ∧ Below w.heap.size w wr) (fun i _ => n - (intOf i).toNat)
  case atStart => exact ⟨0, _, Nat.zero_le _, rfl, hown, rfl, hb1⟩
  case round =>
    obtain ⟨k, cur, hk, rfl, hownr, heq, hbel⟩ := hrel
    clear hown hb1
    have HE := Lib.hid heq
    clear heq
    have hlen : cur.length = n * 2 := hownr.1
    by_cases hlt : k < n
    · obtain ⟨b, o, s, x, rfl, _hb, hx, hc0, hc1⟩ := (ha.below hbel).fld hlt
      have HX := Lib.hid hx
      clear hx
      go_wp2_with fail
      refine (toField_any s x _).mono ?_
      rintro e w2 ⟨rfl, b2⟩
      have o2 := own_below hownr b2
      have B2 := hbel.trans (b2.mono hbel.size)
      clear hownr b2
      obtain ⟨u0, hu0⟩ : ∃ u, cur[k * 2]? = some u := ⟨cur[k * 2]'(by omega), List.getElem?_eq_getElem (by omega)⟩
      obtain ⟨u1, hu1⟩ : ∃ u, cur[k * 2 + 1]? = some u := ⟨cur[k * 2 + 1]'(by omega), List.getElem?_eq_getElem (by omega)⟩
      have d0 : w2.cell? ⟨w.heap.size, k * 2, none⟩ = some u0 := by rw [o2.cellAt (k * 2) (by omega), hu0]
      have d1 : w2.cell? ⟨w.heap.size, k * 2 + 1, none⟩ = some u1 := by rw [o2.cellAt (k * 2 + 1) (by omega), hu1]
      have f0 := o2.frozenAt (k * 2)
      have f1 := o2.frozenAt (k * 2 + 1)
      have hst := ((o2.stored (k * 2) (.string s)).1.stored (k * 2 + 1) (.int .i64 x)).1
      have HS := Lib.hid (fl_copy hlen hlt HX.out HE.out)
      have hbs : Below w.heap.size w ((w2.setCell ⟨w.heap.size, k * 2, none⟩ (.string s)).setCell ⟨w.heap.size, k * 2 + 1, none⟩ (.int .i64 x)) := (B2.setCell (Nat.le_refl _) _).setCell (Nat.le_refl _) _
      clear hlen hu0 hu1
      go_wp2
      go_roundw
      case rel => exact ⟨k + 1, _, by omega, by go_num, hst, HS.out, hbs⟩
      case measure => simp [intOf]; omega
    · obtain rfl : k = n := by omega
      have hall : cur = fl l := by
        have := HE.out
        rwa [List.take_of_length_le (Nat.le_of_eq hlen), List.take_of_length_le (Nat.le_of_eq la.out)] at this
      subst hall
      clear hlen
      go_wp2
      go_ret
      exact ⟨_, _, _, rfl, hownr, hbel⟩

set_option maxRecDepth 100000 in
theorem toRecord_any (A : Option Addr) (n c : Nat) (l : List Fld) (w : World) (hn : n ≤ 1099511627776) (ha : Rd w 2 A n (fl l)) :
    Calls Try.prog 21 #[.agg #[.slice A n c]] w (MkR w l) := by
  go_enter Try.func21, Try.ntmps21
  go_wp2_with fail
  refine (toFieldS_any A n c l _ hn (((ha.alloc _).alloc _).alloc _)).mono ?_
  rintro e w1 ⟨A1, n1, c1, rfl, o1, b1⟩
  have hz : w.heap.size + 2 < w1.heap.size := by have := b1.size; simp at this; omega
  have B1 : Below w.heap.size w w1 := Below.trans (al (al (al (Below.refl _ _)))) (b1.mono (by simp; omega))
  have o1' := own_base o1 (base' := w.heap.size + 3) (by simp)
  have d0 : w1.cell? ⟨w.heap.size + 1, 0, none⟩ = some (.slice none 0 0) := kcell b1 (by simp [go_sem])
  have d1 : w1.cell? ⟨w.heap.size + 1 + 1, 0, none⟩ = some (.slice none 0 0) := kcell b1 (by simp [go_sem])
  have f0 : w1.frozen? ⟨w.heap.size + 1, 0, none⟩ = false := (b1.frozen (by simp; try omega)).trans (by simp [go_sem])
  have f1 : w1.frozen? ⟨w.heap.size + 1 + 1, 0, none⟩ = false := (b1.frozen (by simp; try omega)).trans (by simp [go_sem])
  have O2 : Hid (((w1.setCell ⟨w.heap.size + 1 + 1, 0, none⟩ (.slice A1 n1 c1)).setCell ⟨w.heap.size + 1, 0, none⟩ (.slice A1 n1 c1)).ownsRow w.heap.size 91 2 (.slice A1 n1 c1) n1 (fl l)) :=
    own_base (ownsRow_setCell_below (ownsRow_setCell_below o1' (a := ⟨w.heap.size + 1 + 1, 0, none⟩) (by simp) _) (a := ⟨w.heap.size + 1, 0, none⟩) (by simp) _) (by omega)
  have B2 : Hid (Below w.heap.size w ((w1.setCell ⟨w.heap.size + 1 + 1, 0, none⟩ (.slice A1 n1 c1)).setCell ⟨w.heap.size + 1, 0, none⟩ (.slice A1 n1 c1))) := (B1.setCell (p := ⟨w.heap.size + 1 + 1, 0, none⟩) (by simp; omega) _).setCell (p := ⟨w.heap.size + 1, 0, none⟩) (by simp) _
  clear b1 B1 o1 o1'
  go_wp2
  exact bodyPost_ret (v := .agg #[.slice A1 n1 c1]) (by simp [results, Try.results21, go_sem, d0]) rfl ⟨_, _, _, rfl, O2.out, B2.out⟩

theorem eqField_same (s : ByteArray) (x : Int) (w : World) :
    Calls Try.prog 135 #[.agg #[.string s, .int .i64 x], .agg #[.string s, .int .i64 x]] w fun e w' => e = .returned (.bool true) ∧ Below w.heap.size w w' := by
  go_enter Try.func135, Try.ntmps135
  go_wp2
  go_ret
  exact ⟨rfl, al (al (Below.refl _ _))⟩

set_option maxRecDepth 100000 in
theorem eqFieldS_same (A B : Option Addr) (n m c d : Nat) (l : List Fld) (w : World) (hn : n ≤ maxLen) (ha : Rd w 2 A n (fl l)) (hb : Rd w 2 B m (fl l)) :
    Calls Try.prog 80 #[.slice A n c, .slice B m d] w fun e w' => e = .returned (.bool true) ∧ Below w.heap.size w w' := by
  unfold maxLen at hn
  obtain rfl : n = m := by have := ha.lenF; have := hb.lenF; omega
  go_enter Try.func80, Try.ntmps80
  go_wp2
  go_loopw [5] (fun i wr => ∃ (k : Nat), k ≤ n ∧ i = .int .i64 k ∧ Below w.heap.size w wr) (fun i _ => n - (intOf i).toNat)
  case atStart => exact ⟨0, Nat.zero_le _, rfl, Below.refl _ _⟩
  case round =>
    obtain ⟨k, hk, rfl, hbel⟩ := hrel
    by_cases hlt : k < n
    · obtain ⟨b, o, s, x, rfl, _hb1, hx, hc0, hc1⟩ := (ha.below hbel).fld hlt
      obtain ⟨b2, o2, s2, x2, rfl, _hb2, hx2, hd0, hd1⟩ := (hb.below hbel).fld hlt
      rw [hx] at hx2
      obtain ⟨rfl, rfl⟩ : s = s2 ∧ x = x2 := by simpa using hx2
      have i0 : (0 : Int) ≤ (k : Int) := by omega
      have i1 : (k : Int) < (n : Int) := by omega
      clear hx hx2
      go_wp2
      go_region_held3 (fun W => Below w.heap.size w W ∧ W.cell? ⟨b, o + k * 2, none⟩ = some (.string s) ∧ W.cell? ⟨b, o + k * 2 + 1, none⟩ = some (.int .i64 x) ∧ W.cell? ⟨b2, o2 + k * 2, none⟩ = some (.string s) ∧ W.cell? ⟨b2, o2 + k * 2 + 1, none⟩ = some (.int .i64 x))
        (first | assumption | (refine sz4 ?_ hq rfl; assumption) | exact ⟨hbel.drew, hc0, hc1, hd0, hd1⟩)
        (first
          | (go_at_call 135; refine (eqField_same s x _).mono ?_; rintro e W1 ⟨rfl, hq⟩))
      obtain ⟨BZ, _⟩ := ‹Below w.heap.size w _ ∧ _›
      go_wp2
      go_roundw
      case rel => exact ⟨k + 1, by omega, by go_num, BZ⟩
      case measure => simp [intOf]; omega
    · obtain rfl : k = n := by omega
      go_wp2
      go_ret
      exact ⟨rfl, hbel⟩

theorem eqRecord_same (A B : Option Addr) (n m c d : Nat) (l : List Fld) (w : World) (hn : n ≤ maxLen) (ha : Rd w 2 A n (fl l)) (hb : Rd w 2 B m (fl l)) :
    Calls Try.prog 23 #[.agg #[.slice A n c], .agg #[.slice B m d]] w fun e w' => e = .returned (.bool true) ∧ Below w.heap.size w w' := by
  go_enter Try.func23, Try.ntmps23
  go_wp2_with fail
  refine (eqFieldS_same A B n m c d l _ hn ((ha.alloc _).alloc _) ((hb.alloc _).alloc _)).mono ?_
  rintro e w1 ⟨rfl, b1⟩
  go_wp2
  go_ret
  exact ⟨rfl, Below.trans (al (al (Below.refl _ _))) (b1.mono (by simp; omega))⟩
end Go.Proofs.Ytbbngihmjdndoaa
