/-
  Proved: the contract of slices.DeleteFunc of items by the test of DeleteItems. Conditions: the row is the run's own; the range's cells lie below it.
  By an AI agent; no person has read it.
-/
import Derived.Test.YtbbngihmjdndoaaItI
import Derived.Test.YtbbngihmjdndoaaOwnR
namespace Go.Proofs.Ytbbngihmjdndoaa
open Go.RowKit
set_option linter.unusedSimpArgs false
set_option linter.unusedVariables false

/-- The cells of a range's block. -/
def RC (w : World) (g : Nat) (a b : Bool) (k1 q1 : Int) (s1 : ByteArray) (k2 q2 : Int) (s2 : ByteArray) : Prop := w.cell? ⟨g, 0, none⟩ = some (.bool a) ∧ w.cell? ⟨g, 1, none⟩ = some (.bool b) ∧ w.cell? ⟨g, 2, none⟩ = some (.int .i64 k1) ∧ w.cell? ⟨g, 3, none⟩ = some (.int .i64 q1) ∧ w.cell? ⟨g, 4, none⟩ = some (.string s1) ∧ w.cell? ⟨g, 5, none⟩ = some (.int .i64 k2) ∧ w.cell? ⟨g, 6, none⟩ = some (.int .i64 q2) ∧ w.cell? ⟨g, 7, none⟩ = some (.string s2)
theorem RC.below {w w' : World} {g : Nat} {a b : Bool} {k1 q1 : Int} {s1 : ByteArray} {k2 q2 : Int} {s2 : ByteArray} (h : RC w g a b k1 q1 s1 k2 q2 s2) (hb : Below w.heap.size w w') : RC w' g a b k1 q1 s1 k2 q2 s2 := by
  obtain ⟨h0, h1, h2, h3, h4, h5, h6, h7⟩ := h
  exact ⟨kcell hb h0, kcell hb h1, kcell hb h2, kcell hb h3, kcell hb h4, kcell hb h5, kcell hb h6, kcell hb h7⟩
theorem RC.grown {w w' : World} {g : Nat} {r : Option Nat} {a b : Bool} {k1 q1 : Int} {s1 : ByteArray} {k2 q2 : Int} {s2 : ByteArray} (h : RC w g a b k1 q1 s1 k2 q2 s2) (hb : w.grownBy w' r) (hne : some g ≠ r) : RC w' g a b k1 q1 s1 k2 q2 s2 := by
  obtain ⟨h0, h1, h2, h3, h4, h5, h6, h7⟩ := h
  exact ⟨hb.cell h0 hne, hb.cell h1 hne, hb.cell h2 hne, hb.cell h3 hne, hb.cell h4 hne, hb.cell h5 hne, hb.cell h6 hne, hb.cell h7 hne⟩
def idxG (p : LIt → Bool) (l : List LIt) : Int := match l.findIdx? p with | some j => (j : Int) | none => -1
theorem findG_next {l : List LIt} {p : LIt → Bool} {j : Nat} {x : LIt} (h : (l.take j).find? p = none) (hx : l[j]? = some x) (hp : p x = false) : (l.take (j + 1)).find? p = none := by
  rw [take_snoc hx, List.find?_append, h]
  simp [hp]
theorem keepG {p : LIt → Bool} {l : List LIt} (h : l.find? p = none) : l.filter (fun x => !p x) = l := by
  rw [List.filter_eq_self]
  intro x hx
  rw [List.find?_eq_none] at h
  have := h x hx
  simpa using this

set_option maxRecDepth 100000 in
theorem closureD_any (x : Itm) (a b : Bool) (k1 q1 : Int) (s1 : ByteArray) (k2 q2 : Int) (s2 : ByteArray) (gb : Nat) (r : Bool) (w : World) (hxs : x.s.size ≤ maxLen) (hs1 : s1.size ≤ maxLen) (hs2 : s2.size ≤ maxLen) (hc : RC w gb a b k1 q1 s1 k2 q2 s2) (hr : r = inL a b k1 q1 s1 k2 q2 s2 x.l) :
    Calls Try.prog 127 #[.agg #[.int .i64 x.k, .int .i64 x.n, .string x.s, .slice x.A x.m x.c], .pointer (some ⟨gb, 0, none⟩)] w fun e w' => e = .returned (.bool r) ∧ Below w.heap.size w w' := by
  have HR := Lib.hid hr
  clear hr
  obtain ⟨h0, h1, h2, h3, h4, h5, h6, h7⟩ := hc.below (al (Below.refl _ _) : Below w.heap.size w (w.alloc (.cells #[.int .i64 x.k, .int .i64 x.n, .string x.s, .slice x.A x.m x.c] 106)))
  go_enter Try.func127, Try.ntmps127
  go_wp2_with fail
  refine (implInRangeOf_any x.k x.n x.s a b k1 q1 s1 k2 q2 s2 r _ hxs hs1 hs2 HR.out).mono ?_
  rintro e w1 ⟨rfl, b1⟩
  have B1 : Below w.heap.size w w1 := Below.trans (al (Below.refl _ _)) (b1.mono (by simp))
  clear b1 h0 h1 h2 h3 h4 h5 h6 h7
  go_wp2
  go_ret
  exact ⟨rfl, B1⟩

/-- What IndexFunc says: nowhere, or the first place. -/
def IdxR (p : LIt → Bool) (L : List LIt) (n : Nat) (z : Int) : Prop := (z = -1 ∧ L.find? p = none) ∨ ∃ j x, z = ((j : Nat) : Int) ∧ j < n ∧ L[j]? = some x ∧ p x = true ∧ (L.take j).find? p = none
set_option maxRecDepth 100000 in
theorem indexFuncD_any (A : Option Addr) (n c : Nat) (l : List Itm) (a b : Bool) (k1 q1 : Int) (s1 : ByteArray) (k2 q2 : Int) (s2 : ByteArray) (gb : Nat) (w : World) (hn : n ≤ 1048576) (ha : RdI w A n l) (hxs : ∀ x ∈ l, x.s.size ≤ maxLen) (hs1 : s1.size ≤ maxLen) (hs2 : s2.size ≤ maxLen) (hc : RC w gb a b k1 q1 s1 k2 q2 s2) :
    Calls Try.prog 92 #[.slice A n c, .func (.func 127) #[] #[.pointer (some ⟨gb, 0, none⟩)]] w fun e w' => ∃ z, e = .returned (.int .i64 z) ∧ IdxR (inL a b k1 q1 s1 k2 q2 s2) (l.map Itm.l) n z ∧ Below w.heap.size w w' := by
  have LX := Lib.hid ha.lenI
  go_enter Try.func92, Try.ntmps92
  go_wp2
  go_loopw [4, 8] (fun _ i wr => ∃ j : Nat, j ≤ n ∧ i = .int .i64 j ∧ ((l.map Itm.l).take j).find? (inL a b k1 q1 s1 k2 q2 s2) = none ∧ Below w.heap.size w wr) (fun _ i _ => n - (intOf i).toNat)
  case atStart => exact ⟨0, Nat.zero_le _, rfl, by simp, Below.refl _ _⟩
  case round =>
    obtain ⟨j, hj, rfl, hf, hbel⟩ := hrel
    have HF := Lib.hid hf
    clear hf
    by_cases hlt : j < n
    · obtain ⟨b1, o, x, rfl, _hb1, hx, hc0, hc1, hc2, hc3, -⟩ := (ha.below hbel).itm hlt
      have i0 : (0 : Int) ≤ (j : Int) := by omega
      have i1 : (j : Int) < (n : Int) := by omega
      have hxz := hxs x (List.mem_of_getElem? hx)
      have hq := hc.below hbel
      cases hs : inL a b k1 q1 s1 k2 q2 s2 x.l
      · have HN := Lib.hid (findG_next HF.out (map_get hx) hs)
        clear hx
        go_wp2_with (go_at_call 127; refine (closureD_any x a b k1 q1 s1 k2 q2 s2 gb false _ hxz hs1 hs2 hq hs.symm).mono ?_; rintro e w1 ⟨rfl, b1⟩)
        go_roundw
        case rel => exact ⟨j + 1, by omega, by go_num, HN.out, hbel.trans (b1.mono hbel.size)⟩
        case measure => simp [intOf]; omega
      · have HX := Lib.hid (map_get hx)
        have HS := Lib.hid hs
        clear hx
        go_wp2_with (go_at_call 127; refine (closureD_any x a b k1 q1 s1 k2 q2 s2 gb true _ hxz hs1 hs2 hq hs.symm).mono ?_; rintro e w1 ⟨rfl, b1⟩)
        go_ret
        exact ⟨_, rfl, .inr ⟨j, _, rfl, hlt, HX.out, HS.out, HF.out⟩, hbel.trans (b1.mono hbel.size)⟩
    · obtain rfl : j = n := by omega
      have HN : Hid ((l.map Itm.l).find? (inL a b k1 q1 s1 k2 q2 s2) = none) := by
        have := HF.out
        rwa [List.take_of_length_le (by rw [List.length_map]; exact Nat.le_of_eq LX.out)] at this
      go_wp2
      go_ret
      exact ⟨_, rfl, .inl ⟨rfl, HN.out⟩, hbel⟩

theorem zeroIt (w : World) : (zeroValue 106).run Try.prog w = .ok (.agg #[.int .i64 0, .int .i64 0, .string ⟨#[]⟩, .slice none 0 0]) w := by kernel_rfl
/-- The items that stay. -/
def stay (p : LIt → Bool) (l : List Itm) : List Itm := l.filter (fun x => !p x.l)
theorem stay_map (p : LIt → Bool) (l : List Itm) : (stay p l).map Itm.l = (l.map Itm.l).filter (fun x => !p x) := by
  unfold stay
  induction l with
  | nil => rfl
  | cons x l ih =>
    rw [List.map_cons, List.filter_cons, List.filter_cons, ← ih]
    split <;> rfl
theorem stay_no {p : LIt → Bool} {l : List Itm} {j : Nat} {x : Itm} (hx : l[j]? = some x) (h : p x.l = true) : stay p (l.take (j + 1)) = stay p (l.take j) := by
  unfold stay
  rw [take_snoc hx, List.filter_append]
  simp [h]
theorem stay_yes {p : LIt → Bool} {l : List Itm} {j : Nat} {x : Itm} (hx : l[j]? = some x) (h : p x.l = false) : stay p (l.take (j + 1)) = stay p (l.take j) ++ [x] := by
  unfold stay
  rw [take_snoc hx, List.filter_append]
  simp [h]
theorem stay_mem {p : LIt → Bool} {l : List Itm} {x : Itm} (h : x ∈ stay p l) : x ∈ l := (List.mem_filter.1 h).1
theorem stay_sep {p : LIt → Bool} {l : List Itm} (h : SepI l) : SepI (stay p l) := List.Pairwise.filter _ h
theorem stay_all {p : LIt → Bool} {l : List Itm} (h : (l.map Itm.l).find? p = none) : stay p l = l := by
  unfold stay
  rw [List.filter_eq_self]
  intro x hx
  rw [List.find?_eq_none] at h
  have := h x.l (List.mem_map.2 ⟨x, hx, rfl⟩)
  simpa using this
theorem stay_take {p : LIt → Bool} {l : List Itm} {j : Nat} (h : ((l.map Itm.l).take j).find? p = none) : stay p (l.take j) = l.take j := stay_all (by rw [List.map_take]; exact h)
theorem drop_itl {cur : List Value} {l : List Itm} {j : Nat} {x : Itm} (h : cur.drop (j * 4) = itl (l.drop j)) (hx : l[j]? = some x) : cur[j * 4]? = some (.int .i64 x.k) ∧ cur[j * 4 + 1]? = some (.int .i64 x.n) ∧ cur[j * 4 + 2]? = some (.string x.s) ∧ cur[j * 4 + 3]? = some (.slice x.A x.m x.c) ∧ cur.drop ((j + 1) * 4) = itl (l.drop (j + 1)) := by
  have hdrop : l.drop j = x :: l.drop (j + 1) := by
    obtain ⟨hj2, rfl⟩ := List.getElem?_eq_some_iff.1 hx
    exact List.drop_eq_getElem_cons hj2
  rw [hdrop, itl_cons] at h
  have key : ∀ t, cur[j * 4 + t]? = (cur.drop (j * 4))[t]? := fun t => by rw [List.getElem?_drop]
  refine ⟨by have := key 0; rw [Nat.add_zero] at this; rw [this, h]; rfl, by rw [key 1, h]; rfl, by rw [key 2, h]; rfl, by rw [key 3, h]; rfl, ?_⟩
  have e : cur.drop ((j + 1) * 4) = (cur.drop (j * 4)).drop 4 := by rw [List.drop_drop]; congr 1; omega
  rw [e, h]
  rfl
theorem set4_drop {cur : List Value} {i j : Nat} {u v x y : Value} (h : i * 4 + 3 < j * 4) : ((((cur.set (i * 4) u).set (i * 4 + 1) v).set (i * 4 + 2) x).set (i * 4 + 3) y).drop (j * 4) = cur.drop (j * 4) := by
  rw [List.drop_set_of_lt (by omega), List.drop_set_of_lt (by omega), List.drop_set_of_lt (by omega), List.drop_set_of_lt (by omega)]

set_option maxRecDepth 100000 in
set_option maxHeartbeats 8000000 in
theorem deleteFunc_any (A : Option Addr) (n c base : Nat) (l : List Itm) (a b : Bool) (k1 q1 : Int) (s1 : ByteArray) (k2 q2 : Int) (s2 : ByteArray) (gb : Nat) (w : World) (hn : n ≤ 1048576) (ho : OwnI w base A n c l) (hxs : ∀ x ∈ l, x.s.size ≤ maxLen) (hs1 : s1.size ≤ maxLen) (hs2 : s2.size ≤ maxLen) (hc : RC w gb a b k1 q1 s1 k2 q2 s2) (hgb : gb < base) :
    Calls Try.prog 126 #[.slice A n c, .func (.func 127) #[] #[.pointer (some ⟨gb, 0, none⟩)]] w fun e w' => ∃ m, e = .returned (.slice A m c) ∧ OwnI w' base A m c (stay (inL a b k1 q1 s1 k2 q2 s2) l) ∧ w.grownBy w' (A.map (·.block)) := by
  have LX := Lib.hid ho.rd.lenI
  have HO := Lib.hid ho
  have HC := Lib.hid hc
  have hcap := own_cap ho.1
  unfold maxLen at hcap
  have hrd := ho.rd
  clear ho hc
  go_enter Try.func126, Try.ntmps126
  go_wp2_with fail
  refine (indexFuncD_any A n c l a b k1 q1 s1 k2 q2 s2 gb _ hn hrd hxs hs1 hs2 HC.out).mono ?_
  rintro e w1 ⟨z, rfl, hz, b1⟩
  rcases hz with ⟨rfl, hno⟩ | ⟨i0, x0, rfl, hi0, hx0, hp0, hf0⟩
  · have HS := Lib.hid (stay_all hno)
    have O1 := Lib.hid (HO.out.below b1)
    have G1 := Lib.hid (grown_of b1 (A.map (·.block)))
    clear hno b1
    go_wp2
    go_ret
    exact ⟨n, rfl, by rw [HS.out]; exact O1.out, G1.out⟩
  · obtain ⟨g, cap, hv, _, hglt⟩ := HO.out.1.form (by omega)
    obtain rfl : A = some ⟨g, 0, none⟩ := by injection hv
    clear hv
    have hxi : ∃ x, l[i0]? = some x ∧ inL a b k1 q1 s1 k2 q2 s2 x.l = true := by
      rw [List.getElem?_map, Option.map_eq_some_iff] at hx0
      obtain ⟨x, hx, rfl⟩ := hx0
      exact ⟨x, hx, hp0⟩
    obtain ⟨xi, hxi, hpi⟩ := hxi
    have HT0 : Hid (stay (inL a b k1 q1 s1 k2 q2 s2) (l.take (i0 + 1)) = l.take i0) := by
      show _ = _
      rw [stay_no hxi hpi, stay_take hf0]
    have O1 := HO.out.below b1
    have HR1 : Hid (w1.ownsRow base 106 4 (.slice (some ⟨g, 0, none⟩) n c) n (itl l)) := O1.1
    have HF1 : Hid (∀ y ∈ l, w1.ownsRow base 91 2 (.slice y.A y.m y.c) y.m (fl y.fs)) := O1.2.1
    have HG1 := Lib.hid (grown_of b1 (some g))
    have HCc : Hid ((itl l).take (i0 * 4) = itl (l.take i0)) := by
      show _ = _
      have e : itl l = itl (l.take i0) ++ itl (l.drop i0) := by rw [← itl_append, List.take_append_drop]
      rw [e, List.take_left' (by rw [itl_len, List.length_take]; have := LX.out; omega)]
    have HCd : Hid ((itl l).drop ((i0 + 1) * 4) = itl (l.drop (i0 + 1))) := by
      show _ = _
      have e : itl l = itl (l.take (i0 + 1)) ++ itl (l.drop (i0 + 1)) := by rw [← itl_append, List.take_append_drop]
      rw [e, List.drop_left' (by rw [itl_len, List.length_take]; have := LX.out; omega)]
    have HL0 : Hid ((l.take i0).length = i0) := Lib.hid (by rw [List.length_take]; have := LX.out; omega)
    have hne : (((i0 : Nat) : Int) == -1) = false := by rw [beq_eq_false_iff_ne]; omega
    clear hx0 hp0 hf0 hxi hpi b1 O1 hrd
    go_wp2
    go_loopw [5, 6, 7] (fun iv jv _ wr => ∃ (i j : Nat) (cur : List Value), i < j ∧ j ≤ n ∧ iv = .int .i64 i ∧ jv = .int .i64 j ∧ wr.ownsRow base 106 4 (.slice (some ⟨g, 0, none⟩) n c) n cur ∧ (cur.take (i * 4) = itl (stay (inL a b k1 q1 s1 k2 q2 s2) (l.take j)) ∧ (stay (inL a b k1 q1 s1 k2 q2 s2) (l.take j)).length = i ∧ cur.drop (j * 4) = itl (l.drop j)) ∧ (∀ y ∈ l, wr.ownsRow base 91 2 (.slice y.A y.m y.c) y.m (fl y.fs)) ∧ w.grownBy wr (some g)) (fun _ jv _ _ => n - (intOf jv).toNat)
    case atStart => exact ⟨i0, i0 + 1, itl l, by omega, by omega, rfl, by go_num, HR1.out, ⟨by rw [HT0.out]; exact HCc.out, by rw [HT0.out]; exact HL0.out, HCd.out⟩, HF1.out, HG1.out⟩
    case round =>
      obtain ⟨i, j, cur, hij, hj, rfl, rfl, hrow, hcur, hfl, hg⟩ := hrel
      have HE := Lib.hid hcur
      have HFL := Lib.hid hfl
      have HG := Lib.hid hg
      clear hcur hfl
      have hlen : cur.length = n * 4 := hrow.1
      have gsz := hg.size
      clear hg
      by_cases hlt : j < n
      · obtain ⟨x, hx⟩ : ∃ x, l[j]? = some x := ⟨l[j]'(by have := LX.out; omega), List.getElem?_eq_getElem _⟩
        have hxz := hxs x (List.mem_of_getElem? hx)
        obtain ⟨e0, e1, e2, e3, e4⟩ := drop_itl HE.out.2.2 hx
        have HD := Lib.hid e4
        have HX := Lib.hid hx
        have hc0 : wr.cell? ⟨g, j * 4, none⟩ = some (.int .i64 x.k) := by rw [hrow.cellAt (j * 4) (by omega), e0]
        have hc1 : wr.cell? ⟨g, j * 4 + 1, none⟩ = some (.int .i64 x.n) := by rw [hrow.cellAt (j * 4 + 1) (by omega), e1]
        have hc2 : wr.cell? ⟨g, j * 4 + 2, none⟩ = some (.string x.s) := by rw [hrow.cellAt (j * 4 + 2) (by omega), e2]
        have hc3 : wr.cell? ⟨g, j * 4 + 3, none⟩ = some (.slice x.A x.m x.c) := by rw [hrow.cellAt (j * 4 + 3) (by omega), e3]
        have i0_ : (0 : Int) ≤ (j : Int) := by omega
        have i1_ : (j : Int) < (n : Int) := by omega
        have hq0 : RC wr gb a b k1 q1 s1 k2 q2 s2 := HC.out.grown HG.out (fun e => by injection e with e; omega)
        have hq := hq0.below (al (Below.refl _ _) : Below wr.heap.size wr (wr.alloc (.cells #[.int .i64 x.k, .int .i64 x.n, .string x.s, .slice x.A x.m x.c] 106)))
        clear e0 e1 e2 e3 e4 hx hq0
        cases hs : inL a b k1 q1 s1 k2 q2 s2 x.l
        · have HN := Lib.hid (stay_yes HX.out hs)
          go_wp2_with fail
          go_at_call 127
          refine (closureD_any x a b k1 q1 s1 k2 q2 s2 gb false _ hxz hs1 hs2 hq hs.symm).mono ?_
          rintro e w2 ⟨rfl, b2⟩
          have hb0 : Below wr.heap.size wr w2 := Below.trans (al (Below.refl _ _)) (b2.mono (by simp))
          have x0 : w2.cell? ⟨wr.heap.size, 0, none⟩ = some (.int .i64 x.k) := kcell b2 (by simp)
          have x1 : w2.cell? ⟨wr.heap.size, 1, none⟩ = some (.int .i64 x.n) := kcell b2 (by simp)
          have x2 : w2.cell? ⟨wr.heap.size, 2, none⟩ = some (.string x.s) := kcell b2 (by simp)
          have x3 : w2.cell? ⟨wr.heap.size, 3, none⟩ = some (.slice x.A x.m x.c) := kcell b2 (by simp)
          have o2 := own_below hrow hb0
          obtain ⟨u0, hu0⟩ : ∃ u, cur[i * 4]? = some u := ⟨cur[i * 4]'(by omega), List.getElem?_eq_getElem (by omega)⟩
          obtain ⟨u1, hu1⟩ : ∃ u, cur[i * 4 + 1]? = some u := ⟨cur[i * 4 + 1]'(by omega), List.getElem?_eq_getElem (by omega)⟩
          obtain ⟨u2, hu2⟩ : ∃ u, cur[i * 4 + 2]? = some u := ⟨cur[i * 4 + 2]'(by omega), List.getElem?_eq_getElem (by omega)⟩
          obtain ⟨u3, hu3⟩ : ∃ u, cur[i * 4 + 3]? = some u := ⟨cur[i * 4 + 3]'(by omega), List.getElem?_eq_getElem (by omega)⟩
          have d0 : w2.cell? ⟨g, i * 4, none⟩ = some u0 := (by rw [o2.cellAt (i * 4) (by omega), hu0])
          have d1 : w2.cell? ⟨g, i * 4 + 1, none⟩ = some u1 := (by rw [o2.cellAt (i * 4 + 1) (by omega), hu1])
          have d2 : w2.cell? ⟨g, i * 4 + 2, none⟩ = some u2 := (by rw [o2.cellAt (i * 4 + 2) (by omega), hu2])
          have d3 : w2.cell? ⟨g, i * 4 + 3, none⟩ = some u3 := (by rw [o2.cellAt (i * 4 + 3) (by omega), hu3])
          have f0 := o2.frozenAt (i * 4)
          have f1 := o2.frozenAt (i * 4 + 1)
          have f2 := o2.frozenAt (i * 4 + 2)
          have f3 := o2.frozenAt (i * 4 + 3)
          have s0 := o2.stored (i * 4) (.int .i64 x.k)
          have s1_ := s0.1.stored (i * 4 + 1) (.int .i64 x.n)
          have s2_ := s1_.1.stored (i * 4 + 2) (.string x.s)
          have s3_ := s2_.1.stored (i * 4 + 3) (.slice x.A x.m x.c)
          have gz := (((grown_of hb0 (some g)).trans s0.2).trans (s1_.2.trans s2_.2)).trans s3_.2
          have HZ := Lib.hid s3_.1
          have FZ := Lib.hid (flds_keep hrow HFL.out gz)
          have GZ := Lib.hid (HG.out.trans gz)
          have i2_ : (0 : Int) ≤ (i : Int) := by omega
          have i3_ : (i : Int) < (n : Int) := by omega
          clear s0 s1_ s2_ s3_ gz o2 hc0 hc1 hc2 hc3 hq b2 hu0 hu1 hu2 hu3
          go_wp2
          go_roundw
          case rel => exact ⟨i + 1, j + 1, _, by omega, by omega, by go_num, by go_num, HZ.out, ⟨by rw [take_four (by omega), HE.out.1, HN.out, itl_append]; rfl, by rw [HN.out, List.length_append, HE.out.2.1]; rfl, by rw [set4_drop (by omega)]; exact HD.out⟩, FZ.out, GZ.out⟩
          case measure => simp [intOf]; omega
        · have HN := Lib.hid (stay_no HX.out hs)
          go_wp2_with fail
          go_at_call 127
          refine (closureD_any x a b k1 q1 s1 k2 q2 s2 gb true _ hxz hs1 hs2 hq hs.symm).mono ?_
          rintro e w2 ⟨rfl, b2⟩
          have hb0 : Below wr.heap.size wr w2 := Below.trans (al (Below.refl _ _)) (b2.mono (by simp))
          have HZ := Lib.hid (own_below hrow hb0)
          have FZ := Lib.hid (flds_keep hrow HFL.out (grown_of hb0 (some g)))
          have GZ := Lib.hid (HG.out.trans (grown_of hb0 _))
          clear hc0 hc1 hc2 hc3 hq b2
          go_wp2
          go_roundw
          case rel => exact ⟨i, j + 1, cur, by omega, by omega, rfl, by go_num, HZ.out, ⟨by rw [HN.out]; exact HE.out.1, by rw [HN.out]; exact HE.out.2.1, HD.out⟩, FZ.out, GZ.out⟩
          case measure => simp [intOf]; omega
      · obtain rfl : j = n := by omega
        have htk : l.take j = l := List.take_of_length_le (Nat.le_of_eq LX.out)
        have hE := HE.out
        rw [htk] at hE
        have hrow2 := own_head hrow (k := i) (by omega)
        rw [hE.1] at hrow2
        obtain ⟨w2, hclr, o2, g2⟩ := run_clear_own (P := Try.prog) 50 0 (.agg #[.int .i64 0, .int .i64 0, .string ⟨#[]⟩, .slice none 0 0]) Try.underlying50 zeroIt rfl (by intro v hv; simp [Value.cells] at hv; rcases hv with rfl | rfl | rfl | rfl <;> rfl) (by decide) g i c (j - i) (c - i) _ hrow2 (by omega) (by omega)
        have FZ := flds_keep hrow HFL.out g2
        have OZ : Hid (OwnI w2 base (some ⟨g, 0, none⟩) i c (stay (inL a b k1 q1 s1 k2 q2 s2) l)) := ⟨o2, fun y hy => FZ y (stay_mem hy), stay_sep HO.out.2.2⟩
        have GZ := Lib.hid (HG.out.trans g2)
        have HCL := Lib.hid hclr
        have j1 : (0 : Int) ≤ (i : Int) := by omega
        have j2 : (i : Int) ≤ (j : Int) := by omega
        have j3 : (j : Int) ≤ (c : Int) := by omega
        have j4 : ¬ (c = i) := by omega
        have j5 : (i : Int) ≤ (c : Int) := by omega
        clear htk hE hrow2 hclr o2 g2 FZ hcap
        go_wp2_with (refine wpList_clear rfl (.tmp 38) 50 rfl _ rfl w2 HCL.out ?_)
        go_ret
        exact ⟨i, rfl, OZ.out, GZ.out⟩
end Go.Proofs.Ytbbngihmjdndoaa
