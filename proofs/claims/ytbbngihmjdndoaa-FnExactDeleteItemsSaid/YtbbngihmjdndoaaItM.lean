/-
  Proved: the contracts of the laws' marking of items and stores, and of their test that these hold the marks. Conditions: the rows are the run's own (marking), or read as lists (the test).
  By an AI agent; no person has read it.
-/
import Derived.Test.YtbbngihmjdndoaaMid
import Derived.Test.YtbbngihmjdndoaaStep
import Derived.Deep.RegionHeld3
namespace Go.Proofs.Ytbbngihmjdndoaa
open Go.RowKit

theorem own_types_ne {w : World} {base base2 : Nat} {e e2 : TypeId} {size size2 : Nat} {A A2 : Option Addr} {n c n2 c2 : Nat} {xs xs2 : List Value} (h : w.ownsRow base e size (.slice A n c) n xs) (h2 : w.ownsRow base2 e2 size2 (.slice A2 n2 c2) n2 xs2) (he : e ≠ e2) : ∀ a a2, A = some a → A2 = some a2 → a.block ≠ a2.block := by
  rintro a a2 ha rfl
  rcases h2.2 with ⟨hv, _⟩ | ⟨g', cap, cur, hv, hg, hh, _⟩
  · cases hv
  · injection hv with e1 _ _
    injection e1 with e1
    subst e1
    exact own_ne_type2 h hh he a ha
/-- The fields' rows stay where the row of the items is written. -/
theorem flds_keep {w w' : World} {base base2 n c g : Nat} {xs : List Value} {ys : List Itm} (hrow : w.ownsRow base 106 4 (.slice (some ⟨g, 0, none⟩) n c) n xs) (hF : ∀ y ∈ ys, w.ownsRow base2 91 2 (.slice y.A y.m y.c) y.m (fl y.fs)) (hG : w.grownBy w' (some g)) : ∀ y ∈ ys, w'.ownsRow base2 91 2 (.slice y.A y.m y.c) y.m (fl y.fs) :=
  fun y hy => own_grown (hF y hy) hG (fun ad h e => own_types_ne hrow (hF y hy) (by decide) _ _ rfl h (by injection e))
theorem itl_set3 {p q : List Itm} {x : Itm} {j : Nat} {u v : Int} {s : ByteArray} {fs : List Fld} (hj : p.length = j) :
    (((itl (p ++ x :: q)).set (j * 4) (.int .i64 u)).set (j * 4 + 1) (.int .i64 v)).set (j * 4 + 2) (.string s) = itl (p ++ Itm.mk u v s x.A x.m x.c fs :: q) := by
  have hl : (itl p).length = j * 4 := by rw [itl_len, hj]
  rw [itl_append, itl_append, itl_cons, itl_cons, List.set_append_right _ _ (by omega), List.set_append_right _ _ (by omega), List.set_append_right _ _ (by omega), hl]
  rw [show j * 4 - j * 4 = 0 by omega, show j * 4 + 1 - j * 4 = 1 by omega, show j * 4 + 2 - j * 4 = 2 by omega]
  rfl
theorem sepI_mid {p q : List Itm} {x x' : Itm} (h : SepI (p ++ x :: q)) (hA : x'.A = x.A) : SepI (p ++ x' :: q) ∧ ∀ y, y ∈ p ∨ y ∈ q → ∀ a b, y.A = some a → x.A = some b → a.block ≠ b.block := by
  unfold SepI at h ⊢
  rw [List.pairwise_append, List.pairwise_cons] at h ⊢
  obtain ⟨h1, ⟨h2, h3⟩, h4⟩ := h
  refine ⟨⟨h1, ⟨fun y hy a b ha hb => h2 y hy a b (by rw [← hA]; exact ha) hb, h3⟩, fun y hy z hz a b ha hb => ?_⟩, fun y hy a b ha hb => ?_⟩
  · rcases List.mem_cons.1 hz with rfl | hz
    · exact h4 y hy x List.mem_cons_self a b ha (by rw [← hA]; exact hb)
    · exact h4 y hy z (List.mem_cons_of_mem _ hz) a b ha hb
  · rcases hy with hy | hy
    · exact h4 y hy x List.mem_cons_self a b ha hb
    · exact fun e => h2 y hy b a hb ha e.symm
theorem markText_z (z : Int) (k : Nat) (w : World) (hz : z = (k : Int)) (h0 : 0 < k) (h1 : k ≤ 1099511627776) :
    Calls Try.prog 116 #[.int .i64 z] w fun e w' => e = .returned (.string (mtxt k)) ∧ Below w.heap.size w w' := by
  subst hz
  exact markText_any k w h0 h1
theorem markFieldS_z (A : Option Addr) (n c base k q : Nat) (z : Int) (cells : List Value) (w : World) (hz : z = (k : Int)) (hq : q = k + 2 * n) (h0 : 0 < k) (h1 : q ≤ 1099511627776) (ha : w.ownsRow base 91 2 (.slice A n c) n cells) :
    Calls Try.prog 81 #[.slice A n c, .int .i64 z] w fun e w' => e = .returned (.int .i64 (q : Int)) ∧ w'.ownsRow base 91 2 (.slice A n c) n (fl (marksF k n)) ∧ w.grownBy w' (A.map (·.block)) := by
  subst hz
  subst hq
  exact markFieldS_any A n c base k cells w h0 h1 ha
theorem heldFieldS_z (A : Option Addr) (n c k q : Nat) (z : Int) (w : World) (hz : z = (k : Int)) (hq : q = k + 2 * n) (h0 : 0 < k) (h1 : q ≤ 1099511627776) (ha : Rd w 2 A n (fl (marksF k n))) :
    Calls Try.prog 82 #[.slice A n c, .int .i64 z] w fun e w' => e = .returned (.int .i64 (q : Int)) ∧ Below w.heap.size w w' := by
  subst hz
  subst hq
  exact heldFieldS_any A n c k w h0 h1 ha

set_option maxRecDepth 100000 in
set_option maxHeartbeats 4000000 in
theorem markItemS_any (A : Option Addr) (n c base k lo hi : Nat) (l : List Itm) (w : World) (h0 : 0 < k) (h1 : mkN k l ≤ 1099511627776) (hn : n ≤ 1099511627776) (ha : OwnI w base A n c l) (hr : RgI A l lo hi) :
    Calls Try.prog 63 #[.slice A n c, .int .i64 (k : Int)] w fun e w' => e = .returned (.int .i64 ((mkN k l : Nat) : Int)) ∧ OwnI w' base A n c (mkI k l) ∧ Mid lo hi w w' := by
  have HC := Lib.hid ha
  have la := Lib.hid ha.rd.lenI
  have HR := Lib.hid hr
  clear ha hr
  go_enter Try.func63, Try.ntmps63
  go_wp2
  go_loopw [1, 5] (fun q i wr => ∃ (j m : Nat), j ≤ n ∧ i = .int .i64 j ∧ q = .int .i64 (m : Int) ∧ m = mkN k (l.take j) ∧ OwnI wr base A n c (mkI k (l.take j) ++ l.drop j) ∧ Mid lo hi w wr) (fun _ i _ => n - (intOf i).toNat)
  case atStart => exact ⟨0, k, Nat.zero_le _, rfl, rfl, rfl, HC.out, Mid.refl _ _ _⟩
  case round =>
    obtain ⟨j, m, hj, rfl, rfl, hm, hown, hmid⟩ := hrel
    have HM := Lib.hid hm
    have hm0 : 0 < m := by have := mkN_ge (l.take j) k; omega
    clear hm
    by_cases hlt : j < n
    · obtain ⟨x, hx⟩ : ∃ x, l[j]? = some x := ⟨l[j]'(by have := la.out; omega), List.getElem?_eq_getElem _⟩
      have hdrop : l.drop j = x :: l.drop (j + 1) := by
        obtain ⟨hj2, rfl⟩ := List.getElem?_eq_some_iff.1 hx
        exact List.drop_eq_getElem_cons hj2
      have htake : l.take (j + 1) = l.take j ++ [x] := take_snoc hx
      have hpl : (mkI k (l.take j)).length = j := by rw [mkI_len, List.length_take]; have := la.out; omega
      obtain ⟨m2, hm2⟩ : ∃ m2, m2 = m + 3 + 2 * x.m := ⟨_, rfl⟩
      have hm3 : m2 = mkN k (l.take (j + 1)) := by rw [htake, mkN_snoc, ← HM.out, hm2]
      have hm4 : m2 ≤ 1099511627776 := by have := mkN_take l k (j + 1); omega
      have HI : Hid (mkI k (l.take (j + 1)) = mkI k (l.take j) ++ [Itm.mk (m : Int) ((m + 1 : Nat) : Int) (mtxt (m + 2)) x.A x.m x.c (marksF (m + 3) x.m)]) := by
        show _ = _
        rw [htake, mkI_snoc, ← HM.out]
      rw [hdrop] at hown
      have HXR := Lib.hid (HR.out.2 x (List.mem_of_getElem? hx))
      obtain ⟨p, hp⟩ : ∃ p, p = mkI k (l.take j) := ⟨_, rfl⟩
      obtain ⟨q, hq⟩ : ∃ q, q = l.drop (j + 1) := ⟨_, rfl⟩
      rw [← hp, ← hq] at hown
      rw [← hp] at HI hpl
      have HP := Lib.hid hpl
      have HQ := Lib.hid hq
      have HM3 := Lib.hid hm3
      have HM2 := Lib.hid hm2
      have hmx : m + 3 ≤ 1099511627776 := by omega
      clear hp hq hpl hm3 hdrop htake hx hm2
      obtain ⟨hrow, hfl, hsep⟩ := hown
      have hlen : (itl (p ++ x :: q)).length = n * 4 := hrow.1
      have hsp := Lib.hid (sepI_mid (x' := Itm.mk (m : Int) ((m + 1 : Nat) : Int) (mtxt (m + 2)) x.A x.m x.c (marksF (m + 3) x.m)) hsep rfl)
      have HF := Lib.hid hfl
      clear hfl hsep
      obtain ⟨g, cap, hv, _, hglt⟩ := hrow.form (by omega)
      obtain rfl : A = some ⟨g, 0, none⟩ := by injection hv
      clear hv
      obtain ⟨e0, e1, e2, e3⟩ := itl_at (p ++ x :: q) j x (by rw [List.getElem?_append_right (by rw [HP.out]; exact Nat.le_refl _), HP.out, Nat.sub_self]; rfl)
      have d0 : wr.cell? ⟨g, j * 4, none⟩ = some (.int .i64 x.k) := by rw [hrow.cellAt (j * 4) (by omega), e0]
      have d1 : wr.cell? ⟨g, j * 4 + 1, none⟩ = some (.int .i64 x.n) := by rw [hrow.cellAt (j * 4 + 1) (by omega), e1]
      have d2 : wr.cell? ⟨g, j * 4 + 2, none⟩ = some (.string x.s) := by rw [hrow.cellAt (j * 4 + 2) (by omega), e2]
      have d3 : wr.cell? ⟨g, j * 4 + 3, none⟩ = some (.slice x.A x.m x.c) := by rw [hrow.cellAt (j * 4 + 3) (by omega), e3]
      have f0 := hrow.frozenAt (j * 4)
      have f1 := hrow.frozenAt (j * 4 + 1)
      have f2 := hrow.frozenAt (j * 4 + 2)
      clear e0 e1 e2 e3
      go_wp2_with fail
      obtain ⟨W, hW⟩ : ∃ W, W = (wr.setCell ⟨g, j * 4, none⟩ (.int .i64 (m : Int))).setCell ⟨g, j * 4 + 1, none⟩ (.int .i64 ((m : Int) + 1)) := ⟨_, rfl⟩
      rw [← hW]
      have s0 := hrow.stored (j * 4) (.int .i64 (m : Int))
      have s1 := s0.1.stored (j * 4 + 1) (.int .i64 ((m : Int) + 1))
      have gW := s0.2.trans s1.2
      have oW := s1.1
      rw [← hW] at gW oW
      replace d2 : W.cell? ⟨g, j * 4 + 2, none⟩ = some (.string x.s) := by rw [hW]; simp [go_sem, d2]
      replace d3 : W.cell? ⟨g, j * 4 + 3, none⟩ = some (.slice x.A x.m x.c) := by rw [hW]; simp [go_sem, d3]
      replace f2 : W.frozen? ⟨g, j * 4 + 2, none⟩ = false := by rw [hW]; simp [go_sem, f2]
      clear s0 s1 hW d0 d1 f0 f1
      refine (markText_z _ (m + 2) _ (by omega) (by omega) (by omega)).mono ?_
      rintro e w2 ⟨rfl, b2⟩
      replace d2 := kcell b2 d2
      replace d3 := kcell b2 d3
      replace f2 := (b2.frozen (p := ⟨g, j * 4 + 2, none⟩) (by have := gW.size; show g < _; omega)).trans f2
      have oW2 := own_below oW b2
      have gW2 := gW.trans (grown_of b2 _)
      clear b2 oW gW
      go_wp2_with fail
      obtain ⟨V, hV⟩ : ∃ V, V = w2.setCell ⟨g, j * 4 + 2, none⟩ (.string (mtxt (m + 2))) := ⟨_, rfl⟩
      rw [← hV]
      have s2 := oW2.stored (j * 4 + 2) (.string (mtxt (m + 2)))
      have gV := gW2.trans s2.2
      have oV := s2.1
      rw [← hV] at gV oV
      have HO : Hid (itl (p ++ Itm.mk (m : Int) ((m + 1 : Nat) : Int) (mtxt (m + 2)) x.A x.m x.c (marksF (m + 3) x.m) :: q) = _) := (itl_set3 (u := (m : Int)) (v := ((m + 1 : Nat) : Int)) (s := mtxt (m + 2)) (fs := marksF (m + 3) x.m) (x := x) (q := q) HP.out).symm
      have oV2 : V.ownsRow base 106 4 (.slice (some ⟨g, 0, none⟩) n c) n (itl (p ++ Itm.mk (m : Int) ((m + 1 : Nat) : Int) (mtxt (m + 2)) x.A x.m x.c (marksF (m + 3) x.m) :: q)) := by
        rw [HO.out]
        exact oV
      have fV := flds_keep hrow HF.out gV
      have hxo := fV x (List.mem_append_right _ List.mem_cons_self)
      have mV : Mid lo hi w V := hmid.trans (Mid.of_grown (A := some ⟨g, 0, none⟩) gV HR.out.1)
      clear s2 oV gV hV oW2 gW2 hrow hmid
      refine (markFieldS_z x.A x.m x.c base (m + 3) m2 _ _ _ (by omega) HM2.out (by omega) hm4 hxo).mono ?_
      rintro e w4 ⟨rfl, o4, g4⟩
      have mW4 : Mid lo hi w w4 := mV.trans (Mid.of_grown g4 HXR.out)
      have oI : OwnI w4 base (some ⟨g, 0, none⟩) n c (mkI k (l.take (j + 1)) ++ l.drop (j + 1)) := by
        rw [HI.out, ← HQ.out, List.append_assoc, List.singleton_append]
        refine ⟨own_grown oV2 g4 (fun ad h e => ?_), fun y hy => ?_, hsp.out.1⟩
        · cases hA : x.A with
          | none => rw [hA] at e; cases e
          | some b =>
            rw [hA] at e
            simp only [Option.map_some, Option.some.injEq] at e
            exact own_types_ne oV2 hxo (by decide) ad b h hA e.symm
        · rcases List.mem_append.1 hy with h | h
          · refine own_grown (fV y (List.mem_append_left _ h)) g4 (fun ad ha e => ?_)
            cases hA : x.A with
            | none => rw [hA] at e; cases e
            | some b =>
              rw [hA] at e
              simp only [Option.map_some, Option.some.injEq] at e
              exact hsp.out.2 y (.inl h) ad b ha hA e.symm
          · rcases List.mem_cons.1 h with rfl | h
            · exact o4
            · refine own_grown (fV y (List.mem_append_right _ (List.mem_cons_of_mem _ h))) g4 (fun ad ha e => ?_)
              cases hA : x.A with
              | none => rw [hA] at e; cases e
              | some b =>
                rw [hA] at e
                simp only [Option.map_some, Option.some.injEq] at e
                exact hsp.out.2 y (.inr h) ad b ha hA e.symm
      have OI := Lib.hid oI
      clear oI o4 g4 mV fV oV2 hxo
      go_wp2
      go_roundw
      case rel => exact ⟨j + 1, m2, by omega, by go_num, rfl, HM3.out, OI.out, mW4⟩
      case measure => simp [intOf]; omega
    · obtain rfl : j = n := by omega
      have htk : l.take j = l := List.take_of_length_le (by have := la.out; omega)
      have hdk : l.drop j = [] := List.drop_eq_nil_of_le (by have := la.out; omega)
      rw [htk, hdk, List.append_nil] at hown
      have HO := Lib.hid hown
      have HM2 : Hid (mkN k l = m) := by
        have := HM.out
        rw [htk] at this
        exact this.symm
      clear hown htk hdk
      go_wp2
      go_ret
      exact ⟨ret_int (by rw [HM2.out]), HO.out, hmid⟩

set_option maxRecDepth 100000 in
set_option maxHeartbeats 4000000 in
theorem heldItemS_any (A : Option Addr) (n c k : Nat) (l : List Itm) (w : World) (h0 : 0 < k) (h1 : mkN k l ≤ 1099511627776) (hn : n ≤ 1099511627776) (ha : RdI w A n (mkI k l)) :
    Calls Try.prog 64 #[.slice A n c, .int .i64 (k : Int)] w fun e w' => e = .returned (.int .i64 ((mkN k l : Nat) : Int)) ∧ Below w.heap.size w w' := by
  have la : Hid (l.length = n) := Lib.hid (by have := ha.lenI; rwa [mkI_len] at this)
  go_enter Try.func64, Try.ntmps64
  go_wp2
  go_loopw [1, 5] (fun q i wr => ∃ (j m : Nat), j ≤ n ∧ i = .int .i64 j ∧ q = .int .i64 (m : Int) ∧ m = mkN k (l.take j) ∧ Below w.heap.size w wr) (fun _ i _ => n - (intOf i).toNat)
  case atStart => exact ⟨0, k, Nat.zero_le _, rfl, rfl, rfl, Below.refl _ _⟩
  case round =>
    obtain ⟨j, m, hj, rfl, rfl, hm, hbel⟩ := hrel
    have HM := Lib.hid hm
    have hm0 : 0 < m := by have := mkN_ge (l.take j) k; omega
    clear hm
    by_cases hlt : j < n
    · obtain ⟨x, hx⟩ : ∃ x, l[j]? = some x := ⟨l[j]'(by have := la.out; omega), List.getElem?_eq_getElem _⟩
      have htake : l.take (j + 1) = l.take j ++ [x] := take_snoc hx
      obtain ⟨m2, hm2⟩ : ∃ m2, m2 = m + 3 + 2 * x.m := ⟨_, rfl⟩
      have HM3 : Hid (m2 = mkN k (l.take (j + 1))) := Lib.hid (by rw [htake, mkN_snoc, ← HM.out, hm2])
      have hm4 : m2 ≤ 1099511627776 := by have := mkN_take l k (j + 1); have := HM3.out; omega
      obtain ⟨b, o, y, rfl, _hb1, hy, hc0, hc1, hc2, hc3, ry⟩ := (ha.below hbel).itm hlt
      have hy2 := mkI_at l k j x hx
      rw [hy] at hy2
      injection hy2 with hy2
      rw [← HM.out] at hy2
      subst hy2
      simp only at hc0 hc1 hc2 hc3 ry
      have HM2 := Lib.hid hm2
      have i0 : (0 : Int) ≤ (j : Int) := by omega
      have i1 : (j : Int) < (n : Int) := by omega
      have hm5 : m + 3 ≤ 1099511627776 := by omega
      have e1 : ((m + 1 : Nat) : Int) = (m : Int) + 1 := by omega
      rw [e1] at hc1
      have hcast : (m : Int) + 1 ≤ 1099511627776 := by omega
      clear hm2 htake hx hy e1
      go_wp2
      go_region_held3 (fun W => Below wr.heap.size wr W ∧ W.cell? ⟨b, o + j * 4, none⟩ = some (.int .i64 (m : Int)) ∧ W.cell? ⟨b, o + j * 4 + 2, none⟩ = some (.string (mtxt (m + 2))) ∧ W.cell? ⟨b, o + j * 4 + 3, none⟩ = some (.slice x.A x.m x.c))
        (first | assumption | (refine sz3 ?_ hq rfl; assumption) | exact ⟨(Below.refl _ _).drew, hc0, hc2, hc3⟩)
        (first
          | (go_at_call 116; refine (markText_z _ (m + 2) _ (by omega) (by omega) (by omega)).mono ?_; rintro e W1 ⟨rfl, hq⟩))
      obtain ⟨BZ, _, _, dZ⟩ := ‹Below wr.heap.size wr _ ∧ _›
      have BY := hbel.trans (BZ.mono hbel.size)
      have ry2 := ry.below BZ
      go_wp2_with fail
      refine (heldFieldS_z x.A x.m x.c (m + 3) m2 _ _ (by omega) HM2.out (by omega) hm4 ry2).mono ?_
      rintro e w5 ⟨rfl, b5⟩
      have B5 := BY.trans (b5.mono BY.size)
      clear b5 ry2 ry hc0 hc1 hc2 hc3 hcast hm5 hm0 dZ i0 i1
      go_wp2
      go_roundw
      case rel => exact ⟨j + 1, m2, by omega, by go_num, rfl, HM3.out, B5⟩
      case measure => simp [intOf]; omega
    · obtain rfl : j = n := by omega
      have HM2 : Hid (mkN k l = m) := by
        have := HM.out
        rw [List.take_of_length_le (by have := la.out; omega)] at this
        exact this.symm
      go_wp2
      go_ret
      exact ⟨ret_int (by rw [HM2.out]), hbel⟩

theorem markItemS_q (A : Option Addr) (n c base k q lo hi : Nat) (l : List Itm) (w : World) (h0 : 0 < k) (hq : q = mkN k l) (h1 : q ≤ 1099511627776) (hn : n ≤ 1099511627776) (ha : OwnI w base A n c l) (hr : RgI A l lo hi) :
    Calls Try.prog 63 #[.slice A n c, .int .i64 (k : Int)] w fun e w' => e = .returned (.int .i64 (q : Int)) ∧ OwnI w' base A n c (mkI k l) ∧ Mid lo hi w w' := by
  subst hq
  exact markItemS_any A n c base k lo hi l w h0 h1 hn ha hr
theorem heldItemS_q (A : Option Addr) (n c k q : Nat) (l : List Itm) (w : World) (h0 : 0 < k) (hq : q = mkN k l) (h1 : q ≤ 1099511627776) (hn : n ≤ 1099511627776) (ha : RdI w A n (mkI k l)) :
    Calls Try.prog 64 #[.slice A n c, .int .i64 (k : Int)] w fun e w' => e = .returned (.int .i64 (q : Int)) ∧ Below w.heap.size w w' := by
  subst hq
  exact heldItemS_any A n c k l w h0 h1 hn ha
set_option maxRecDepth 100000 in
theorem markStore_q (s : ByteArray) (au : Int) (A : Option Addr) (n c base k q lo hi : Nat) (l : List Itm) (w : World) (h0 : 0 < k) (hq : q = mkN k l) (h1 : q ≤ 1099511627776) (hn : n ≤ 1099511627776) (ha : OwnI w base A n c l) (hr : RgI A l lo hi) :
    Calls Try.prog 62 #[.agg #[.string s, .slice A n c, .int .i64 au], .int .i64 (k : Int)] w fun e w' => e = .returned (.int .i64 (q : Int)) ∧ OwnI w' base A n c (mkI k l) ∧ Mid lo hi w w' := by
  have HC := Lib.hid ha
  have HQ := Lib.hid hq
  clear ha hq
  go_enter Try.func62, Try.ntmps62
  go_wp2_with fail
  refine (markItemS_q A n c base k q lo hi l _ h0 HQ.out h1 hn (HC.out.below (al (Below.refl _ _))) hr).mono ?_
  rintro e w1 ⟨rfl, o1, m1⟩
  have HO := Lib.hid o1
  have HM := Lib.hid ((Mid.of_below (lo := lo) (hi := hi) (al (Below.refl w.heap.size w))).trans m1)
  clear o1 m1
  go_wp2
  go_ret
  exact ⟨rfl, HO.out, HM.out⟩
set_option maxRecDepth 100000 in
theorem heldStore_q (s : ByteArray) (au : Int) (A : Option Addr) (n c k q : Nat) (l : List Itm) (w : World) (h0 : 0 < k) (hq : q = mkN k l) (h1 : q ≤ 1099511627776) (hn : n ≤ 1099511627776) (ha : RdI w A n (mkI k l)) :
    Calls Try.prog 71 #[.agg #[.string s, .slice A n c, .int .i64 au], .int .i64 (k : Int)] w fun e w' => e = .returned (.int .i64 (q : Int)) ∧ Below w.heap.size w w' := by
  have hpos : ¬ (q : Int) < 0 := by omega
  have HQ := Lib.hid hq
  clear hq
  go_enter Try.func71, Try.ntmps71
  go_wp2_with fail
  refine (heldItemS_q A n c k q l _ h0 HQ.out h1 hn (ha.alloc _)).mono ?_
  rintro e w1 ⟨rfl, b1⟩
  have B1 : Below w.heap.size w w1 := Below.trans (al (Below.refl _ _)) (b1.mono (by simp))
  clear b1
  go_wp2
  go_ret
  exact ⟨rfl, B1⟩
end Go.Proofs.Ytbbngihmjdndoaa
