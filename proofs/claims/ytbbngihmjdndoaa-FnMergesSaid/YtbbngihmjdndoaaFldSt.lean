/-
  Proved: the contract of SetField of the program. Conditions: the slice reads as a list.
  By an AI agent; no person has read it.
-/
import Derived.Test.YtbbngihmjdndoaaFldY
import Derived.Test.YtbbngihmjdndoaaFldRm
namespace Go.Proofs.Ytbbngihmjdndoaa
open Go.RowKit

theorem fl_setN {l : List Fld} {k : Nat} {f : Fld} {nm : ByteArray} {x : Int} (hx : l[k]? = some f) (hf : f.1 = nm) : (fl l).set (k * 2 + 1) (.int .i64 x) = fl (l.set k (nm, x)) := by
  induction l generalizing k with
  | nil => simp at hx
  | cons g l ih =>
    cases k with
    | zero =>
      simp at hx
      subst hx
      subst hf
      rfl
    | succ k =>
      rw [List.getElem?_cons_succ] at hx
      rw [List.set_cons_succ, fl_cons, fl_cons, show (k + 1) * 2 + 1 = (k * 2 + 1) + 1 + 1 by omega, List.set_cons_succ, List.set_cons_succ, ih hx]
theorem posF_le_of {l : List Fld} {nm : ByteArray} {k : Nat} {f : Fld} (hx : l[k]? = some f) (hf : ltN f.1 nm = true) (h : k ≤ posF l nm) : k + 1 ≤ posF l nm := by
  obtain ⟨hk, he⟩ := List.getElem?_eq_some_iff.1 hx
  rcases Nat.lt_or_ge k (posF l nm) with h1 | h1
  · exact h1
  · obtain rfl : k = posF l nm := by omega
    have := posF_at (l := l) (nm := nm) hk
    rw [he, hf] at this
    cases this
theorem posF_eq_of {l : List Fld} {nm : ByteArray} {k : Nat} {f : Fld} (hx : l[k]? = some f) (hf : ltN f.1 nm = false) (h : k ≤ posF l nm) : k = posF l nm := by
  obtain ⟨hk, he⟩ := List.getElem?_eq_some_iff.1 hx
  rcases Nat.lt_or_ge k (posF l nm) with h1 | h1
  · have := posF_lt h1 hk
    rw [he, hf] at this
    cases this
  · omega
theorem okF_set {l : List Fld} {k : Nat} {nm : ByteArray} {x : Int} (h : okF l) (h1 : nm.size ≤ maxLen) (h2 : -9223372036854775808 ≤ x ∧ x ≤ 9223372036854775807) : okF (l.set k (nm, x)) := fun f hf => by
  rcases List.mem_or_eq_of_mem_set hf with h3 | h3
  · exact h f h3
  · subst h3
    exact ⟨h1, h2⟩
theorem okF_ins {l : List Fld} {nm : ByteArray} {x : Int} (h : okF l) (h1 : nm.size ≤ maxLen) (h2 : -9223372036854775808 ≤ x ∧ x ≤ 9223372036854775807) : okF (insF l nm x) := fun f hf => by
  unfold insF at hf
  rcases List.mem_append.1 hf with h3 | h3
  · exact h f (List.mem_of_mem_take h3)
  · rcases List.mem_cons.1 h3 with h4 | h4
    · subst h4
      exact ⟨h1, h2⟩
    · exact h f (List.mem_of_mem_drop h4)
theorem grown_blk {w w' : World} {A : Option Addr} {b : Nat} (hg : w.grownBy w' (A.map (·.block))) (hb : b < w.heap.size) (hA : ∀ ad, A = some ad → ad.block ≠ b) : w'.heap[b]? = w.heap[b]? :=
  hg.block b hb (fun e => by
    cases A with
    | none => cases e
    | some ad =>
      have := hA ad rfl
      simp at e
      omega)
theorem ownBlock_ne {A : Option Addr} {n c b : Nat} (h : ∀ ad, A = some ad → ad.block ≠ b) : (Value.slice A n c).ownBlock ≠ some b := by
  cases A with
  | none => intro e; cases e
  | some ad => intro e; injection e with e; exact h ad rfl e
/-- A row's block bears the row's element type: a block of another type is another block. -/
theorem own_ne_type {w : World} {base : Nat} {e e2 : TypeId} {size : Nat} {A : Option Addr} {n c b : Nat} {xs : List Value} {cs : Array Value} {fr : Nat × Nat} (h : w.ownsRow base e size (.slice A n c) n xs) (hb : w.heap[b]? = some (.cells cs e2 fr)) (hne : e ≠ e2) : ∀ ad, A = some ad → ad.block ≠ b := by
  rintro ad rfl rfl
  rcases h.2 with ⟨hv, _⟩ | ⟨g', cap, cur, hv, hg, hh, _⟩
  · cases hv
  · injection hv with e1 e2 e3
    injection e1 with e1
    subst e1
    rw [hh] at hb
    injection hb with hb
    injection hb with _ h2 _
    exact hne h2

set_option maxRecDepth 100000 in
set_option maxHeartbeats 2000000 in
theorem implSetField_any (A : Option Addr) (n c : Nat) (l : List Fld) (nm : ByteArray) (x : Int) (lr : List Fld) (r : Bool) (w : World) (hn : n ≤ 1048576) (ha : Rd w 2 A n (fl l)) (hok : okF l) (hnm : nm.size ≤ maxLen) (hx : -9223372036854775808 ≤ x ∧ x ≤ 9223372036854775807) (hr : (lr, r) = setR l nm x) :
    Calls Try.prog 52 #[.agg #[.slice A n c], .string nm, .int .i64 x] w (MkRB w lr r) := by
  have HR := Lib.hid hr
  have LX := Lib.hid ha.lenF
  have HNM := Lib.hid hnm
  clear hr hnm
  go_enter Try.func52, Try.ntmps52
  go_wp2_with fail
  refine (copyRecord_any A n c l _ (by omega) ((ha.alloc _).alloc _)).mono ?_
  rintro e w1 ⟨B, p, d, rfl, o1, b1⟩
  obtain rfl : n = p := by have := own_lenF o1; have := LX.out; omega
  have hw1 : w.heap.size + 2 ≤ w1.heap.size := by have := b1.size; simp at this; omega
  have d0 : (w1.alloc (.cells #[.slice B n d] 28)).cell? ⟨w.heap.size, 0, none⟩ = some (.slice A n c) := kcell (al (Below.refl _ _)) (kcell b1 (by simp))
  have dR : (w1.alloc (.cells #[.slice B n d] 28)).cell? ⟨w.heap.size + 1, 0, none⟩ = some (.slice none 0 0) := kcell (al (Below.refl _ _)) (kcell b1 (by simp [go_sem]))
  have fR : (w1.alloc (.cells #[.slice B n d] 28)).frozen? ⟨w.heap.size + 1, 0, none⟩ = false := kfro (al (Below.refl _ _)) (by omega) (kfro b1 (by simp) (by simp [go_sem]))
  have dB : (w1.alloc (.cells #[.slice B n d] 28)).cell? ⟨w1.heap.size, 0, none⟩ = some (.slice B n d) := by simp
  have fB : (w1.alloc (.cells #[.slice B n d] 28)).frozen? ⟨w1.heap.size, 0, none⟩ = false := by simp [go_sem]
  have hX := Lib.hid (heap_alloc_new w1 (.cells #[.slice B n d] 28))
  have B1 : Below w.heap.size w (w1.alloc (.cells #[.slice B n d] 28)) := al (Below.trans (al (al (Below.refl _ _))) (b1.mono (by simp; omega)))
  have o2 := own_base (own_below o1 (al (o := .cells #[.slice B n d] 28) (Below.refl w1.heap.size w1))) (by simp : w.heap.size + 2 ≤ _)
  have R1 := Lib.hid (own_rng o1)
  clear b1 o1
  obtain ⟨i, hi⟩ : ∃ i, i = idxF l nm := ⟨_, rfl⟩
  have HI := Lib.hid hi
  clear hi
  go_wp2_with fail
  refine (fieldAt_any A n c l nm i _ (by unfold maxLen; omega) (ha.below B1) HI.out).mono ?_
  rintro e w2 ⟨rfl, b2⟩
  have hbel := B1.trans (b2.mono B1.size)
  replace d0 := kcell b2 d0
  replace dR := kcell b2 dR
  replace fR := kfro b2 (by simp; omega) fR
  replace dB := kcell b2 dB
  replace fB := kfro b2 (by simp) fB
  replace o2 := own_below o2 b2
  have HX := Lib.hid ((b2.block w1.heap.size (by simp)).trans hX.out)
  have hs2 : w1.heap.size < w2.heap.size := by have := b2.size; simp at this; omega
  clear b2 B1 hX
  cases hf : l.findIdx? (pN nm) with
  | some k =>
    have hi : i = (k : Int) := by have := HI.out; rw [this]; unfold idxF; rw [hf]
    have HM : Hid (setI l nm x = l.set k (nm, x)) := Lib.hid (by unfold setI; rw [hf])
    obtain ⟨hk', hpk⟩ : ∃ h : k < l.length, pN nm l[k] = true := by
      rw [List.findIdx?_eq_some_iff_getElem] at hf
      obtain ⟨h, h2, -⟩ := hf
      exact ⟨h, h2⟩
    have hk : k < n := by have := LX.out; omega
    have HOKM := Lib.hid (okF_set (k := k) hok HNM.out hx)
    have HST := Lib.hid (fl_setN (x := x) (List.getElem?_eq_getElem hk') (pN_iff.1 hpk))
    clear hf hk' hpk
    subst hi
    obtain ⟨g, cap, hv, hgb, hglt⟩ := o2.form (by omega)
    obtain ⟨rfl, rfl⟩ : B = some ⟨g, 0, none⟩ ∧ d = cap := by injection hv; exact ⟨by assumption, by assumption⟩
    have hgb1 : g < w1.heap.size := (R1.out _ rfl).2
    have i1 : ¬ ((k : Int) < 0) := by omega
    have i2 : (0 : Int) ≤ (k : Int) := by omega
    have i3 : (k : Int) < (n : Int) := by omega
    have hfl : (fl l).length = n * 2 := o2.1
    obtain ⟨u1, hu1⟩ : ∃ u, (fl l)[k * 2 + 1]? = some u := ⟨(fl l)[k * 2 + 1]'(by omega), List.getElem?_eq_getElem (by omega)⟩
    have e1 : w2.cell? ⟨g, k * 2 + 1, none⟩ = some u1 := by rw [o2.cellAt (k * 2 + 1) (by omega), hu1]
    have f1 := o2.frozenAt (k * 2 + 1)
    have s1 := o2.stored (k * 2 + 1) (.int .i64 x)
    rw [HST.out] at s1
    obtain ⟨o3, g3⟩ := s1
    have c0 := g3.cell d0 (by simp; omega)
    have cR := g3.cell dR (by simp; omega)
    have qR : (w2.setCell ⟨g, k * 2 + 1, none⟩ (.int .i64 x)).frozen? ⟨w.heap.size + 1, 0, none⟩ = false := by simp [fR]
    have cB := g3.cell dB (by simp; omega)
    have hbel3 : Below w.heap.size w (w2.setCell ⟨g, k * 2 + 1, none⟩ (.int .i64 x)) := hbel.setCell (p := ⟨g, k * 2 + 1, none⟩) (by show w.heap.size ≤ g; omega) _
    have hs3 : w2.heap.size ≤ (w2.setCell ⟨g, k * 2 + 1, none⟩ (.int .i64 x)).heap.size := g3.size
    clear hv g3 hu1 hfl o2
    go_wp2_with fail
    clear d0 dR fR dB fB hbel
    obtain ⟨w3, hw3⟩ : ∃ w3, w3 = w2.setCell ⟨g, k * 2 + 1, none⟩ (.int .i64 x) := ⟨_, rfl⟩
    rw [← hw3] at c0 cR qR cB hbel3 hs3 o3 ⊢
    clear hw3
    have d0 := c0
    have dR := cR
    have fR := qR
    have dB := cB
    have hbel := hbel3
    clear c0 cR qR cB hbel3
    obtain ⟨rb, hrb⟩ : ∃ rb, rb = recB l := ⟨_, rfl⟩
    have HB := Lib.hid hrb
    clear hrb
    go_wp2_with fail
    refine (implIsRecord_any A n c l rb _ (by unfold maxLen; omega) (ha.below hbel) hok HB.out).mono ?_
    rintro e v1 ⟨rfl, c1⟩
    have C1 := hbel.trans (c1.mono hbel.size)
    replace d0 := kcell c1 d0
    replace dR := kcell c1 dR
    replace fR := kfro c1 (by omega) fR
    replace dB := kcell c1 dB
    replace o3 := own_below o3 c1
    have hv1 := c1.size
    clear c1
    cases rb
    · have HN : Hid ((lr, r) = (l, false)) := Lib.hid (by rw [HR.out, setR_impl, ← HB.out]; rfl)
      go_wp2_with fail
      refine (copyRecord_any A n c l _ (by omega) (ha.below C1)).mono ?_
      rintro e v2 ⟨A2, n2, c2, rfl, q2, c2'⟩
      have C2 := C1.trans (c2'.mono C1.size)
      replace dR := kcell c2' dR
      replace fR := kfro c2' (by omega) fR
      have B4 := Lib.hid (C2.setCell (p := ⟨w.heap.size + 1, 0, none⟩) (by simp) (.slice A2 n2 c2))
      have O4 := Lib.hid (own_base (base' := w.heap.size) (ownsRow_setCell_below q2 (a := ⟨w.heap.size + 1, 0, none⟩) (by show w.heap.size + 1 < v1.heap.size; omega) (.slice A2 n2 c2)) (by omega))
      clear c2' q2 C2
      go_wp2
      exact bodyPost_ret (v := .tuple #[.agg #[.slice A2 n2 c2], .bool false]) (by simp [results, Try.results52, go_sem, dR]) rfl (MkRB_mk HN.out O4.out B4.out)
    · obtain ⟨rc, hrc⟩ : ∃ rc, rc = recB (l.set k (nm, x)) := ⟨_, rfl⟩
      have HC := Lib.hid hrc
      clear hrc
      go_wp2_with fail
      refine (implIsRecord_any (some ⟨g, 0, none⟩) n d (l.set k (nm, x)) rc _ (by unfold maxLen; omega) (Rd.of_own o3) HOKM.out HC.out).mono ?_
      rintro e v2 ⟨rfl, c2'⟩
      have C2 := C1.trans (c2'.mono C1.size)
      replace d0 := kcell c2' d0
      replace dR := kcell c2' dR
      replace fR := kfro c2' (by omega) fR
      replace dB := kcell c2' dB
      replace o3 := own_below o3 c2'
      have hv2 := c2'.size
      clear c2'
      cases rc
      · have HN : Hid ((lr, r) = (l, false)) := Lib.hid (by rw [HR.out, setR_impl, HM.out, ← HB.out, ← HC.out]; rfl)
        go_wp2_with fail
        refine (copyRecord_any A n c l _ (by omega) (ha.below C2)).mono ?_
        rintro e v3 ⟨A2, n2, c2, rfl, q2, c3'⟩
        have C3 := C2.trans (c3'.mono C2.size)
        replace dR := kcell c3' dR
        replace fR := kfro c3' (by omega) fR
        have B4 := Lib.hid (C3.setCell (p := ⟨w.heap.size + 1, 0, none⟩) (by simp) (.slice A2 n2 c2))
        have O4 := Lib.hid (own_base (base' := w.heap.size) (ownsRow_setCell_below q2 (a := ⟨w.heap.size + 1, 0, none⟩) (by show w.heap.size + 1 < v2.heap.size; omega) (.slice A2 n2 c2)) (by omega))
        clear c3' q2 C3
        go_wp2
        exact bodyPost_ret (v := .tuple #[.agg #[.slice A2 n2 c2], .bool false]) (by simp [results, Try.results52, go_sem, dR]) rfl (MkRB_mk HN.out O4.out B4.out)
      · have HN : Hid ((lr, r) = ((l.set k (nm, x)), true)) := Lib.hid (by rw [HR.out, setR_impl, HM.out, ← HB.out, ← HC.out]; rfl)
        have B4 := Lib.hid (C2.setCell (p := ⟨w.heap.size + 1, 0, none⟩) (by simp) (.slice (some ⟨g, 0, none⟩) n d))
        have O4 := Lib.hid (own_base (base' := w.heap.size) (ownsRow_setCell_below o3 (a := ⟨w.heap.size + 1, 0, none⟩) (by simp) (.slice (some ⟨g, 0, none⟩) n d)) (by omega))
        clear o3 C2 C1
        go_wp2
        exact bodyPost_ret (v := .tuple #[.agg #[.slice (some ⟨g, 0, none⟩) n d], .bool true]) (by simp [results, Try.results52, go_sem, dR]) rfl (MkRB_mk HN.out O4.out B4.out)
  | none =>
    have hi : i = -1 := by have := HI.out; rw [this]; unfold idxF; rw [hf]
    have HM : Hid (setI l nm x = insF l nm x) := Lib.hid (by unfold setI; rw [hf])
    have HOKM := Lib.hid (okF_ins hok HNM.out hx)
    clear hf
    subst hi
    have hnc := (own_cap o2).1
    have HB1 : Hid (∀ ad : Addr, B = some ad → w.heap.size + 2 ≤ ad.block ∧ ad.block < w1.heap.size) := Lib.hid (fun ad h => by have := R1.out ad h; simp at this; omega)
    go_wp2
    go_loop [10] (fun i => ∃ j : Nat, j ≤ n ∧ j ≤ posF l nm ∧ i = .int .i64 j) (fun i => n - (intOf i).toNat)
    case atStart => exact ⟨0, Nat.zero_le _, Nat.zero_le _, rfl⟩
    case round =>
      obtain ⟨j, hj, hjp, rfl⟩ := hrel
      have i2 : (0 : Int) ≤ (j : Int) := by omega
      have hcase : (∃ b o s y, B = some ⟨b, o, none⟩ ∧ j < n ∧ w2.cell? ⟨b, o + j * 2, none⟩ = some (.string s) ∧ Op.bytesLess s.toList nm.toList = true ∧ l[j]? = some (s, y)) ∨ ((n = j ∨ ∃ b o s, B = some ⟨b, o, none⟩ ∧ j < n ∧ w2.cell? ⟨b, o + j * 2, none⟩ = some (.string s) ∧ Op.bytesLess s.toList nm.toList = false) ∧ j = posF l nm) := by
        by_cases hlt : j < n
        · obtain ⟨b, o, s, y, hB, _, hx2, hc0, _⟩ := (Rd.of_own o2).fld hlt
          cases hl : ltN s nm
          · exact .inr ⟨.inr ⟨b, o, s, hB, hlt, hc0, hl⟩, posF_eq_of hx2 hl hjp⟩
          · exact .inl ⟨b, o, s, y, hB, hlt, hc0, hl, hx2⟩
        · obtain rfl : n = j := by omega
          have := posF_le l nm
          have := LX.out
          exact .inr ⟨.inl rfl, by omega⟩
      rcases hcase with ⟨b, o, s, y, rfl, hlt, hc0, hl, hx2⟩ | ⟨hend, hjp2⟩
      · have i3 : (j : Int) < (n : Int) := by omega
        have HN := Lib.hid (posF_le_of hx2 hl hjp)
        clear hx2
        go_wp2
        go_round
        case rel => exact ⟨j + 1, by omega, HN.out, by go_num⟩
        case measure => simp [intOf]; omega
      · have HJ := Lib.hid hjp2
        clear hjp2 hjp
        rcases hend with rfl | ⟨b, o, s, rfl, hlt, hc0, hl⟩
        all_goals
          go_wp2_with fail
          refine (sliceInsert_any _ _ d (w.heap.size + 2) _ l nm x w2 (by omega) (by omega) (by omega) o2).mono ?_
          rintro e w3 ⟨A3, c3, rfl, o3, g3⟩
          rw [show l.take _ ++ (nm, x) :: l.drop _ = insF l nm x by rw [HJ.out]; rfl] at o3
          obtain ⟨q, hq⟩ : ∃ q, q = n + 1 := ⟨_, rfl⟩
          rw [← hq] at o3 ⊢
          have hq6 : q ≤ 1048577 := by omega
          clear hq
          have hB1 := HB1.out
          have hAne := own_ne_type o3 ((grown_blk g3 hs2 (fun ad h => by have := hB1 ad h; omega)).trans HX.out) (by decide)
          have c0 := (World.cell?_of_block (a := ⟨w.heap.size, 0, none⟩) (grown_blk g3 (by show w.heap.size < _; omega) (fun ad h => by have := hB1 ad h; show ad.block ≠ w.heap.size; omega))).trans d0
          have cR := (World.cell?_of_block (a := ⟨w.heap.size + 1, 0, none⟩) (grown_blk g3 (by show w.heap.size + 1 < _; omega) (fun ad h => by have := hB1 ad h; show ad.block ≠ w.heap.size + 1; omega))).trans dR
          have qR := (World.frozen?_of_block (a := ⟨w.heap.size + 1, 0, none⟩) (grown_blk g3 (by show w.heap.size + 1 < _; omega) (fun ad h => by have := hB1 ad h; show ad.block ≠ w.heap.size + 1; omega))).trans fR
          have cB := (World.cell?_of_block (a := ⟨w1.heap.size, 0, none⟩) (grown_blk g3 hs2 (fun ad h => by have := hB1 ad h; show ad.block ≠ w1.heap.size; omega))).trans dB
          have qB := (World.frozen?_of_block (a := ⟨w1.heap.size, 0, none⟩) (grown_blk g3 hs2 (fun ad h => by have := hB1 ad h; show ad.block ≠ w1.heap.size; omega))).trans fB
          have hbel3 : Below w.heap.size w w3 := hbel.trans (grown_below g3 hbel.size (fun ad h => by have := hB1 ad h; omega))
          have gz3 := g3.size
          have o4 := Lib.hid (ownsRow_setCell_other o3 (a := ⟨w1.heap.size, 0, none⟩) (ownBlock_ne hAne) (.slice A3 q c3))
          have k0 := (World.cell?_setCell_far w3 ⟨w1.heap.size, 0, none⟩ ⟨w.heap.size, 0, none⟩ (.slice A3 q c3) (by show w1.heap.size ≠ w.heap.size; omega)).trans c0
          have kR := (World.cell?_setCell_far w3 ⟨w1.heap.size, 0, none⟩ ⟨w.heap.size + 1, 0, none⟩ (.slice A3 q c3) (by show w1.heap.size ≠ w.heap.size + 1; omega)).trans cR
          have jR : (w3.setCell ⟨w1.heap.size, 0, none⟩ (.slice A3 q c3)).frozen? ⟨w.heap.size + 1, 0, none⟩ = false := by simp [qR]
          have kB : (w3.setCell ⟨w1.heap.size, 0, none⟩ (.slice A3 q c3)).cell? ⟨w1.heap.size, 0, none⟩ = some (.slice A3 q c3) := by simp [go_sem, cB]
          have hbel4 := Lib.hid (hbel3.setCell (p := ⟨w1.heap.size, 0, none⟩) (by show w.heap.size ≤ w1.heap.size; omega) (.slice A3 q c3))
          have gz4 : Hid (w2.heap.size ≤ (w3.setCell ⟨w1.heap.size, 0, none⟩ (.slice A3 q c3)).heap.size) := Lib.hid (by simp; omega)
          clear d0 dR fR dB fB hbel o2 o3 g3 hB1 hAne c0 cR qR hbel3 gz3
          go_wp2_with fail
          clear cB qB
          obtain ⟨w4, hw4⟩ : ∃ w4, w4 = w3.setCell ⟨w1.heap.size, 0, none⟩ (.slice A3 q c3) := ⟨_, rfl⟩
          rw [← hw4] at o4 k0 kR jR kB hbel4 gz4 ⊢
          clear hw4
          have o4 := o4.out
          have d0 := k0
          have dR := kR
          have fR := jR
          have dB := kB
          have hbel := hbel4.out
          have hs4 := gz4.out
          clear k0 kR jR kB hbel4 gz4
          obtain ⟨rb, hrb⟩ : ∃ rb, rb = recB l := ⟨_, rfl⟩
          have HB := Lib.hid hrb
          clear hrb
          go_wp2_with fail
          refine (implIsRecord_any A n c l rb _ (by unfold maxLen; omega) (ha.below hbel) hok HB.out).mono ?_
          rintro e v1 ⟨rfl, c1⟩
          have C1 := hbel.trans (c1.mono hbel.size)
          replace d0 := kcell c1 d0
          replace dR := kcell c1 dR
          replace fR := kfro c1 (by omega) fR
          replace dB := kcell c1 dB
          replace o4 := own_below o4 c1
          have hv1 := c1.size
          clear c1
          cases rb
          · have HN : Hid ((lr, r) = (l, false)) := Lib.hid (by rw [HR.out, setR_impl, ← HB.out]; rfl)
            go_wp2_with fail
            refine (copyRecord_any A n c l _ (by omega) (ha.below C1)).mono ?_
            rintro e v2 ⟨A2, n2, c2, rfl, q2, c2'⟩
            have C2 := C1.trans (c2'.mono C1.size)
            replace dR := kcell c2' dR
            replace fR := kfro c2' (by omega) fR
            have B4 := Lib.hid (C2.setCell (p := ⟨w.heap.size + 1, 0, none⟩) (by simp) (.slice A2 n2 c2))
            have O4 := Lib.hid (own_base (base' := w.heap.size) (ownsRow_setCell_below q2 (a := ⟨w.heap.size + 1, 0, none⟩) (by show w.heap.size + 1 < v1.heap.size; omega) (.slice A2 n2 c2)) (by omega))
            clear c2' q2 C2
            go_wp2
            exact bodyPost_ret (v := .tuple #[.agg #[.slice A2 n2 c2], .bool false]) (by simp [results, Try.results52, go_sem, dR]) rfl (MkRB_mk HN.out O4.out B4.out)
          · obtain ⟨rc, hrc⟩ : ∃ rc, rc = recB (insF l nm x) := ⟨_, rfl⟩
            have HC := Lib.hid hrc
            clear hrc
            go_wp2_with fail
            refine (implIsRecord_any A3 q c3 (insF l nm x) rc _ (by unfold maxLen; omega) (Rd.of_own o4) HOKM.out HC.out).mono ?_
            rintro e v2 ⟨rfl, c2'⟩
            have C2 := C1.trans (c2'.mono C1.size)
            replace d0 := kcell c2' d0
            replace dR := kcell c2' dR
            replace fR := kfro c2' (by omega) fR
            replace dB := kcell c2' dB
            replace o4 := own_below o4 c2'
            have hv2 := c2'.size
            clear c2'
            cases rc
            · have HN : Hid ((lr, r) = (l, false)) := Lib.hid (by rw [HR.out, setR_impl, HM.out, ← HB.out, ← HC.out]; rfl)
              go_wp2_with fail
              refine (copyRecord_any A n c l _ (by omega) (ha.below C2)).mono ?_
              rintro e v3 ⟨A2, n2, c2, rfl, q2, c3'⟩
              have C3 := C2.trans (c3'.mono C2.size)
              replace dR := kcell c3' dR
              replace fR := kfro c3' (by omega) fR
              have B4 := Lib.hid (C3.setCell (p := ⟨w.heap.size + 1, 0, none⟩) (by simp) (.slice A2 n2 c2))
              have O4 := Lib.hid (own_base (base' := w.heap.size) (ownsRow_setCell_below q2 (a := ⟨w.heap.size + 1, 0, none⟩) (by show w.heap.size + 1 < v2.heap.size; omega) (.slice A2 n2 c2)) (by omega))
              clear c3' q2 C3
              go_wp2
              exact bodyPost_ret (v := .tuple #[.agg #[.slice A2 n2 c2], .bool false]) (by simp [results, Try.results52, go_sem, dR]) rfl (MkRB_mk HN.out O4.out B4.out)
            · have HN : Hid ((lr, r) = ((insF l nm x), true)) := Lib.hid (by rw [HR.out, setR_impl, HM.out, ← HB.out, ← HC.out]; rfl)
              have B4 := Lib.hid (C2.setCell (p := ⟨w.heap.size + 1, 0, none⟩) (by simp) (.slice A3 q c3))
              have O4 := Lib.hid (own_base (base' := w.heap.size) (ownsRow_setCell_below o4 (a := ⟨w.heap.size + 1, 0, none⟩) (by simp) (.slice A3 q c3)) (by omega))
              clear o4 C2 C1
              go_wp2
              exact bodyPost_ret (v := .tuple #[.agg #[.slice A3 q c3], .bool true]) (by simp [results, Try.results52, go_sem, dR]) rfl (MkRB_mk HN.out O4.out B4.out)
end Go.Proofs.Ytbbngihmjdndoaa
