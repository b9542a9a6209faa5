/-
  Proved: the contract of MergeRecords of the reference. Conditions: the slices read as lists.
  By an AI agent; no person has read it.
-/
import Derived.Test.YtbbngihmjdndoaaMrgI
import Derived.Test.YtbbngihmjdndoaaFldRm
namespace Go.Proofs.Ytbbngihmjdndoaa
open Go.RowKit

theorem specMax_any (a b : Int) (w : World) :
    Calls Try.prog 131 #[.int .i64 a, .int .i64 b] w fun e w' => e = .returned (.int .i64 (max a b)) ∧ w' = w := by
  by_cases h : a < b
  · have h2 : max a b = b := by omega
    rw [h2]
    go_enter Try.func131, Try.ntmps131
    go_wp2
    go_ret
    exact ⟨rfl, rfl⟩
  · have h2 : max a b = a := by omega
    rw [h2]
    go_enter Try.func131, Try.ntmps131
    go_wp2
    go_ret
    exact ⟨rfl, rfl⟩

set_option maxRecDepth 100000 in
set_option maxHeartbeats 1000000 in
theorem l5Merge_any (Ao Aa Ab : Option Addr) (no na nb co ca cb : Nat) (lo la lb : List Fld) (nm : ByteArray) (v : Int) (h : Bool) (w : World) (hno : no ≤ maxLen) (hna : na ≤ maxLen) (hnb : nb ≤ maxLen)
    (ho : Rd w 2 Ao no (fl lo)) (ha : Rd w 2 Aa na (fl la)) (hb : Rd w 2 Ab nb (fl lb)) (hr : (v, h) = mgN lo la lb nm) :
    Calls Try.prog 75 #[.agg #[.slice Ao no co], .agg #[.slice Aa na ca], .agg #[.slice Ab nb cb], .string nm] w fun e w' => e = .returned (.tuple #[.int .i64 v, .bool h]) ∧ Below w.heap.size w w' := by
  obtain ⟨xo, bo, hxo⟩ : ∃ x b, (x, b) = getF lo nm := ⟨_, _, rfl⟩
  obtain ⟨xa, ba, hxa⟩ : ∃ x b, (x, b) = getF la nm := ⟨_, _, rfl⟩
  obtain ⟨xb, bb, hxb⟩ : ∃ x b, (x, b) = getF lb nm := ⟨_, _, rfl⟩
  have HP : Hid ((v, h) = mgF (xo, bo) (xa, ba) (xb, bb)) := by
    show _ = _
    rw [hr]
    show mgF _ _ _ = _
    rw [hxo, hxa, hxb]
  have HXo := Lib.hid hxo
  have HXa := Lib.hid hxa
  have HXb := Lib.hid hxb
  clear hxo hxa hxb hr
  go_enter Try.func75, Try.ntmps75
  go_wp2_with fail
  refine (specGetField_any Ao no co lo nm xo bo _ hno (((ho.alloc _).alloc _).alloc _) HXo.out).mono ?_
  rintro e w1 ⟨rfl, b1⟩
  have B1 : Below w.heap.size w w1 := Below.trans (al (al (al (Below.refl _ _)))) (b1.mono (by simp; omega))
  have dA : w1.cell? ⟨w.heap.size + 1, 0, none⟩ = some (.slice Aa na ca) := kcell b1 (by simp [go_sem])
  have dB : w1.cell? ⟨w.heap.size + 1 + 1, 0, none⟩ = some (.slice Ab nb cb) := kcell b1 (by simp [go_sem])
  clear b1
  go_wp2_with fail
  refine (specGetField_any Aa na ca la nm xa ba _ hna (ha.below B1) HXa.out).mono ?_
  rintro e w2 ⟨rfl, b2⟩
  have B2 := B1.trans (b2.mono B1.size)
  replace dB := kcell b2 dB
  clear b2
  go_wp2_with fail
  refine (specGetField_any Ab nb cb lb nm xb bb _ hnb (hb.below B2) HXb.out).mono ?_
  rintro e w3 ⟨rfl, b3⟩
  have B3 := B2.trans (b3.mono B2.size)
  clear b3
  have HN1 := Lib.hid (mg_parts HP.out)
  clear HXo HXa HXb HP
  rcases HN1.out with ⟨e1, e2, h1, h2⟩ | ⟨hne, e1, e2, h1, h2⟩ | ⟨hne, hne2, h1, h2⟩
  · have HV1 := Lib.hid h1
    have HV2 := Lib.hid h2
    clear h1 h2 HN1
    subst e1
    subst e2
    go_wp2
    go_ret2
    exact ⟨by rw [HV1.out, HV2.out]; rfl, B3⟩
  · have HV1 := Lib.hid h1
    have HV2 := Lib.hid h2
    have HNE := Lib.hid hne
    clear h1 h2 HN1 hne
    subst e1
    subst e2
    by_cases ex : xa = xb
    · have ex2 : (ba == bb) = false := HNE.out ex
      subst ex
      go_wp2
      go_ret2
      exact ⟨by rw [HV1.out, HV2.out]; rfl, B3⟩
    · skip
      go_wp2
      go_ret2
      exact ⟨by rw [HV1.out, HV2.out]; rfl, B3⟩
  · have HV1 := Lib.hid h1
    have HV2 := Lib.hid h2
    have HNE := Lib.hid hne
    have HNE2 := Lib.hid hne2
    clear h1 h2 HN1 hne hne2
    by_cases ex : xa = xo
    · have ex2 : (ba == bo) = false := HNE.out ex
      subst ex
      by_cases ey : xb = xa
      · have ey2 : (bb == bo) = false := HNE2.out ey
        subst ey
        replace HV1 : Hid (v = xb) := by have q := HV1.out; show v = xb; omega
        cases ba
        all_goals
          go_wp2_with fail
          refine (specMax_any xb xb _).mono ?_
          rintro e w4 ⟨rfl, rfl⟩
          go_wp2
          go_ret2
          exact ⟨by rw [HV1.out, HV2.out]; rfl, B3⟩
      · skip
        cases ba
        all_goals
          go_wp2_with fail
          refine (specMax_any xa xb _).mono ?_
          rintro e w4 ⟨rfl, rfl⟩
          go_wp2
          go_ret2
          exact ⟨by rw [HV1.out, HV2.out]; rfl, B3⟩
    · by_cases ey : xb = xo
      · have ey2 : (bb == bo) = false := HNE2.out ey
        subst ey
        cases ba
        all_goals
          go_wp2_with fail
          refine (specMax_any xa xb _).mono ?_
          rintro e w4 ⟨rfl, rfl⟩
          go_wp2
          go_ret2
          exact ⟨by rw [HV1.out, HV2.out]; rfl, B3⟩
      · skip
        cases ba
        all_goals
          go_wp2_with fail
          refine (specMax_any xa xb _).mono ?_
          rintro e w4 ⟨rfl, rfl⟩
          go_wp2
          go_ret2
          exact ⟨by rw [HV1.out, HV2.out]; rfl, B3⟩

theorem drop_at {l : List Fld} {k : Nat} {f : Fld} (h : l[k]? = some f) : l.drop k = f :: l.drop (k + 1) := by
  have hk := (List.getElem?_eq_some_iff.1 h).1
  rw [List.drop_eq_getElem_cons hk, (List.getElem?_eq_some_iff.1 h).2]

set_option maxRecDepth 100000 in
set_option maxHeartbeats 8000000 in
theorem specMergeRecords_any (Ao Aa Ab : Option Addr) (no na nb co ca cb : Nat) (lo la lb : List Fld) (lr : List Fld) (r : Bool) (w : World) (hno : no ≤ 1048576) (hna : na ≤ 1048576) (hnb : nb ≤ 1048576)
    (ho : Rd w 2 Ao no (fl lo)) (ha : Rd w 2 Aa na (fl la)) (hb : Rd w 2 Ab nb (fl lb)) (oko : okF lo) (oka : okF la) (okb : okF lb) (hr : (lr, r) = mrgR lo la lb) :
    Calls Try.prog 20 #[.agg #[.slice Ao no co], .agg #[.slice Aa na ca], .agg #[.slice Ab nb cb]] w (MkRB w lr r) := by
  obtain ⟨ft, fi, fz0, fz1, fz2⟩ := info_parts infoF
  have HR := Lib.hid hr
  have LO := Lib.hid ho.lenF
  have LA := Lib.hid ha.lenF
  have LB := Lib.hid hb.lenF
  clear hr
  obtain ⟨W, hW⟩ : ∃ W, W = ((((w.alloc (.cells #[.slice Ao no co] 28)).alloc (.cells #[.slice Aa na ca] 28)).alloc (.cells #[.slice Ab nb cb] 28)).alloc (.cells #[.slice none 0 0] 28)) := ⟨_, rfl⟩
  have BW : Below w.heap.size w W := by rw [hW]; exact al (al (al (al (Below.refl _ _))))
  have dO : W.cell? ⟨w.heap.size, 0, none⟩ = some (.slice Ao no co) := by rw [hW]; simp [go_sem]
  have dA : W.cell? ⟨w.heap.size + 1, 0, none⟩ = some (.slice Aa na ca) := by rw [hW]; simp [go_sem]
  have dB : W.cell? ⟨w.heap.size + 1 + 1, 0, none⟩ = some (.slice Ab nb cb) := by rw [hW]; simp [go_sem]
  have dR : W.cell? ⟨w.heap.size + 1 + 1 + 1, 0, none⟩ = some (.slice none 0 0) := by rw [hW]; simp [go_sem]
  have fR : W.frozen? ⟨w.heap.size + 1 + 1 + 1, 0, none⟩ = false := by rw [hW]; simp [go_sem]
  have hsW : w.heap.size + 1 + 1 + 1 < W.heap.size := by rw [hW]; simp
  have HW := Lib.hid hW
  clear hW
  obtain ⟨ro, hro⟩ : ∃ x, x = recB lo := ⟨_, rfl⟩
  have Ho := Lib.hid hro
  clear hro
  go_enter Try.func20, Try.ntmps20
  go_wp2_with fail
  rw [← HW.out]
  refine (specIsRecord_any Ao no co lo ro _ (by unfold maxLen; omega) (ho.below BW) oko Ho.out).mono ?_
  rintro e v1 ⟨rfl, cv1⟩
  have C1 := BW.trans (cv1.mono BW.size)
  replace dO := kcell cv1 dO
  replace dA := kcell cv1 dA
  replace dB := kcell cv1 dB
  replace dR := kcell cv1 dR
  replace fR := kfro cv1 (by omega) fR
  have hsv1 : w.heap.size + 1 + 1 + 1 < v1.heap.size := Nat.lt_of_lt_of_le hsW cv1.size
  clear cv1
  cases ro
  · go_wp2_with fail
    refine (l5Copy_any _ _ ca la _ (by omega) (ha.below C1)).mono ?_
    rintro e u0 ⟨A9, n9, c9, rfl, q9, t9⟩
    have C9 := C1.trans (t9.mono C1.size)
    replace dR := kcell t9 dR
    replace fR := kfro t9 (by omega) fR
    have B9 := Lib.hid (C9.setCell (p := ⟨w.heap.size + 1 + 1 + 1, 0, none⟩) (by show w.heap.size ≤ w.heap.size + 1 + 1 + 1; omega) (.slice A9 n9 c9))
    have O9 := Lib.hid (own_base (base' := w.heap.size) (ownsRow_setCell_below q9 (a := ⟨w.heap.size + 1 + 1 + 1, 0, none⟩) (by show w.heap.size + 1 + 1 + 1 < v1.heap.size; omega) (.slice A9 n9 c9)) (by omega))
    have HN := (Lib.hid (HR.out.trans (if_neg (by rw [← Ho.out]; simp))) : Hid ((lr, r) = (la, false)))
    clear t9 q9 C9
    go_wp2
    exact bodyPost_ret (v := .tuple #[.agg #[.slice A9 n9 c9], .bool false]) (by simp [results, Try.results20, go_sem, dR]) rfl (MkRB_mk HN.out O9.out B9.out)
  · skip
    obtain ⟨ra, hra⟩ : ∃ x, x = recB la := ⟨_, rfl⟩
    have Ha := Lib.hid hra
    clear hra
    go_wp2_with fail
    refine (specIsRecord_any Aa na ca la ra _ (by unfold maxLen; omega) (ha.below C1) oka Ha.out).mono ?_
    rintro e v2 ⟨rfl, cv2⟩
    have C2 := C1.trans (cv2.mono C1.size)
    replace dO := kcell cv2 dO
    replace dA := kcell cv2 dA
    replace dB := kcell cv2 dB
    replace dR := kcell cv2 dR
    replace fR := kfro cv2 (by omega) fR
    have hsv2 : w.heap.size + 1 + 1 + 1 < v2.heap.size := Nat.lt_of_lt_of_le hsv1 cv2.size
    clear cv2
    cases ra
    · go_wp2_with fail
      refine (l5Copy_any _ _ ca la _ (by omega) (ha.below C2)).mono ?_
      rintro e u1 ⟨A9, n9, c9, rfl, q9, t9⟩
      have C9 := C2.trans (t9.mono C2.size)
      replace dR := kcell t9 dR
      replace fR := kfro t9 (by omega) fR
      have B9 := Lib.hid (C9.setCell (p := ⟨w.heap.size + 1 + 1 + 1, 0, none⟩) (by show w.heap.size ≤ w.heap.size + 1 + 1 + 1; omega) (.slice A9 n9 c9))
      have O9 := Lib.hid (own_base (base' := w.heap.size) (ownsRow_setCell_below q9 (a := ⟨w.heap.size + 1 + 1 + 1, 0, none⟩) (by show w.heap.size + 1 + 1 + 1 < v2.heap.size; omega) (.slice A9 n9 c9)) (by omega))
      have HN := (Lib.hid (HR.out.trans (if_neg (by rw [← Ho.out, ← Ha.out]; simp))) : Hid ((lr, r) = (la, false)))
      clear t9 q9 C9
      go_wp2
      exact bodyPost_ret (v := .tuple #[.agg #[.slice A9 n9 c9], .bool false]) (by simp [results, Try.results20, go_sem, dR]) rfl (MkRB_mk HN.out O9.out B9.out)
    · skip
      obtain ⟨rb, hrb⟩ : ∃ x, x = recB lb := ⟨_, rfl⟩
      have Hb := Lib.hid hrb
      clear hrb
      go_wp2_with fail
      refine (specIsRecord_any Ab nb cb lb rb _ (by unfold maxLen; omega) (hb.below C2) okb Hb.out).mono ?_
      rintro e v3 ⟨rfl, cv3⟩
      have C3 := C2.trans (cv3.mono C2.size)
      replace dO := kcell cv3 dO
      replace dA := kcell cv3 dA
      replace dB := kcell cv3 dB
      replace dR := kcell cv3 dR
      replace fR := kfro cv3 (by omega) fR
      have hsv3 : w.heap.size + 1 + 1 + 1 < v3.heap.size := Nat.lt_of_lt_of_le hsv2 cv3.size
      clear cv3
      cases rb
      · go_wp2_with fail
        refine (l5Copy_any _ _ ca la _ (by omega) (ha.below C3)).mono ?_
        rintro e u2 ⟨A9, n9, c9, rfl, q9, t9⟩
        have C9 := C3.trans (t9.mono C3.size)
        replace dR := kcell t9 dR
        replace fR := kfro t9 (by omega) fR
        have B9 := Lib.hid (C9.setCell (p := ⟨w.heap.size + 1 + 1 + 1, 0, none⟩) (by show w.heap.size ≤ w.heap.size + 1 + 1 + 1; omega) (.slice A9 n9 c9))
        have O9 := Lib.hid (own_base (base' := w.heap.size) (ownsRow_setCell_below q9 (a := ⟨w.heap.size + 1 + 1 + 1, 0, none⟩) (by show w.heap.size + 1 + 1 + 1 < v3.heap.size; omega) (.slice A9 n9 c9)) (by omega))
        have HN := (Lib.hid (HR.out.trans (if_neg (by rw [← Ho.out, ← Ha.out, ← Hb.out]; simp))) : Hid ((lr, r) = (la, false)))
        clear t9 q9 C9
        go_wp2
        exact bodyPost_ret (v := .tuple #[.agg #[.slice A9 n9 c9], .bool false]) (by simp [results, Try.results20, go_sem, dR]) rfl (MkRB_mk HN.out O9.out B9.out)
      · skip
        have HE : Hid ((lr, r) = if recB (mrgL lo la lb) then (mrgL lo la lb, true) else (la, false)) := by
          show _ = _
          rw [HR.out]
          unfold mrgR
          rw [← Ho.out, ← Ha.out, ← Hb.out]
          rfl
        go_wp2
        obtain ⟨G0, hG0⟩ : ∃ g, g = v3.heap.size := ⟨_, rfl⟩
        obtain ⟨V, hV⟩ : ∃ V, V = v3.alloc (.cells #[.slice none 0 0] 28) := ⟨_, rfl⟩
        have BV : Below w.heap.size w V := by rw [hV]; exact al C3
        have BV3 : Below v3.heap.size v3 V := by rw [hV]; exact al (Below.refl _ _)
        replace dO := kcell BV3 dO
        replace dA := kcell BV3 dA
        replace dB := kcell BV3 dB
        replace dR := kcell BV3 dR
        replace fR := kfro BV3 (by omega) fR
        have dG : V.cell? ⟨G0, 0, none⟩ = some (.slice none 0 0) := by rw [hV, hG0]; simp
        have fG : V.frozen? ⟨G0, 0, none⟩ = false := by rw [hV, hG0]; simp [go_sem]
        have hsG : G0 + 1 ≤ V.heap.size := by rw [hV, hG0]; simp
        have hsG0 : w.heap.size + 1 + 1 + 1 < G0 := by omega
        rw [← hV, ← hG0]
        clear hV hG0 C3 BV3 hsv3
        go_loopw [9, 10] (fun x y wr => ∃ (i k : Nat) (done : List ByteArray) (O : Option Addr) (p c : Nat), i ≤ na ∧ k ≤ nb ∧ x = .int .i64 i ∧ y = .int .i64 k ∧ uniN la lb = done ++ uniN (la.drop i) (lb.drop k) ∧ wr.ownsRow (G0 + 1) 91 2 (.slice O p c) p (fl (mgL lo la lb done)) ∧ Below w.heap.size w wr ∧ wr.cell? ⟨w.heap.size, 0, none⟩ = some (.slice Ao no co) ∧ wr.cell? ⟨w.heap.size + 1, 0, none⟩ = some (.slice Aa na ca) ∧ wr.cell? ⟨w.heap.size + 1 + 1, 0, none⟩ = some (.slice Ab nb cb) ∧ wr.cell? ⟨w.heap.size + 1 + 1 + 1, 0, none⟩ = some (.slice none 0 0) ∧ wr.frozen? ⟨w.heap.size + 1 + 1 + 1, 0, none⟩ = false ∧ wr.cell? ⟨G0, 0, none⟩ = some (.slice O p c) ∧ wr.frozen? ⟨G0, 0, none⟩ = false ∧ G0 + 1 ≤ wr.heap.size) (fun x y _ => (na - (intOf x).toNat) + (nb - (intOf y).toNat))
        case atStart => exact ⟨0, 0, [], none, 0, 0, Nat.zero_le _, Nat.zero_le _, rfl, rfl, rfl, own_nilF, BV, dO, dA, dB, dR, fR, dG, fG, hsG⟩
        case round =>
          clear BV dO dA dB dR fR dG fG hsG
          obtain ⟨i, k, done, O, p, c, hi, hk, rfl, rfl, hu, oF, hbel, dO, dA, dB, dR, fR, dG, fG, hsz⟩ := hrel
          have HU := Lib.hid hu
          have HOF := Lib.hid oF
          have hp : p ≤ 2097152 := by
            have h1 := own_lenF oF
            have h2 := mgL_len (lo := lo) (la := la) (lb := lb) done
            have h3 := uniN_len la lb
            rw [hu, List.length_append] at h3
            have h4 := LA.out
            have h5 := LB.out
            omega
          clear hu oF
          have i0 : (0 : Int) ≤ (i : Int) := by omega
          have k0 : (0 : Int) ≤ (k : Int) := by omega
          by_cases hia : i < na
          · obtain ⟨b, o, s, x, rfl, _hb1, hx, hc0, hc1⟩ := (ha.below hbel).fld hia
            have HX := Lib.hid hx
            have HDA := Lib.hid (drop_at hx)
            have i1 : (i : Int) < (na : Int) := by omega
            clear hx
            by_cases hkb : k < nb
            · obtain ⟨b2, o2, s2, x2, rfl, _hb2, hy, hd0, hd1⟩ := (hb.below hbel).fld hkb
              have HY := Lib.hid hy
              have HDB := Lib.hid (drop_at hy)
              have k1 : (k : Int) < (nb : Int) := by omega
              have k2 : ¬ (nb : Int) ≤ (k : Int) := by omega
              clear hy
              cases hlt : ltN s2 s
              · by_cases heq : s2 = s
                · subst heq
                  have hl1 : Op.bytesLess s2.toList s2.toList = false := hlt
                  obtain ⟨v, h, hvh⟩ : ∃ v h, (v, h) = mgN lo la lb s2 := ⟨_, _, rfl⟩
                  have HVH := Lib.hid hvh
                  have HU2 : Hid (uniN la lb = (done ++ [s2]) ++ uniN (la.drop (i + 1)) (lb.drop (k + 1))) := by
                    show _ = _
                    rw [HU.out, List.append_assoc]
                    congr 1
                    rw [HDA.out, HDB.out, uniN_cons, if_neg (by simp [ltN_irr]), if_pos rfl]; rfl
                  have HST : Hid (mgL lo la lb (done ++ [s2]) = mgL lo la lb done ++ (if h then [(s2, v)] else [])) := by
                    show _ = _
                    unfold mgL
                    rw [List.filterMap_append]
                    congr 1
                    simp only [List.filterMap_cons, List.filterMap_nil, mgO, ← hvh]
                    cases h <;> rfl
                  clear hvh hlt
                  go_wp2
                  go_quiet (fail)
                  go_wp2_with fail
                  refine (l5Merge_any Ao _ _ no _ _ co ca cb lo la lb s2 v h _ (by unfold maxLen; omega) (by unfold maxLen; omega) (by unfold maxLen; omega) (ho.below (below_drewN hbel _)) (ha.below (below_drewN hbel _)) (hb.below (below_drewN hbel _)) HVH.out).mono ?_
                  rintro e w6 ⟨rfl, q6⟩
                  replace q6 : Below wr.heap.size wr w6 := ⟨q6.os, q6.tape, q6.output, q6.size, q6.block⟩
                  have B6 := hbel.trans (q6.mono hbel.size)
                  replace dO := kcell q6 dO
                  replace dA := kcell q6 dA
                  replace dB := kcell q6 dB
                  replace dR := kcell q6 dR
                  replace fR := kfro q6 (by omega) fR
                  replace dG := kcell q6 dG
                  replace fG := kfro q6 (by omega) fG
                  replace HOF : Hid (w6.ownsRow (G0 + 1) 91 2 (.slice O p c) p (fl (mgL lo la lb done))) := own_below HOF.out q6
                  have hs6 : G0 + 1 ≤ w6.heap.size := Nat.le_trans hsz q6.size
                  clear q6
                  cases h
                  · have HOF2 : Hid (w6.ownsRow (G0 + 1) 91 2 (.slice O p c) p (fl (mgL lo la lb (done ++ [s2])))) := by
                      show World.ownsRow _ _ _ _ _ _ _
                      rw [HST.out]
                      simpa using HOF.out
                    go_wp2
                    go_roundw
                    case rel => exact ⟨(i + 1), (k + 1), _, O, p, c, by omega, by omega, by go_num, by go_num, HU2.out, HOF2.out, B6, dO, dA, dB, dR, fR, dG, fG, hs6⟩
                    case measure => simp [intOf]; omega
                  · go_wp2_with (at_builtin; refine wpList_pushF w6 rfl _ _ 26 (by rfl) (G0 + 1) 91 ft (.agg #[.string ⟨#[]⟩, .int .i64 0]) 24 Try.underlying26 fi fz0 fz1 fz2 rfl O p c _ (by rfl) HOF.out s2 v (by rfl) ?c1 ?c2 ?c3 ?_)
                    case c1 => unfold maxLen; omega
                    case c2 => omega
                    case c3 => exact hs6
                    intro A7 p7 c7 w7 hp7 o7 b7 g7
                    have hs7 : G0 + 1 ≤ w7.heap.size := by have := b7.size; omega
                    have HOF2 : Hid (w7.ownsRow (G0 + 1) 91 2 (.slice A7 p7 c7) p7 (fl (mgL lo la lb (done ++ [s2])))) := by
                      show World.ownsRow _ _ _ _ _ _ _
                      rw [HST.out]
                      simpa using o7
                    have HO8 := Lib.hid (ownsRow_setCell_below HOF2.out (a := ⟨G0, 0, none⟩) (by simp) (.slice A7 p7 c7))
                    have B7 := B6.trans (b7.mono (by omega))
                    have B8 := Lib.hid (B7.setCell (p := ⟨G0, 0, none⟩) (by show w.heap.size ≤ G0; omega) (.slice A7 p7 c7))
                    replace dO := (b7.cell (p := ⟨w.heap.size, 0, none⟩) (by show w.heap.size < G0 + 1; omega)).trans dO
                    have dO8 : Hid ((w7.setCell ⟨G0, 0, none⟩ (.slice A7 p7 c7)).cell? ⟨w.heap.size, 0, none⟩ = some (.slice Ao no co)) := by
                      show _ = _
                      rw [World.cell?_setCell_far w7 ⟨G0, 0, none⟩ ⟨w.heap.size, 0, none⟩ _ (by show G0 ≠ w.heap.size; omega)]
                      exact dO
                    replace dA := (b7.cell (p := ⟨w.heap.size + 1, 0, none⟩) (by show w.heap.size + 1 < G0 + 1; omega)).trans dA
                    have dA8 : Hid ((w7.setCell ⟨G0, 0, none⟩ (.slice A7 p7 c7)).cell? ⟨w.heap.size + 1, 0, none⟩ = some (.slice (some ⟨b, o, none⟩) na ca)) := by
                      show _ = _
                      rw [World.cell?_setCell_far w7 ⟨G0, 0, none⟩ ⟨w.heap.size + 1, 0, none⟩ _ (by show G0 ≠ w.heap.size + 1; omega)]
                      exact dA
                    replace dB := (b7.cell (p := ⟨w.heap.size + 1 + 1, 0, none⟩) (by show w.heap.size + 1 + 1 < G0 + 1; omega)).trans dB
                    have dB8 : Hid ((w7.setCell ⟨G0, 0, none⟩ (.slice A7 p7 c7)).cell? ⟨w.heap.size + 1 + 1, 0, none⟩ = some (.slice (some ⟨b2, o2, none⟩) nb cb)) := by
                      show _ = _
                      rw [World.cell?_setCell_far w7 ⟨G0, 0, none⟩ ⟨w.heap.size + 1 + 1, 0, none⟩ _ (by show G0 ≠ w.heap.size + 1 + 1; omega)]
                      exact dB
                    replace dR := (b7.cell (p := ⟨w.heap.size + 1 + 1 + 1, 0, none⟩) (by show w.heap.size + 1 + 1 + 1 < G0 + 1; omega)).trans dR
                    have dR8 : Hid ((w7.setCell ⟨G0, 0, none⟩ (.slice A7 p7 c7)).cell? ⟨w.heap.size + 1 + 1 + 1, 0, none⟩ = some (.slice none 0 0)) := by
                      show _ = _
                      rw [World.cell?_setCell_far w7 ⟨G0, 0, none⟩ ⟨w.heap.size + 1 + 1 + 1, 0, none⟩ _ (by show G0 ≠ w.heap.size + 1 + 1 + 1; omega)]
                      exact dR
                    replace fR := (b7.frozen (p := ⟨w.heap.size + 1 + 1 + 1, 0, none⟩) (by show w.heap.size + 1 + 1 + 1 < G0 + 1; omega)).trans fR
                    have fR8 : Hid ((w7.setCell ⟨G0, 0, none⟩ (.slice A7 p7 c7)).frozen? ⟨w.heap.size + 1 + 1 + 1, 0, none⟩ = false) := Lib.hid (by simp [fR])
                    replace dG : w7.cell? ⟨G0, 0, none⟩ = some (.slice O p c) := (b7.cell (p := ⟨G0, 0, none⟩) (by simp)).trans dG
                    replace fG : w7.frozen? ⟨G0, 0, none⟩ = false := (b7.frozen (p := ⟨G0, 0, none⟩) (by simp)).trans fG
                    have dG8 : Hid ((w7.setCell ⟨G0, 0, none⟩ (.slice A7 p7 c7)).cell? ⟨G0, 0, none⟩ = some (.slice A7 p7 c7)) := Lib.hid (by simp [go_sem, dG])
                    have fG8 : Hid ((w7.setCell ⟨G0, 0, none⟩ (.slice A7 p7 c7)).frozen? ⟨G0, 0, none⟩ = false) := Lib.hid (by simp [fG])
                    have hs8 : Hid (G0 + 1 ≤ (w7.setCell ⟨G0, 0, none⟩ (.slice A7 p7 c7)).heap.size) := Lib.hid (by simpa using hs7)
                    clear o7 b7 g7 hp7 B7
                    go_wp2
                    go_roundw
                    case rel => exact ⟨(i + 1), (k + 1), _, A7, p7, c7, by omega, by omega, by go_num, by go_num, HU2.out, HO8.out, B8.out, dO8.out, dA8.out, dB8.out, dR8.out, fR8.out, dG8.out, fG8.out, hs8.out⟩
                    case measure => simp [intOf]; omega
                · have hne2 : (s2.toList == s.toList) = false := by
                    rw [beq_eq_false_iff_ne]
                    exact fun e => heq (ba_ext e)
                  have hne : (s.toList == s2.toList) = false := by
                    rw [beq_eq_false_iff_ne]
                    exact fun e => heq (ba_ext e.symm)
                  have hl1 : Op.bytesLess s.toList s2.toList = true := by
                    cases e : ltN s s2 with
                    | true => exact e
                    | false => exact absurd (ltN_tri e hlt).symm heq
                  have HQ := Lib.hid heq
                  have HT := Lib.hid hlt
                  obtain ⟨v, h, hvh⟩ : ∃ v h, (v, h) = mgN lo la lb s := ⟨_, _, rfl⟩
                  have HVH := Lib.hid hvh
                  have HU2 : Hid (uniN la lb = (done ++ [s]) ++ uniN (la.drop (i + 1)) (lb.drop k)) := by
                    show _ = _
                    rw [HU.out, List.append_assoc]
                    congr 1
                    rw [HDA.out, HDB.out, uniN_cons, if_neg (by simp [HT.out]), if_neg HQ.out]; rfl
                  have HST : Hid (mgL lo la lb (done ++ [s]) = mgL lo la lb done ++ (if h then [(s, v)] else [])) := by
                    show _ = _
                    unfold mgL
                    rw [List.filterMap_append]
                    congr 1
                    simp only [List.filterMap_cons, List.filterMap_nil, mgO, ← hvh]
                    cases h <;> rfl
                  clear hvh hlt heq
                  go_wp2
                  go_quiet (fail)
                  go_wp2_with fail
                  refine (l5Merge_any Ao _ _ no _ _ co ca cb lo la lb s v h _ (by unfold maxLen; omega) (by unfold maxLen; omega) (by unfold maxLen; omega) (ho.below (below_drewN hbel _)) (ha.below (below_drewN hbel _)) (hb.below (below_drewN hbel _)) HVH.out).mono ?_
                  rintro e w6 ⟨rfl, q6⟩
                  replace q6 : Below wr.heap.size wr w6 := ⟨q6.os, q6.tape, q6.output, q6.size, q6.block⟩
                  have B6 := hbel.trans (q6.mono hbel.size)
                  replace dO := kcell q6 dO
                  replace dA := kcell q6 dA
                  replace dB := kcell q6 dB
                  replace dR := kcell q6 dR
                  replace fR := kfro q6 (by omega) fR
                  replace dG := kcell q6 dG
                  replace fG := kfro q6 (by omega) fG
                  replace HOF : Hid (w6.ownsRow (G0 + 1) 91 2 (.slice O p c) p (fl (mgL lo la lb done))) := own_below HOF.out q6
                  have hs6 : G0 + 1 ≤ w6.heap.size := Nat.le_trans hsz q6.size
                  clear q6
                  cases h
                  · have HOF2 : Hid (w6.ownsRow (G0 + 1) 91 2 (.slice O p c) p (fl (mgL lo la lb (done ++ [s])))) := by
                      show World.ownsRow _ _ _ _ _ _ _
                      rw [HST.out]
                      simpa using HOF.out
                    go_wp2
                    go_roundw
                    case rel => exact ⟨(i + 1), k, _, O, p, c, by omega, by omega, by go_num, by go_num, HU2.out, HOF2.out, B6, dO, dA, dB, dR, fR, dG, fG, hs6⟩
                    case measure => simp [intOf]; omega
                  · go_wp2_with (at_builtin; refine wpList_pushF w6 rfl _ _ 26 (by rfl) (G0 + 1) 91 ft (.agg #[.string ⟨#[]⟩, .int .i64 0]) 24 Try.underlying26 fi fz0 fz1 fz2 rfl O p c _ (by rfl) HOF.out s v (by rfl) ?c1 ?c2 ?c3 ?_)
                    case c1 => unfold maxLen; omega
                    case c2 => omega
                    case c3 => exact hs6
                    intro A7 p7 c7 w7 hp7 o7 b7 g7
                    have hs7 : G0 + 1 ≤ w7.heap.size := by have := b7.size; omega
                    have HOF2 : Hid (w7.ownsRow (G0 + 1) 91 2 (.slice A7 p7 c7) p7 (fl (mgL lo la lb (done ++ [s])))) := by
                      show World.ownsRow _ _ _ _ _ _ _
                      rw [HST.out]
                      simpa using o7
                    have HO8 := Lib.hid (ownsRow_setCell_below HOF2.out (a := ⟨G0, 0, none⟩) (by simp) (.slice A7 p7 c7))
                    have B7 := B6.trans (b7.mono (by omega))
                    have B8 := Lib.hid (B7.setCell (p := ⟨G0, 0, none⟩) (by show w.heap.size ≤ G0; omega) (.slice A7 p7 c7))
                    replace dO := (b7.cell (p := ⟨w.heap.size, 0, none⟩) (by show w.heap.size < G0 + 1; omega)).trans dO
                    have dO8 : Hid ((w7.setCell ⟨G0, 0, none⟩ (.slice A7 p7 c7)).cell? ⟨w.heap.size, 0, none⟩ = some (.slice Ao no co)) := by
                      show _ = _
                      rw [World.cell?_setCell_far w7 ⟨G0, 0, none⟩ ⟨w.heap.size, 0, none⟩ _ (by show G0 ≠ w.heap.size; omega)]
                      exact dO
                    replace dA := (b7.cell (p := ⟨w.heap.size + 1, 0, none⟩) (by show w.heap.size + 1 < G0 + 1; omega)).trans dA
                    have dA8 : Hid ((w7.setCell ⟨G0, 0, none⟩ (.slice A7 p7 c7)).cell? ⟨w.heap.size + 1, 0, none⟩ = some (.slice (some ⟨b, o, none⟩) na ca)) := by
                      show _ = _
                      rw [World.cell?_setCell_far w7 ⟨G0, 0, none⟩ ⟨w.heap.size + 1, 0, none⟩ _ (by show G0 ≠ w.heap.size + 1; omega)]
                      exact dA
                    replace dB := (b7.cell (p := ⟨w.heap.size + 1 + 1, 0, none⟩) (by show w.heap.size + 1 + 1 < G0 + 1; omega)).trans dB
                    have dB8 : Hid ((w7.setCell ⟨G0, 0, none⟩ (.slice A7 p7 c7)).cell? ⟨w.heap.size + 1 + 1, 0, none⟩ = some (.slice (some ⟨b2, o2, none⟩) nb cb)) := by
                      show _ = _
                      rw [World.cell?_setCell_far w7 ⟨G0, 0, none⟩ ⟨w.heap.size + 1 + 1, 0, none⟩ _ (by show G0 ≠ w.heap.size + 1 + 1; omega)]
                      exact dB
                    replace dR := (b7.cell (p := ⟨w.heap.size + 1 + 1 + 1, 0, none⟩) (by show w.heap.size + 1 + 1 + 1 < G0 + 1; omega)).trans dR
                    have dR8 : Hid ((w7.setCell ⟨G0, 0, none⟩ (.slice A7 p7 c7)).cell? ⟨w.heap.size + 1 + 1 + 1, 0, none⟩ = some (.slice none 0 0)) := by
                      show _ = _
                      rw [World.cell?_setCell_far w7 ⟨G0, 0, none⟩ ⟨w.heap.size + 1 + 1 + 1, 0, none⟩ _ (by show G0 ≠ w.heap.size + 1 + 1 + 1; omega)]
                      exact dR
                    replace fR := (b7.frozen (p := ⟨w.heap.size + 1 + 1 + 1, 0, none⟩) (by show w.heap.size + 1 + 1 + 1 < G0 + 1; omega)).trans fR
                    have fR8 : Hid ((w7.setCell ⟨G0, 0, none⟩ (.slice A7 p7 c7)).frozen? ⟨w.heap.size + 1 + 1 + 1, 0, none⟩ = false) := Lib.hid (by simp [fR])
                    replace dG : w7.cell? ⟨G0, 0, none⟩ = some (.slice O p c) := (b7.cell (p := ⟨G0, 0, none⟩) (by simp)).trans dG
                    replace fG : w7.frozen? ⟨G0, 0, none⟩ = false := (b7.frozen (p := ⟨G0, 0, none⟩) (by simp)).trans fG
                    have dG8 : Hid ((w7.setCell ⟨G0, 0, none⟩ (.slice A7 p7 c7)).cell? ⟨G0, 0, none⟩ = some (.slice A7 p7 c7)) := Lib.hid (by simp [go_sem, dG])
                    have fG8 : Hid ((w7.setCell ⟨G0, 0, none⟩ (.slice A7 p7 c7)).frozen? ⟨G0, 0, none⟩ = false) := Lib.hid (by simp [fG])
                    have hs8 : Hid (G0 + 1 ≤ (w7.setCell ⟨G0, 0, none⟩ (.slice A7 p7 c7)).heap.size) := Lib.hid (by simpa using hs7)
                    clear o7 b7 g7 hp7 B7
                    go_wp2
                    go_roundw
                    case rel => exact ⟨(i + 1), k, _, A7, p7, c7, by omega, by omega, by go_num, by go_num, HU2.out, HO8.out, B8.out, dO8.out, dA8.out, dB8.out, dR8.out, fR8.out, dG8.out, fG8.out, hs8.out⟩
                    case measure => simp [intOf]; omega
              · have hl1 : Op.bytesLess s.toList s2.toList = false := ltN_asymm hlt
                have hne : (s.toList == s2.toList) = false := by
                  rw [beq_eq_false_iff_ne]
                  intro e
                  rw [ba_ext e, ltN_irr] at hlt
                  cases hlt
                have HT := Lib.hid hlt
                obtain ⟨v, h, hvh⟩ : ∃ v h, (v, h) = mgN lo la lb s2 := ⟨_, _, rfl⟩
                have HVH := Lib.hid hvh
                have HU2 : Hid (uniN la lb = (done ++ [s2]) ++ uniN (la.drop i) (lb.drop (k + 1))) := by
                  show _ = _
                  rw [HU.out, List.append_assoc]
                  congr 1
                  rw [HDA.out, HDB.out, uniN_cons, if_pos HT.out]; rfl
                have HST : Hid (mgL lo la lb (done ++ [s2]) = mgL lo la lb done ++ (if h then [(s2, v)] else [])) := by
                  show _ = _
                  unfold mgL
                  rw [List.filterMap_append]
                  congr 1
                  simp only [List.filterMap_cons, List.filterMap_nil, mgO, ← hvh]
                  cases h <;> rfl
                clear hvh hlt
                go_wp2
                go_quiet (fail)
                go_wp2_with fail
                refine (l5Merge_any Ao _ _ no _ _ co ca cb lo la lb s2 v h _ (by unfold maxLen; omega) (by unfold maxLen; omega) (by unfold maxLen; omega) (ho.below (below_drewN hbel _)) (ha.below (below_drewN hbel _)) (hb.below (below_drewN hbel _)) HVH.out).mono ?_
                rintro e w6 ⟨rfl, q6⟩
                replace q6 : Below wr.heap.size wr w6 := ⟨q6.os, q6.tape, q6.output, q6.size, q6.block⟩
                have B6 := hbel.trans (q6.mono hbel.size)
                replace dO := kcell q6 dO
                replace dA := kcell q6 dA
                replace dB := kcell q6 dB
                replace dR := kcell q6 dR
                replace fR := kfro q6 (by omega) fR
                replace dG := kcell q6 dG
                replace fG := kfro q6 (by omega) fG
                replace HOF : Hid (w6.ownsRow (G0 + 1) 91 2 (.slice O p c) p (fl (mgL lo la lb done))) := own_below HOF.out q6
                have hs6 : G0 + 1 ≤ w6.heap.size := Nat.le_trans hsz q6.size
                clear q6
                cases h
                · have HOF2 : Hid (w6.ownsRow (G0 + 1) 91 2 (.slice O p c) p (fl (mgL lo la lb (done ++ [s2])))) := by
                    show World.ownsRow _ _ _ _ _ _ _
                    rw [HST.out]
                    simpa using HOF.out
                  go_wp2
                  go_roundw
                  case rel => exact ⟨i, (k + 1), _, O, p, c, by omega, by omega, by go_num, by go_num, HU2.out, HOF2.out, B6, dO, dA, dB, dR, fR, dG, fG, hs6⟩
                  case measure => simp [intOf]; omega
                · go_wp2_with (at_builtin; refine wpList_pushF w6 rfl _ _ 26 (by rfl) (G0 + 1) 91 ft (.agg #[.string ⟨#[]⟩, .int .i64 0]) 24 Try.underlying26 fi fz0 fz1 fz2 rfl O p c _ (by rfl) HOF.out s2 v (by rfl) ?c1 ?c2 ?c3 ?_)
                  case c1 => unfold maxLen; omega
                  case c2 => omega
                  case c3 => exact hs6
                  intro A7 p7 c7 w7 hp7 o7 b7 g7
                  have hs7 : G0 + 1 ≤ w7.heap.size := by have := b7.size; omega
                  have HOF2 : Hid (w7.ownsRow (G0 + 1) 91 2 (.slice A7 p7 c7) p7 (fl (mgL lo la lb (done ++ [s2])))) := by
                    show World.ownsRow _ _ _ _ _ _ _
                    rw [HST.out]
                    simpa using o7
                  have HO8 := Lib.hid (ownsRow_setCell_below HOF2.out (a := ⟨G0, 0, none⟩) (by simp) (.slice A7 p7 c7))
                  have B7 := B6.trans (b7.mono (by omega))
                  have B8 := Lib.hid (B7.setCell (p := ⟨G0, 0, none⟩) (by show w.heap.size ≤ G0; omega) (.slice A7 p7 c7))
                  replace dO := (b7.cell (p := ⟨w.heap.size, 0, none⟩) (by show w.heap.size < G0 + 1; omega)).trans dO
                  have dO8 : Hid ((w7.setCell ⟨G0, 0, none⟩ (.slice A7 p7 c7)).cell? ⟨w.heap.size, 0, none⟩ = some (.slice Ao no co)) := by
                    show _ = _
                    rw [World.cell?_setCell_far w7 ⟨G0, 0, none⟩ ⟨w.heap.size, 0, none⟩ _ (by show G0 ≠ w.heap.size; omega)]
                    exact dO
                  replace dA := (b7.cell (p := ⟨w.heap.size + 1, 0, none⟩) (by show w.heap.size + 1 < G0 + 1; omega)).trans dA
                  have dA8 : Hid ((w7.setCell ⟨G0, 0, none⟩ (.slice A7 p7 c7)).cell? ⟨w.heap.size + 1, 0, none⟩ = some (.slice (some ⟨b, o, none⟩) na ca)) := by
                    show _ = _
                    rw [World.cell?_setCell_far w7 ⟨G0, 0, none⟩ ⟨w.heap.size + 1, 0, none⟩ _ (by show G0 ≠ w.heap.size + 1; omega)]
                    exact dA
                  replace dB := (b7.cell (p := ⟨w.heap.size + 1 + 1, 0, none⟩) (by show w.heap.size + 1 + 1 < G0 + 1; omega)).trans dB
                  have dB8 : Hid ((w7.setCell ⟨G0, 0, none⟩ (.slice A7 p7 c7)).cell? ⟨w.heap.size + 1 + 1, 0, none⟩ = some (.slice (some ⟨b2, o2, none⟩) nb cb)) := by
                    show _ = _
                    rw [World.cell?_setCell_far w7 ⟨G0, 0, none⟩ ⟨w.heap.size + 1 + 1, 0, none⟩ _ (by show G0 ≠ w.heap.size + 1 + 1; omega)]
                    exact dB
                  replace dR := (b7.cell (p := ⟨w.heap.size + 1 + 1 + 1, 0, none⟩) (by show w.heap.size + 1 + 1 + 1 < G0 + 1; omega)).trans dR
                  have dR8 : Hid ((w7.setCell ⟨G0, 0, none⟩ (.slice A7 p7 c7)).cell? ⟨w.heap.size + 1 + 1 + 1, 0, none⟩ = some (.slice none 0 0)) := by
                    show _ = _
                    rw [World.cell?_setCell_far w7 ⟨G0, 0, none⟩ ⟨w.heap.size + 1 + 1 + 1, 0, none⟩ _ (by show G0 ≠ w.heap.size + 1 + 1 + 1; omega)]
                    exact dR
                  replace fR := (b7.frozen (p := ⟨w.heap.size + 1 + 1 + 1, 0, none⟩) (by show w.heap.size + 1 + 1 + 1 < G0 + 1; omega)).trans fR
                  have fR8 : Hid ((w7.setCell ⟨G0, 0, none⟩ (.slice A7 p7 c7)).frozen? ⟨w.heap.size + 1 + 1 + 1, 0, none⟩ = false) := Lib.hid (by simp [fR])
                  replace dG : w7.cell? ⟨G0, 0, none⟩ = some (.slice O p c) := (b7.cell (p := ⟨G0, 0, none⟩) (by simp)).trans dG
                  replace fG : w7.frozen? ⟨G0, 0, none⟩ = false := (b7.frozen (p := ⟨G0, 0, none⟩) (by simp)).trans fG
                  have dG8 : Hid ((w7.setCell ⟨G0, 0, none⟩ (.slice A7 p7 c7)).cell? ⟨G0, 0, none⟩ = some (.slice A7 p7 c7)) := Lib.hid (by simp [go_sem, dG])
                  have fG8 : Hid ((w7.setCell ⟨G0, 0, none⟩ (.slice A7 p7 c7)).frozen? ⟨G0, 0, none⟩ = false) := Lib.hid (by simp [fG])
                  have hs8 : Hid (G0 + 1 ≤ (w7.setCell ⟨G0, 0, none⟩ (.slice A7 p7 c7)).heap.size) := Lib.hid (by simpa using hs7)
                  clear o7 b7 g7 hp7 B7
                  go_wp2
                  go_roundw
                  case rel => exact ⟨i, (k + 1), _, A7, p7, c7, by omega, by omega, by go_num, by go_num, HU2.out, HO8.out, B8.out, dO8.out, dA8.out, dB8.out, dR8.out, fR8.out, dG8.out, fG8.out, hs8.out⟩
                  case measure => simp [intOf]; omega
            · obtain rfl : k = nb := by omega
              have HDB : Hid (lb.drop k = []) := Lib.hid (List.drop_eq_nil_iff.2 (Nat.le_of_eq LB.out))
              have k2 : (k : Int) ≤ (k : Int) := by omega
              obtain ⟨v, h, hvh⟩ : ∃ v h, (v, h) = mgN lo la lb s := ⟨_, _, rfl⟩
              have HVH := Lib.hid hvh
              have HU2 : Hid (uniN la lb = (done ++ [s]) ++ uniN (la.drop (i + 1)) (lb.drop k)) := by
                show _ = _
                rw [HU.out, List.append_assoc]
                congr 1
                rw [HDA.out, HDB.out, uniN_nilr, uniN_nilr]; rfl
              have HST : Hid (mgL lo la lb (done ++ [s]) = mgL lo la lb done ++ (if h then [(s, v)] else [])) := by
                show _ = _
                unfold mgL
                rw [List.filterMap_append]
                congr 1
                simp only [List.filterMap_cons, List.filterMap_nil, mgO, ← hvh]
                cases h <;> rfl
              clear hvh hkb
              go_wp2
              go_quiet (fail)
              go_wp2_with fail
              refine (l5Merge_any Ao _ _ no _ _ co ca cb lo la lb s v h _ (by unfold maxLen; omega) (by unfold maxLen; omega) (by unfold maxLen; omega) (ho.below (below_drewN hbel _)) (ha.below (below_drewN hbel _)) (hb.below (below_drewN hbel _)) HVH.out).mono ?_
              rintro e w6 ⟨rfl, q6⟩
              replace q6 : Below wr.heap.size wr w6 := ⟨q6.os, q6.tape, q6.output, q6.size, q6.block⟩
              have B6 := hbel.trans (q6.mono hbel.size)
              replace dO := kcell q6 dO
              replace dA := kcell q6 dA
              replace dB := kcell q6 dB
              replace dR := kcell q6 dR
              replace fR := kfro q6 (by omega) fR
              replace dG := kcell q6 dG
              replace fG := kfro q6 (by omega) fG
              replace HOF : Hid (w6.ownsRow (G0 + 1) 91 2 (.slice O p c) p (fl (mgL lo la lb done))) := own_below HOF.out q6
              have hs6 : G0 + 1 ≤ w6.heap.size := Nat.le_trans hsz q6.size
              clear q6
              cases h
              · have HOF2 : Hid (w6.ownsRow (G0 + 1) 91 2 (.slice O p c) p (fl (mgL lo la lb (done ++ [s])))) := by
                  show World.ownsRow _ _ _ _ _ _ _
                  rw [HST.out]
                  simpa using HOF.out
                go_wp2
                go_roundw
                case rel => exact ⟨(i + 1), k, _, O, p, c, by omega, by omega, by go_num, by go_num, HU2.out, HOF2.out, B6, dO, dA, dB, dR, fR, dG, fG, hs6⟩
                case measure => simp [intOf]; omega
              · go_wp2_with (at_builtin; refine wpList_pushF w6 rfl _ _ 26 (by rfl) (G0 + 1) 91 ft (.agg #[.string ⟨#[]⟩, .int .i64 0]) 24 Try.underlying26 fi fz0 fz1 fz2 rfl O p c _ (by rfl) HOF.out s v (by rfl) ?c1 ?c2 ?c3 ?_)
                case c1 => unfold maxLen; omega
                case c2 => omega
                case c3 => exact hs6
                intro A7 p7 c7 w7 hp7 o7 b7 g7
                have hs7 : G0 + 1 ≤ w7.heap.size := by have := b7.size; omega
                have HOF2 : Hid (w7.ownsRow (G0 + 1) 91 2 (.slice A7 p7 c7) p7 (fl (mgL lo la lb (done ++ [s])))) := by
                  show World.ownsRow _ _ _ _ _ _ _
                  rw [HST.out]
                  simpa using o7
                have HO8 := Lib.hid (ownsRow_setCell_below HOF2.out (a := ⟨G0, 0, none⟩) (by simp) (.slice A7 p7 c7))
                have B7 := B6.trans (b7.mono (by omega))
                have B8 := Lib.hid (B7.setCell (p := ⟨G0, 0, none⟩) (by show w.heap.size ≤ G0; omega) (.slice A7 p7 c7))
                replace dO := (b7.cell (p := ⟨w.heap.size, 0, none⟩) (by show w.heap.size < G0 + 1; omega)).trans dO
                have dO8 : Hid ((w7.setCell ⟨G0, 0, none⟩ (.slice A7 p7 c7)).cell? ⟨w.heap.size, 0, none⟩ = some (.slice Ao no co)) := by
                  show _ = _
                  rw [World.cell?_setCell_far w7 ⟨G0, 0, none⟩ ⟨w.heap.size, 0, none⟩ _ (by show G0 ≠ w.heap.size; omega)]
                  exact dO
                replace dA := (b7.cell (p := ⟨w.heap.size + 1, 0, none⟩) (by show w.heap.size + 1 < G0 + 1; omega)).trans dA
                have dA8 : Hid ((w7.setCell ⟨G0, 0, none⟩ (.slice A7 p7 c7)).cell? ⟨w.heap.size + 1, 0, none⟩ = some (.slice (some ⟨b, o, none⟩) na ca)) := by
                  show _ = _
                  rw [World.cell?_setCell_far w7 ⟨G0, 0, none⟩ ⟨w.heap.size + 1, 0, none⟩ _ (by show G0 ≠ w.heap.size + 1; omega)]
                  exact dA
                replace dB := (b7.cell (p := ⟨w.heap.size + 1 + 1, 0, none⟩) (by show w.heap.size + 1 + 1 < G0 + 1; omega)).trans dB
                have dB8 : Hid ((w7.setCell ⟨G0, 0, none⟩ (.slice A7 p7 c7)).cell? ⟨w.heap.size + 1 + 1, 0, none⟩ = some (.slice Ab k cb)) := by
                  show _ = _
                  rw [World.cell?_setCell_far w7 ⟨G0, 0, none⟩ ⟨w.heap.size + 1 + 1, 0, none⟩ _ (by show G0 ≠ w.heap.size + 1 + 1; omega)]
                  exact dB
                replace dR := (b7.cell (p := ⟨w.heap.size + 1 + 1 + 1, 0, none⟩) (by show w.heap.size + 1 + 1 + 1 < G0 + 1; omega)).trans dR
                have dR8 : Hid ((w7.setCell ⟨G0, 0, none⟩ (.slice A7 p7 c7)).cell? ⟨w.heap.size + 1 + 1 + 1, 0, none⟩ = some (.slice none 0 0)) := by
                  show _ = _
                  rw [World.cell?_setCell_far w7 ⟨G0, 0, none⟩ ⟨w.heap.size + 1 + 1 + 1, 0, none⟩ _ (by show G0 ≠ w.heap.size + 1 + 1 + 1; omega)]
                  exact dR
                replace fR := (b7.frozen (p := ⟨w.heap.size + 1 + 1 + 1, 0, none⟩) (by show w.heap.size + 1 + 1 + 1 < G0 + 1; omega)).trans fR
                have fR8 : Hid ((w7.setCell ⟨G0, 0, none⟩ (.slice A7 p7 c7)).frozen? ⟨w.heap.size + 1 + 1 + 1, 0, none⟩ = false) := Lib.hid (by simp [fR])
                replace dG : w7.cell? ⟨G0, 0, none⟩ = some (.slice O p c) := (b7.cell (p := ⟨G0, 0, none⟩) (by simp)).trans dG
                replace fG : w7.frozen? ⟨G0, 0, none⟩ = false := (b7.frozen (p := ⟨G0, 0, none⟩) (by simp)).trans fG
                have dG8 : Hid ((w7.setCell ⟨G0, 0, none⟩ (.slice A7 p7 c7)).cell? ⟨G0, 0, none⟩ = some (.slice A7 p7 c7)) := Lib.hid (by simp [go_sem, dG])
                have fG8 : Hid ((w7.setCell ⟨G0, 0, none⟩ (.slice A7 p7 c7)).frozen? ⟨G0, 0, none⟩ = false) := Lib.hid (by simp [fG])
                have hs8 : Hid (G0 + 1 ≤ (w7.setCell ⟨G0, 0, none⟩ (.slice A7 p7 c7)).heap.size) := Lib.hid (by simpa using hs7)
                clear o7 b7 g7 hp7 B7
                go_wp2
                go_roundw
                case rel => exact ⟨(i + 1), k, _, A7, p7, c7, by omega, by omega, by go_num, by go_num, HU2.out, HO8.out, B8.out, dO8.out, dA8.out, dB8.out, dR8.out, fR8.out, dG8.out, fG8.out, hs8.out⟩
                case measure => simp [intOf]; omega
          · have HDA : Hid (la.drop i = []) := Lib.hid (List.drop_eq_nil_iff.2 (by have := LA.out; omega))
            have i1n : ¬ (i : Int) < (na : Int) := by omega
            have i1d : decide (i < na) = false := decide_eq_false hia
            by_cases hkb : k < nb
            · obtain ⟨b2, o2, s2, x2, rfl, _hb2, hy, hd0, hd1⟩ := (hb.below hbel).fld hkb
              have HY := Lib.hid hy
              have HDB := Lib.hid (drop_at hy)
              have k1 : (k : Int) < (nb : Int) := by omega
              have k2 : ¬ (nb : Int) ≤ (k : Int) := by omega
              have k2d : decide (nb ≤ k) = false := decide_eq_false (by omega)
              have k2e : ¬ nb ≤ k := by omega
              clear hy
              obtain ⟨v, h, hvh⟩ : ∃ v h, (v, h) = mgN lo la lb s2 := ⟨_, _, rfl⟩
              have HVH := Lib.hid hvh
              have HU2 : Hid (uniN la lb = (done ++ [s2]) ++ uniN (la.drop i) (lb.drop (k + 1))) := by
                show _ = _
                rw [HU.out, List.append_assoc]
                congr 1
                rw [HDA.out, HDB.out, uniN_nil, uniN_nil]; rfl
              have HST : Hid (mgL lo la lb (done ++ [s2]) = mgL lo la lb done ++ (if h then [(s2, v)] else [])) := by
                show _ = _
                unfold mgL
                rw [List.filterMap_append]
                congr 1
                simp only [List.filterMap_cons, List.filterMap_nil, mgO, ← hvh]
                cases h <;> rfl
              clear hvh 
              go_wp2
              refine wp_region_held_drew (S := fun W => Below wr.heap.size wr W ∧ W.cell? ⟨w.heap.size + 1, 0, none⟩ = some (.slice Aa na ca) ∧ W.cell? ⟨w.heap.size + 1 + 1, 0, none⟩ = some (.slice (some ⟨b2, o2, none⟩) nb cb)) (by kernel_rfl) ?_ (fun hHeld => ?_)
              · exact ⟨(Below.refl _ _).drew, dA, dB⟩
              refine takeD (i := 0) (d := some 42) (v := ?_) _ rfl rfl (by kernel_rfl) (by kernel_rfl) (by kernel_rfl) (fun _ _ _ h => h) (Or.inl ⟨by rfl, ?_⟩) (by assumption) ?_
              rotate_left
              · (intro W hSw; (try dsimp only at hSw); go_simp; try with_reducible rfl)
              try simp only [Act.put, List.setIfInBounds_toArray, List.set_cons_zero, List.set_cons_succ]
              refine takeD (i := 1) (d := some 43) (v := ?_) _ rfl rfl (by kernel_rfl) (by kernel_rfl) (by kernel_rfl) (fun _ _ _ h => h) (Or.inl ⟨by rfl, ?_⟩) (by assumption) ?_
              rotate_left
              · (intro W hSw; (try dsimp only at hSw); go_simp; try with_reducible rfl)
              try simp only [Act.put, List.setIfInBounds_toArray, List.set_cons_zero, List.set_cons_succ]
              refine takeD (i := 2) (d := some 44) (v := ?_) _ rfl rfl (by kernel_rfl) (by kernel_rfl) (by kernel_rfl) (fun _ _ _ h => h) (Or.inl ⟨by rfl, ?_⟩) (by assumption) ?_
              rotate_left
              · (intro W hSw; (try dsimp only at hSw); go_simp; try with_reducible rfl)
              try simp only [Act.put, List.setIfInBounds_toArray, List.set_cons_zero, List.set_cons_succ]
              refine takeD (i := 3) (d := some 45) (v := ?_) _ rfl rfl (by kernel_rfl) (by kernel_rfl) (by kernel_rfl) (fun _ _ _ h => h) (Or.inl ⟨by rfl, ?_⟩) (by assumption) ?_
              rotate_left
              · (intro W hSw; (try dsimp only at hSw); go_simp; try with_reducible rfl)
              try simp only [Act.put, List.setIfInBounds_toArray, List.set_cons_zero, List.set_cons_succ]
              refine takeD (i := 4) (d := some 46) (v := ?_) _ rfl rfl (by kernel_rfl) (by kernel_rfl) (by kernel_rfl) (fun _ _ _ h => h) (Or.inl ⟨by rfl, ?_⟩) (by assumption) ?_
              rotate_left
              · (intro W hSw; (try dsimp only at hSw); go_simp; try with_reducible rfl)
              try simp only [Act.put, List.setIfInBounds_toArray, List.set_cons_zero, List.set_cons_succ]
              refine takeD (i := 5) (d := some 47) (v := ?_) _ rfl rfl (by kernel_rfl) (by kernel_rfl) (by kernel_rfl) (fun _ _ _ h => h) (Or.inl ⟨by rfl, ?_⟩) (by assumption) ?_
              rotate_left
              · (intro W hSw; (try dsimp only at hSw); go_simp; try with_reducible rfl)
              try simp only [Act.put, List.setIfInBounds_toArray, List.set_cons_zero, List.set_cons_succ]
              refine takeD (i := 6) (d := some 48) (v := ?_) _ rfl rfl (by kernel_rfl) (by kernel_rfl) (by kernel_rfl) (fun _ _ _ h => h) (Or.inl ⟨by rfl, ?_⟩) (by assumption) ?_
              rotate_left
              · (intro W hSw; (try dsimp only at hSw); go_simp; try with_reducible rfl)
              try simp only [Act.put, List.setIfInBounds_toArray, List.set_cons_zero, List.set_cons_succ]
              refine takeD (i := 7) (d := some 49) (v := ?_) _ rfl rfl (by kernel_rfl) (by kernel_rfl) (by kernel_rfl) (fun _ _ _ h => h) (Or.inl ⟨by rfl, ?_⟩) (by assumption) ?_
              rotate_left
              · (intro W hSw; (try dsimp only at hSw); go_simp; try with_reducible rfl)
              try simp only [Act.put, List.setIfInBounds_toArray, List.set_cons_zero, List.set_cons_succ]
              refine takeD (i := 8) (d := some 50) (v := ?_) _ rfl rfl (by kernel_rfl) (by kernel_rfl) (by kernel_rfl) (fun _ _ _ h => h) (Or.inl ⟨by rfl, ?_⟩) (by assumption) ?_
              rotate_left
              · (intro W hSw; (try dsimp only at hSw); go_simp; try with_reducible rfl)
              try simp only [Act.put, List.setIfInBounds_toArray, List.set_cons_zero, List.set_cons_succ]
              refine takeD (i := 9) (d := some 51) (v := ?_) _ rfl rfl (by kernel_rfl) (by kernel_rfl) (by kernel_rfl) (fun _ _ _ h => h) (Or.inl ⟨by rfl, ?_⟩) (by assumption) ?_
              rotate_left
              · (intro W hSw; (try dsimp only at hSw); go_simp; try with_reducible rfl)
              try simp only [Act.put, List.setIfInBounds_toArray, List.set_cons_zero, List.set_cons_succ]
              refine takeD (i := 10) (d := some 52) (v := ?_) _ rfl rfl (by kernel_rfl) (by kernel_rfl) (by kernel_rfl) (fun _ _ _ h => h) (Or.inl ⟨by rfl, ?_⟩) (by assumption) ?_
              rotate_left
              · (intro W hSw; (try dsimp only at hSw); go_simp; try with_reducible rfl)
              try simp only [Act.put, List.setIfInBounds_toArray, List.set_cons_zero, List.set_cons_succ]
              refine takeD (i := 11) (d := some 53) (v := ?_) _ rfl rfl (by kernel_rfl) (by kernel_rfl) (by kernel_rfl) (fun _ _ _ h => h) (Or.inl ⟨by rfl, ?_⟩) (by assumption) ?_
              rotate_left
              · (intro W hSw; (try dsimp only at hSw); go_simp; try with_reducible rfl)
              try simp only [Act.put, List.setIfInBounds_toArray, List.set_cons_zero, List.set_cons_succ]
              refine takeD (i := 12) (d := some 54) (v := undef) _ rfl rfl (by kernel_rfl) (by kernel_rfl) (by kernel_rfl) (fun _ _ _ h => h) (Or.inr ⟨by rfl, rfl⟩) (by assumption) ?_
              try simp only [Act.put, List.setIfInBounds_toArray, List.set_cons_zero, List.set_cons_succ]
              refine takeD (i := 13) (d := some 55) (v := undef) _ rfl rfl (by kernel_rfl) (by kernel_rfl) (by kernel_rfl) (fun _ _ _ h => h) (Or.inr ⟨by rfl, rfl⟩) (by assumption) ?_
              try simp only [Act.put, List.setIfInBounds_toArray, List.set_cons_zero, List.set_cons_succ]
              refine takeD (i := 14) (d := some 56) (v := undef) _ rfl rfl (by kernel_rfl) (by kernel_rfl) (by kernel_rfl) (fun _ _ _ h => h) (Or.inr ⟨by rfl, rfl⟩) (by assumption) ?_
              try simp only [Act.put, List.setIfInBounds_toArray, List.set_cons_zero, List.set_cons_succ]
              refine takeD (i := 15) (d := some 57) (v := undef) _ rfl rfl (by kernel_rfl) (by kernel_rfl) (by kernel_rfl) (fun _ _ _ h => h) (Or.inr ⟨by rfl, rfl⟩) (by assumption) ?_
              try simp only [Act.put, List.setIfInBounds_toArray, List.set_cons_zero, List.set_cons_succ]
              refine takeD (i := 16) (d := some 58) (v := undef) _ rfl rfl (by kernel_rfl) (by kernel_rfl) (by kernel_rfl) (fun _ _ _ h => h) (Or.inr ⟨by rfl, rfl⟩) (by assumption) ?_
              try simp only [Act.put, List.setIfInBounds_toArray, List.set_cons_zero, List.set_cons_succ]
              refine takeD (i := 17) (d := some 59) (v := undef) _ rfl rfl (by kernel_rfl) (by kernel_rfl) (by kernel_rfl) (fun _ _ _ h => h) (Or.inr ⟨by rfl, rfl⟩) (by assumption) ?_
              try simp only [Act.put, List.setIfInBounds_toArray, List.set_cons_zero, List.set_cons_succ]
              refine takeD (i := 18) (d := some 60) (v := undef) _ rfl rfl (by kernel_rfl) (by kernel_rfl) (by kernel_rfl) (fun _ _ _ h => h) (Or.inr ⟨by rfl, rfl⟩) (by assumption) ?_
              try simp only [Act.put, List.setIfInBounds_toArray, List.set_cons_zero, List.set_cons_succ]
              refine takeD (i := 19) (d := some 61) (v := undef) _ rfl rfl (by kernel_rfl) (by kernel_rfl) (by kernel_rfl) (fun _ _ _ h => h) (Or.inr ⟨by rfl, rfl⟩) (by assumption) ?_
              try simp only [Act.put, List.setIfInBounds_toArray, List.set_cons_zero, List.set_cons_succ]
              refine takeD (i := 20) (d := some 62) (v := undef) _ rfl rfl (by kernel_rfl) (by kernel_rfl) (by kernel_rfl) (fun _ _ _ h => h) (Or.inr ⟨by rfl, rfl⟩) (by assumption) ?_
              try simp only [Act.put, List.setIfInBounds_toArray, List.set_cons_zero, List.set_cons_succ]
              refine takeD (i := 21) (d := some 63) (v := undef) _ rfl rfl (by kernel_rfl) (by kernel_rfl) (by kernel_rfl) (fun _ _ _ h => h) (Or.inr ⟨by rfl, rfl⟩) (by assumption) ?_
              try simp only [Act.put, List.setIfInBounds_toArray, List.set_cons_zero, List.set_cons_succ]
              refine takeD (i := 22) (d := some 64) (v := undef) _ rfl rfl (by kernel_rfl) (by kernel_rfl) (by kernel_rfl) (fun _ _ _ h => h) (Or.inr ⟨by rfl, rfl⟩) (by assumption) ?_
              try simp only [Act.put, List.setIfInBounds_toArray, List.set_cons_zero, List.set_cons_succ]
              refine takeD (i := 23) (d := some 65) (v := undef) _ rfl rfl (by kernel_rfl) (by kernel_rfl) (by kernel_rfl) (fun _ _ _ h => h) (Or.inr ⟨by rfl, rfl⟩) (by assumption) ?_
              try simp only [Act.put, List.setIfInBounds_toArray, List.set_cons_zero, List.set_cons_succ]
              refine takeD (i := 24) (d := some 66) (v := undef) _ rfl rfl (by kernel_rfl) (by kernel_rfl) (by kernel_rfl) (fun _ _ _ h => h) (Or.inr ⟨by rfl, rfl⟩) (by assumption) ?_
              try simp only [Act.put, List.setIfInBounds_toArray, List.set_cons_zero, List.set_cons_succ]
              refine takeD (i := 25) (d := some 67) (v := ?_) _ rfl rfl (by kernel_rfl) (by kernel_rfl) (by kernel_rfl) (fun _ _ _ h => h) (Or.inl ⟨by rfl, ?_⟩) (by assumption) ?_
              rotate_left
              · (intro W hSw; (try dsimp only at hSw); go_simp; try with_reducible rfl)
              try simp only [Act.put, List.setIfInBounds_toArray, List.set_cons_zero, List.set_cons_succ]
              refine takeD (i := 26) (d := some 68) (v := ?_) _ rfl rfl (by kernel_rfl) (by kernel_rfl) (by kernel_rfl) (fun _ _ _ h => h) (Or.inl ⟨by rfl, ?_⟩) (by assumption) ?_
              rotate_left
              · (intro W hSw; (try dsimp only at hSw); go_simp; try with_reducible rfl)
              try simp only [Act.put, List.setIfInBounds_toArray, List.set_cons_zero, List.set_cons_succ]
              refine wpAnyH_done (by kernel_rfl) ?_ _
              obtain ⟨bZ, _⟩ := ‹Below wr.heap.size wr _ ∧ _›
              have dO0 := kcell bZ dO
              have dA0 := kcell bZ dA
              have dB0 := kcell bZ dB
              have e0 := kcell bZ hd0
              go_wp2_with fail
              refine (l5Merge_any Ao _ _ no _ _ co ca cb lo la lb s2 v h _ (by unfold maxLen; omega) (by unfold maxLen; omega) (by unfold maxLen; omega) (ho.below (hbel.trans (bZ.mono hbel.size))) (ha.below (hbel.trans (bZ.mono hbel.size))) (hb.below (hbel.trans (bZ.mono hbel.size))) HVH.out).mono ?_
              rintro e w6 ⟨rfl, q6⟩
              replace q6 : Below wr.heap.size wr w6 := bZ.trans (q6.mono bZ.size)
              have B6 := hbel.trans (q6.mono hbel.size)
              replace dO := kcell q6 dO
              replace dA := kcell q6 dA
              replace dB := kcell q6 dB
              replace dR := kcell q6 dR
              replace fR := kfro q6 (by omega) fR
              replace dG := kcell q6 dG
              replace fG := kfro q6 (by omega) fG
              replace HOF : Hid (w6.ownsRow (G0 + 1) 91 2 (.slice O p c) p (fl (mgL lo la lb done))) := own_below HOF.out q6
              have hs6 : G0 + 1 ≤ w6.heap.size := Nat.le_trans hsz q6.size
              clear q6
              cases h
              · have HOF2 : Hid (w6.ownsRow (G0 + 1) 91 2 (.slice O p c) p (fl (mgL lo la lb (done ++ [s2])))) := by
                  show World.ownsRow _ _ _ _ _ _ _
                  rw [HST.out]
                  simpa using HOF.out
                go_wp2
                go_roundw
                case rel => exact ⟨i, (k + 1), _, O, p, c, by omega, by omega, by go_num, by go_num, HU2.out, HOF2.out, B6, dO, dA, dB, dR, fR, dG, fG, hs6⟩
                case measure => simp [intOf]; omega
              · go_wp2_with (at_builtin; refine wpList_pushF w6 rfl _ _ 26 (by rfl) (G0 + 1) 91 ft (.agg #[.string ⟨#[]⟩, .int .i64 0]) 24 Try.underlying26 fi fz0 fz1 fz2 rfl O p c _ (by rfl) HOF.out s2 v (by rfl) ?c1 ?c2 ?c3 ?_)
                case c1 => unfold maxLen; omega
                case c2 => omega
                case c3 => exact hs6
                intro A7 p7 c7 w7 hp7 o7 b7 g7
                have hs7 : G0 + 1 ≤ w7.heap.size := by have := b7.size; omega
                have HOF2 : Hid (w7.ownsRow (G0 + 1) 91 2 (.slice A7 p7 c7) p7 (fl (mgL lo la lb (done ++ [s2])))) := by
                  show World.ownsRow _ _ _ _ _ _ _
                  rw [HST.out]
                  simpa using o7
                have HO8 := Lib.hid (ownsRow_setCell_below HOF2.out (a := ⟨G0, 0, none⟩) (by simp) (.slice A7 p7 c7))
                have B7 := B6.trans (b7.mono (by omega))
                have B8 := Lib.hid (B7.setCell (p := ⟨G0, 0, none⟩) (by show w.heap.size ≤ G0; omega) (.slice A7 p7 c7))
                replace dO := (b7.cell (p := ⟨w.heap.size, 0, none⟩) (by show w.heap.size < G0 + 1; omega)).trans dO
                have dO8 : Hid ((w7.setCell ⟨G0, 0, none⟩ (.slice A7 p7 c7)).cell? ⟨w.heap.size, 0, none⟩ = some (.slice Ao no co)) := by
                  show _ = _
                  rw [World.cell?_setCell_far w7 ⟨G0, 0, none⟩ ⟨w.heap.size, 0, none⟩ _ (by show G0 ≠ w.heap.size; omega)]
                  exact dO
                replace dA := (b7.cell (p := ⟨w.heap.size + 1, 0, none⟩) (by show w.heap.size + 1 < G0 + 1; omega)).trans dA
                have dA8 : Hid ((w7.setCell ⟨G0, 0, none⟩ (.slice A7 p7 c7)).cell? ⟨w.heap.size + 1, 0, none⟩ = some (.slice Aa na ca)) := by
                  show _ = _
                  rw [World.cell?_setCell_far w7 ⟨G0, 0, none⟩ ⟨w.heap.size + 1, 0, none⟩ _ (by show G0 ≠ w.heap.size + 1; omega)]
                  exact dA
                replace dB := (b7.cell (p := ⟨w.heap.size + 1 + 1, 0, none⟩) (by show w.heap.size + 1 + 1 < G0 + 1; omega)).trans dB
                have dB8 : Hid ((w7.setCell ⟨G0, 0, none⟩ (.slice A7 p7 c7)).cell? ⟨w.heap.size + 1 + 1, 0, none⟩ = some (.slice (some ⟨b2, o2, none⟩) nb cb)) := by
                  show _ = _
                  rw [World.cell?_setCell_far w7 ⟨G0, 0, none⟩ ⟨w.heap.size + 1 + 1, 0, none⟩ _ (by show G0 ≠ w.heap.size + 1 + 1; omega)]
                  exact dB
                replace dR := (b7.cell (p := ⟨w.heap.size + 1 + 1 + 1, 0, none⟩) (by show w.heap.size + 1 + 1 + 1 < G0 + 1; omega)).trans dR
                have dR8 : Hid ((w7.setCell ⟨G0, 0, none⟩ (.slice A7 p7 c7)).cell? ⟨w.heap.size + 1 + 1 + 1, 0, none⟩ = some (.slice none 0 0)) := by
                  show _ = _
                  rw [World.cell?_setCell_far w7 ⟨G0, 0, none⟩ ⟨w.heap.size + 1 + 1 + 1, 0, none⟩ _ (by show G0 ≠ w.heap.size + 1 + 1 + 1; omega)]
                  exact dR
                replace fR := (b7.frozen (p := ⟨w.heap.size + 1 + 1 + 1, 0, none⟩) (by show w.heap.size + 1 + 1 + 1 < G0 + 1; omega)).trans fR
                have fR8 : Hid ((w7.setCell ⟨G0, 0, none⟩ (.slice A7 p7 c7)).frozen? ⟨w.heap.size + 1 + 1 + 1, 0, none⟩ = false) := Lib.hid (by simp [fR])
                replace dG : w7.cell? ⟨G0, 0, none⟩ = some (.slice O p c) := (b7.cell (p := ⟨G0, 0, none⟩) (by simp)).trans dG
                replace fG : w7.frozen? ⟨G0, 0, none⟩ = false := (b7.frozen (p := ⟨G0, 0, none⟩) (by simp)).trans fG
                have dG8 : Hid ((w7.setCell ⟨G0, 0, none⟩ (.slice A7 p7 c7)).cell? ⟨G0, 0, none⟩ = some (.slice A7 p7 c7)) := Lib.hid (by simp [go_sem, dG])
                have fG8 : Hid ((w7.setCell ⟨G0, 0, none⟩ (.slice A7 p7 c7)).frozen? ⟨G0, 0, none⟩ = false) := Lib.hid (by simp [fG])
                have hs8 : Hid (G0 + 1 ≤ (w7.setCell ⟨G0, 0, none⟩ (.slice A7 p7 c7)).heap.size) := Lib.hid (by simpa using hs7)
                clear o7 b7 g7 hp7 B7
                go_wp2
                go_roundw
                case rel => exact ⟨i, (k + 1), _, A7, p7, c7, by omega, by omega, by go_num, by go_num, HU2.out, HO8.out, B8.out, dO8.out, dA8.out, dB8.out, dR8.out, fR8.out, dG8.out, fG8.out, hs8.out⟩
                case measure => simp [intOf]; omega
            · obtain rfl : i = na := by omega
              obtain rfl : k = nb := by omega
              clear i1n i1d
              have HDB : Hid (lb.drop k = []) := Lib.hid (List.drop_eq_nil_iff.2 (Nat.le_of_eq LB.out))
              obtain ⟨M, hM⟩ : ∃ M, M = mrgL lo la lb := ⟨_, rfl⟩
              have HOM : Hid (okF M) := by
                show okF M
                rw [hM]
                exact okF_mgL oka okb _
              have hdn : mgL lo la lb done = M := by
                rw [hM]
                unfold mrgL
                rw [HU.out, HDA.out, HDB.out, uniN_nil, List.map_nil, List.append_nil]
              replace HOF : Hid (wr.ownsRow (G0 + 1) 91 2 (.slice O p c) p (fl M)) := by
                have h1 := HOF.out
                rw [hdn] at h1
                exact h1
              replace HE : Hid ((lr, r) = if recB M then (M, true) else (la, false)) := by
                have h1 := HE.out
                rw [← hM] at h1
                exact h1
              obtain ⟨rm, hrm⟩ : ∃ x, x = recB M := ⟨_, rfl⟩
              have Hm := Lib.hid hrm
              clear hrm hdn hM
              go_wp2_with fail
              refine (specIsRecord_any O p c M rm _ (by unfold maxLen; omega) (Rd.of_own HOF.out) HOM.out Hm.out).mono ?_
              rintro e v4 ⟨rfl, cv4⟩
              have C4 := hbel.trans (cv4.mono hbel.size)
              replace dA := kcell cv4 dA
              replace dR := kcell cv4 dR
              replace dG := kcell cv4 dG
              replace fR := kfro cv4 (by omega) fR
              replace HOF : Hid (v4.ownsRow (G0 + 1) 91 2 (.slice O p c) p (fl M)) := own_below HOF.out cv4
              have hsv4 := cv4.size
              clear cv4
              cases rm
              · go_wp2_with fail
                refine (l5Copy_any _ _ ca la _ (by omega) (ha.below C4)).mono ?_
                rintro e u4 ⟨A9, n9, c9, rfl, q9, t9⟩
                have C9 := C4.trans (t9.mono C4.size)
                replace dR := kcell t9 dR
                replace fR := kfro t9 (by omega) fR
                have B9 := Lib.hid (C9.setCell (p := ⟨w.heap.size + 1 + 1 + 1, 0, none⟩) (by show w.heap.size ≤ w.heap.size + 1 + 1 + 1; omega) (.slice A9 n9 c9))
                have O9 := Lib.hid (own_base (base' := w.heap.size) (ownsRow_setCell_below q9 (a := ⟨w.heap.size + 1 + 1 + 1, 0, none⟩) (by show w.heap.size + 1 + 1 + 1 < v4.heap.size; omega) (.slice A9 n9 c9)) (by omega))
                have HN := (Lib.hid (HE.out.trans (if_neg (by rw [← Hm.out]; simp))) : Hid ((lr, r) = (la, false)))
                clear t9 q9 C9
                go_wp2
                exact bodyPost_ret (v := .tuple #[.agg #[.slice A9 n9 c9], .bool false]) (by simp [results, Try.results20, go_sem, dR]) rfl (MkRB_mk HN.out O9.out B9.out)
              · have HN : Hid ((lr, r) = (M, true)) := Lib.hid (HE.out.trans (if_pos Hm.out.symm))
                have B9 := Lib.hid (C4.setCell (p := ⟨w.heap.size + 1 + 1 + 1, 0, none⟩) (by show w.heap.size ≤ w.heap.size + 1 + 1 + 1; omega) (.slice O p c))
                have O9 := Lib.hid (own_base (base' := w.heap.size) (ownsRow_setCell_below HOF.out (a := ⟨w.heap.size + 1 + 1 + 1, 0, none⟩) (by show w.heap.size + 1 + 1 + 1 < G0 + 1; omega) (.slice O p c)) (by omega))
                go_wp2
                exact bodyPost_ret (v := .tuple #[.agg #[.slice O p c], .bool true]) (by simp [results, Try.results20, go_sem, dR]) rfl (MkRB_mk HN.out O9.out B9.out)
end Go.Proofs.Ytbbngihmjdndoaa
