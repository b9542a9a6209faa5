/-
  Proved: the place of the first quote in a text, as the reference's ParseKey looks for it. Conditions: none.
  By an AI agent; no person has read it.
-/
import Derived.Test.YtnbhdijmbpdgoaaDoorPKeyI
namespace Go.Proofs.YtnbhdijmbpdgoaaDoor
open Go.RowKit Go.Lib

theorem find_quote : ∀ {p : Nat} {l : List UInt8}, (p = l.length ∨ l[p]? = some 39) → (∀ j, j < p → l[j]? ≠ some 39) → headA l = l.take p ∧ restB l = l.drop p
  | 0, l, h1, _ => by
    cases l with
    | nil => exact ⟨rfl, rfl⟩
    | cons b r =>
      have hb : b = 39 := by simpa using h1
      subst hb
      simp [headA, restB]
  | p + 1, l, h1, h2 => by
    cases l with
    | nil =>
      simp at h1
    | cons b r =>
      have hb : b ≠ 39 := by
        intro e
        exact h2 0 (by omega) (by simp [e])
      have ih := find_quote (p := p) (l := r) (by simpa using h1) (fun j hj => by
        have := h2 (j + 1) (by omega)
        simpa using this)
      unfold headA restB at ih ⊢
      simp [hb, ih.1, ih.2]

set_option maxRecDepth 100000 in
set_option maxHeartbeats 20000000 in
theorem specParseKey_any (s : ByteArray) (w : World) (hs : s.size ≤ 1048576) :
    Calls Tryd.prog 9 #[.string s] w fun e w' => e = .returned (.tuple #[.agg #[.int .i64 (rkK s), .int .i64 (rkN s), .string (rkT s)], .bool (pkOk s)]) ∧ Below w.heap.size w w' := by
  go_enter Tryd.func9, Tryd.ntmps9
  go_wp2_with fail
  go_loop [4, 5] (fun a i => ∃ (q : Int) (p : Nat), i = .int .i64 q ∧ a = .int .i64 (p : Int) ∧ (-1 ≤ q ∧ q < p) ∧ p ≤ s.size ∧ (p = s.data.toList.length ∨ s.data.toList[p]? = some 39) ∧ (∀ j : Nat, q < j → j < p → s.data.toList[j]? ≠ some 39)) (fun _ i => (RowKit.intOf i + 1).toNat)
  case atStart => exact ⟨s.size - 1, s.size, rfl, rfl, by omega, Nat.le_refl _, .inl (data_len s).symm, fun j h1 h2 => by omega⟩
  case round =>
    obtain ⟨q, p, rfl, rfl, hq, hp, h1, h2⟩ := hrel
    have H1 := Lib.hid h1
    have H2 := Lib.hid h2
    clear h1 h2
    by_cases hq0 : 0 ≤ q
    · obtain ⟨k, hk⟩ : ∃ k : Nat, q = (k : Int) := ⟨q.toNat, by omega⟩
      subst hk
      have hlt : k < s.size := by omega
      have HX := Lib.hid (str_at s k hlt)
      by_cases hb : s[k].toNat = 39
      · have hbi : ((s[k].toNat : Int) == 39) = true := by rw [hb]; rfl
        have H3 : Hid (s.data.toList[k]? = some 39) := by
          show _ = _
          rw [HX.out]
          congr 1
          exact UInt8.toNat_inj.1 hb
        clear hb
        go_wp2
        go_round
        case rel => exact ⟨(k : Int) - 1, k, by go_num, rfl, by omega, by omega, .inr H3.out, fun j h3 h4 => by omega⟩
        case measure => simp [RowKit.intOf]
      · have hbi : ((s[k].toNat : Int) == 39) = false := by
          rw [beq_eq_false_iff_ne]
          omega
        have H3 : Hid (s.data.toList[k]? ≠ some 39) := by
          show _ ≠ _
          rw [HX.out]
          intro e
          injection e with e
          exact hb (by rw [e]; rfl)
        clear hb
        go_wp2
        go_round
        case rel => exact ⟨(k : Int) - 1, p, by go_num, rfl, by omega, hp, H1.out, fun j h3 h4 => by
          rcases (by omega : j = k ∨ k < j) with e | e
          · subst e
            exact H3.out
          · exact H2.out j (by omega) h4⟩
        case measure => simp [RowKit.intOf]
    · obtain rfl : q = -1 := by omega
      have hf := find_quote (p := p) (l := s.data.toList) H1.out (fun j hj => H2.out j (by omega) hj)
      have HF := Lib.hid hf
      clear hf H1 H2
      have hex1 : s.extract 0 p = strOf (headA s.data.toList) := by
        rw [HF.out.1]
        apply ByteArray.ext
        apply Array.ext'
        simp [strOf]
      by_cases hA : headA s.data.toList = []
      · have hp0 : p = 0 := by
          have h := congrArg List.length HF.out.1
          rw [hA, List.length_take, data_len] at h
          simp at h
          omega
        by_cases hps : p = s.size
        · subst hps
          have hp1 : ¬ (0 : Int) < (s.size : Int) := by omega
          have HKK : Hid (pkK s.data.toList = 1) := by
            show _ = _
            unfold pkK
            rw [HF.out.2]
            rw [if_pos (by rw [← data_len, List.drop_length])]
          have HN : Hid (pkN s.data.toList = 0) := by
            show _ = _
            unfold pkN negA bodyA
            rw [hA]
            exact piN_nil
          have HT : Hid (pkT s.data.toList = ⟨#[]⟩) := by
            show _ = _
            unfold pkT
            rw [HF.out.2]
            rw [← data_len, List.drop_length]
            rfl
          clear hex1 hA
          go_wp2_with fail
          have hTs : (⟨#[]⟩ : ByteArray).size ≤ maxLen := by
            decide
          obtain ⟨rb, hrb⟩ : ∃ rb, rb = keyB 1 (0) ⟨#[]⟩ := ⟨_, rfl⟩
          have HRB := Lib.hid hrb
          refine (specIsKey_any _ _ _ rb _ hTs hrb).mono ?_
          clear hrb
          rintro e w5 ⟨rfl, b5⟩
          have B5 : Below w.heap.size w w5 := by
            exact (alT (alT (Below.refl _ _))).trans (b5.mono (by simp; omega))
          have x0 := kcell b5 (b := w.heap.size) (o := 0) (v := .int .i64 0) (by simp)
          have f0 := kfro b5 (b := w.heap.size) (o := 0) (by simp) (by simp; omega)
          have y0 := kcell b5 (b := w.heap.size + 1) (o := 0) (v := .int .i64 1) (by simp)
          have x1 := kcell b5 (b := w.heap.size) (o := 1) (v := .int .i64 0) (by simp)
          have f1 := kfro b5 (b := w.heap.size) (o := 1) (by simp) (by simp; omega)
          have y1 := kcell b5 (b := w.heap.size + 1) (o := 1) (v := .int .i64 (0)) (by simp)
          have x2 := kcell b5 (b := w.heap.size) (o := 2) (v := .string ⟨#[]⟩) (by simp)
          have f2 := kfro b5 (b := w.heap.size) (o := 2) (by simp) (by simp; omega)
          have y2 := kcell b5 (b := w.heap.size + 1) (o := 2) (v := .string ⟨#[]⟩) (by simp)
          have hz5 : w.heap.size + 1 < w5.heap.size := by have := b5.size; simp at this; omega
          clear b5
          cases rb
          · have HK : Hid (pkOk s = false) := by
              show _ = _
              unfold pkOk
              rw [HKK.out, HN.out, HT.out, ← HRB.out, Bool.false_and]
            go_wp2
            refine bodyPost_ret (v := .tuple #[.agg #[.int .i64 0, .int .i64 0, .string ⟨#[]⟩], .bool false]) (by simp [results, Tryd.results9, go_sem, x0, x1, x2]) rfl ⟨?_, ?_⟩
            · rw [HK.out, (rk_no HK.out).1, (rk_no HK.out).2.1, (rk_no HK.out).2.2]
            · repeat (first | exact B5 | refine set_below ?_ (by omega) _)
          · have HPK : Hid (pkOk s = decide (fmtK 1 (0) ⟨#[]⟩ = s)) := by
              show _ = _
              unfold pkOk
              rw [HKK.out, HN.out, HT.out, ← HRB.out, Bool.true_and]
            go_wp2_with fail
            refine (specFormatKey_any _ _ _ _ hTs).mono ?_
            rintro e w6 ⟨rfl, b6⟩
            have B6 := B5.trans (b6.mono B5.size)
            replace x0 := kcell b6 x0
            replace y0 := kcell b6 y0
            replace f0 := kfro b6 f0 (by omega)
            replace x1 := kcell b6 x1
            replace y1 := kcell b6 y1
            replace f1 := kfro b6 f1 (by omega)
            replace x2 := kcell b6 x2
            replace y2 := kcell b6 y2
            replace f2 := kfro b6 f2 (by omega)
            clear b6
            by_cases hf : fmtK 1 (0) ⟨#[]⟩ = s
            · have HK := Lib.hid (show pkOk s = true by rw [HPK.out]; exact decide_eq_true hf)
              rw [hf]
              clear hf
              go_wp2
              refine bodyPost_ret (v := .tuple #[.agg #[.int .i64 1, .int .i64 (0), .string ⟨#[]⟩], .bool true]) (by simp [results, Tryd.results9, go_sem, x0, x1, x2]) rfl ⟨?_, ?_⟩
              · rw [HK.out, (rk_yes HK.out).1, (rk_yes HK.out).2.1, (rk_yes HK.out).2.2, HKK.out, HN.out, HT.out]
              · repeat (first | exact B6 | refine set_below ?_ (by omega) _)
            · have HK := Lib.hid (show pkOk s = false by rw [HPK.out]; exact decide_eq_false hf)
              obtain ⟨g, hg⟩ : ∃ g, g = fmtK 1 (0) ⟨#[]⟩ := ⟨_, rfl⟩
              rw [← hg] at hf ⊢
              have hne := str_beq hf
              clear hf hg
              go_wp2
              refine bodyPost_ret (v := .tuple #[.agg #[.int .i64 0, .int .i64 0, .string ⟨#[]⟩], .bool false]) (by simp [results, Tryd.results9, go_sem, x0, x1, x2]) rfl ⟨?_, ?_⟩
              · rw [HK.out, (rk_no HK.out).1, (rk_no HK.out).2.1, (rk_no HK.out).2.2]
              · repeat (first | exact B6 | refine set_below ?_ (by omega) _)
        · have hpl : (p : Int) < (s.size : Int) := by omega
          have hp1 : ¬ (0 : Int) < (p : Int) := by omega
          have HKK : Hid (pkK s.data.toList = 2) := by
            show _ = _
            unfold pkK
            rw [HF.out.2]
            rw [if_neg (by rw [List.drop_eq_nil_iff, data_len]; omega), if_pos hA]
          have HN : Hid (pkN s.data.toList = 0) := by
            show _ = _
            unfold pkN negA bodyA
            rw [hA]
            exact piN_nil
          have HT : Hid (pkT s.data.toList = (s.extract (p + 1) s.size)) := by
            show _ = _
            unfold pkT
            rw [HF.out.2]
            apply ByteArray.ext
            apply Array.ext'
            simp [strOf]
            exact (List.take_of_length_le (Nat.le_of_eq (by rw [List.length_drop, data_len]))).symm
          clear hex1 hA hp0
          go_wp2_with fail
          have hTs : ((s.extract (p + 1) s.size) : ByteArray).size ≤ maxLen := by
            rw [ByteArray.size_extract]
            unfold maxLen
            omega
          obtain ⟨rb, hrb⟩ : ∃ rb, rb = keyB 2 (0) (s.extract (p + 1) s.size) := ⟨_, rfl⟩
          have HRB := Lib.hid hrb
          refine (specIsKey_any _ _ _ rb _ hTs hrb).mono ?_
          clear hrb
          rintro e w5 ⟨rfl, b5⟩
          have B5 : Below w.heap.size w w5 := by
            exact (alT (alT (Below.refl _ _))).trans (b5.mono (by simp; omega))
          have x0 := kcell b5 (b := w.heap.size) (o := 0) (v := .int .i64 0) (by simp)
          have f0 := kfro b5 (b := w.heap.size) (o := 0) (by simp) (by simp; omega)
          have y0 := kcell b5 (b := w.heap.size + 1) (o := 0) (v := .int .i64 2) (by simp)
          have x1 := kcell b5 (b := w.heap.size) (o := 1) (v := .int .i64 0) (by simp)
          have f1 := kfro b5 (b := w.heap.size) (o := 1) (by simp) (by simp; omega)
          have y1 := kcell b5 (b := w.heap.size + 1) (o := 1) (v := .int .i64 (0)) (by simp)
          have x2 := kcell b5 (b := w.heap.size) (o := 2) (v := .string ⟨#[]⟩) (by simp)
          have f2 := kfro b5 (b := w.heap.size) (o := 2) (by simp) (by simp; omega)
          have y2 := kcell b5 (b := w.heap.size + 1) (o := 2) (v := .string (s.extract (p + 1) s.size)) (by simp)
          have hz5 : w.heap.size + 1 < w5.heap.size := by have := b5.size; simp at this; omega
          clear b5
          cases rb
          · have HK : Hid (pkOk s = false) := by
              show _ = _
              unfold pkOk
              rw [HKK.out, HN.out, HT.out, ← HRB.out, Bool.false_and]
            go_wp2
            refine bodyPost_ret (v := .tuple #[.agg #[.int .i64 0, .int .i64 0, .string ⟨#[]⟩], .bool false]) (by simp [results, Tryd.results9, go_sem, x0, x1, x2]) rfl ⟨?_, ?_⟩
            · rw [HK.out, (rk_no HK.out).1, (rk_no HK.out).2.1, (rk_no HK.out).2.2]
            · repeat (first | exact B5 | refine set_below ?_ (by omega) _)
          · have HPK : Hid (pkOk s = decide (fmtK 2 (0) (s.extract (p + 1) s.size) = s)) := by
              show _ = _
              unfold pkOk
              rw [HKK.out, HN.out, HT.out, ← HRB.out, Bool.true_and]
            go_wp2_with fail
            refine (specFormatKey_any _ _ _ _ hTs).mono ?_
            rintro e w6 ⟨rfl, b6⟩
            have B6 := B5.trans (b6.mono B5.size)
            replace x0 := kcell b6 x0
            replace y0 := kcell b6 y0
            replace f0 := kfro b6 f0 (by omega)
            replace x1 := kcell b6 x1
            replace y1 := kcell b6 y1
            replace f1 := kfro b6 f1 (by omega)
            replace x2 := kcell b6 x2
            replace y2 := kcell b6 y2
            replace f2 := kfro b6 f2 (by omega)
            clear b6
            by_cases hf : fmtK 2 (0) (s.extract (p + 1) s.size) = s
            · have HK := Lib.hid (show pkOk s = true by rw [HPK.out]; exact decide_eq_true hf)
              rw [hf]
              clear hf
              go_wp2
              refine bodyPost_ret (v := .tuple #[.agg #[.int .i64 2, .int .i64 (0), .string (s.extract (p + 1) s.size)], .bool true]) (by simp [results, Tryd.results9, go_sem, x0, x1, x2]) rfl ⟨?_, ?_⟩
              · rw [HK.out, (rk_yes HK.out).1, (rk_yes HK.out).2.1, (rk_yes HK.out).2.2, HKK.out, HN.out, HT.out]
              · repeat (first | exact B6 | refine set_below ?_ (by omega) _)
            · have HK := Lib.hid (show pkOk s = false by rw [HPK.out]; exact decide_eq_false hf)
              obtain ⟨g, hg⟩ : ∃ g, g = fmtK 2 (0) (s.extract (p + 1) s.size) := ⟨_, rfl⟩
              rw [← hg] at hf ⊢
              have hne := str_beq hf
              clear hf hg
              go_wp2
              refine bodyPost_ret (v := .tuple #[.agg #[.int .i64 0, .int .i64 0, .string ⟨#[]⟩], .bool false]) (by simp [results, Tryd.results9, go_sem, x0, x1, x2]) rfl ⟨?_, ?_⟩
              · rw [HK.out, (rk_no HK.out).1, (rk_no HK.out).2.1, (rk_no HK.out).2.2]
              · repeat (first | exact B6 | refine set_below ?_ (by omega) _)
      · obtain ⟨c, r, hcr⟩ : ∃ c r, headA s.data.toList = c :: r := by
          cases hh : headA s.data.toList with
          | nil => exact absurd hh hA
          | cons c r => exact ⟨c, r, rfl⟩
        have hp0 : (0 : Int) < (p : Int) := by
          rcases Nat.eq_zero_or_pos p with h | h
          · exfalso
            apply hA
            rw [HF.out.1, h, List.take_zero]
          · omega
        obtain ⟨D, hD⟩ : ∃ D, D = strOf (c :: r) := ⟨_, rfl⟩
        have hDs : D.size = r.length + 1 := by rw [hD, strOf_size, List.length_cons]
        have hD0 : 0 < D.size := by omega
        have hDc : D[0].toNat = c.toNat := by
          subst hD
          rfl
        have hDx : D.extract 1 D.size = strOf r := by
          rw [hD]
          apply ByteArray.ext
          apply Array.ext'
          rw [show (strOf (c :: r)).size = r.length + 1 by rw [strOf_size, List.length_cons]]
          simp [strOf]
        have hD1 : (0 : Int) < (D.size : Int) := by omega
        have hD2 : (1 : Int) ≤ (D.size : Int) := by omega
        rw [hcr, ← hD] at hex1
        have HD := Lib.hid hD
        have HCR := Lib.hid hcr
        clear hD hcr hDs hA
        by_cases hc : c = 45
        · have hc2 : ((D[0].toNat : Int) == 45) = true := by rw [hDc, hc]; rfl
          have HC := Lib.hid hc
          clear hc hDc
          by_cases hps : p = s.size
          · subst hps
            go_wp2_with fail
            have hbd : strOf (bodyA s.data.toList) = (strOf r) := by
              unfold bodyA
              rw [HCR.out]
              show strOf (if c = 45 then r else c :: r) = _
              rw [if_pos HC.out]
            have hng : negA s.data.toList = true := by
              unfold negA
              rw [HCR.out]
              show (c == 45) = _
              rw [HC.out]; rfl
            have hkk : pkK s.data.toList = 1 := by
              unfold pkK
              rw [HF.out.2, HCR.out]
              rw [if_pos (by rw [← data_len, List.drop_length])]
            have hT : pkT s.data.toList = ⟨#[]⟩ := by
              unfold pkT
              rw [HF.out.2]
              rw [← data_len, List.drop_length]
              rfl
            obtain ⟨x, hx⟩ : ∃ x, x = piN (strOf r) := ⟨_, rfl⟩
            obtain ⟨o, ho⟩ : ∃ o, o = piB (strOf r) := ⟨_, rfl⟩
            have hx1 := piN_rng (strOf r)
            rw [← hx] at hx1
            have HN := Lib.hid (show pkN s.data.toList = -x by unfold pkN; rw [hng, hbd, ← hx]; rfl)
            have HBO := Lib.hid (show piB (strOf (bodyA s.data.toList)) = o by rw [hbd, ← ho])
            have HKK := Lib.hid hkk
            have HT := Lib.hid hT
            have HX := Lib.hid hx
            have HO := Lib.hid ho
            have hXs : (strOf r).size ≤ maxLen := by
              have h1 := bodyA_len s.data.toList
              rw [data_len] at h1
              rw [← hbd, strOf_size]
              unfold maxLen
              omega
            clear hbd hng hkk hT hx ho
            refine (specParseInt_any (strOf r) _ hXs).mono ?_
            rw [← HX.out, ← HO.out]
            rintro e w3 ⟨rfl, b3⟩
            have B3 : Below w.heap.size w w3 := (alT (alT (Below.refl _ _))).trans (b3.mono (by simp; omega))
            have d0 : w3.cell? ⟨w.heap.size, 0, none⟩ = some (.int .i64 0) := kcell b3 (by simp)
            have e0 : w3.frozen? ⟨w.heap.size, 0, none⟩ = false := kfro b3 (by simp) (by simp; omega)
            have d1 : w3.cell? ⟨w.heap.size, 1, none⟩ = some (.int .i64 0) := kcell b3 (by simp)
            have e1 : w3.frozen? ⟨w.heap.size, 1, none⟩ = false := kfro b3 (by simp) (by simp; omega)
            have d2 : w3.cell? ⟨w.heap.size, 2, none⟩ = some (.string ⟨#[]⟩) := kcell b3 (by simp)
            have e2 : w3.frozen? ⟨w.heap.size, 2, none⟩ = false := kfro b3 (by simp) (by simp; omega)
            have k0 : w3.cell? ⟨w.heap.size + 1, 0, none⟩ = some (.int .i64 1) := kcell b3 (by simp)
            have l0 : w3.frozen? ⟨w.heap.size + 1, 0, none⟩ = false := kfro b3 (by simp) (by simp)
            have k1 : w3.cell? ⟨w.heap.size + 1, 1, none⟩ = some (.int .i64 0) := kcell b3 (by simp)
            have l1 : w3.frozen? ⟨w.heap.size + 1, 1, none⟩ = false := kfro b3 (by simp) (by simp)
            have k2 : w3.cell? ⟨w.heap.size + 1, 2, none⟩ = some (.string ⟨#[]⟩) := kcell b3 (by simp)
            have l2 : w3.frozen? ⟨w.heap.size + 1, 2, none⟩ = false := kfro b3 (by simp) (by simp)
            have hz : w.heap.size + 1 < w3.heap.size := by have := b3.size; simp at this; omega
            clear b3
            cases o
            · have HK := Lib.hid (pk_bad (s := s) (by rw [HCR.out]; simp) HBO.out)
              go_wp2
              refine bodyPost_ret (v := .tuple #[.agg #[.int .i64 0, .int .i64 0, .string ⟨#[]⟩], .bool false]) (by simp [results, Tryd.results9, go_sem, d0, d1, d2]) rfl ⟨?_, ?_⟩
              · rw [HK.out, (rk_no HK.out).1, (rk_no HK.out).2.1, (rk_no HK.out).2.2]
              · repeat (first | exact B3 | refine set_below ?_ (by omega) _)
            · go_wp2_with fail
              have hTs : (⟨#[]⟩ : ByteArray).size ≤ maxLen := by
                decide
              obtain ⟨rb, hrb⟩ : ∃ rb, rb = keyB 1 (-x) ⟨#[]⟩ := ⟨_, rfl⟩
              have HRB := Lib.hid hrb
              refine (specIsKey_any _ _ _ rb _ hTs hrb).mono ?_
              clear hrb
              rintro e w5 ⟨rfl, b5⟩
              have B5 : Below w.heap.size w w5 := by
                refine Below.trans ?_ (b5.mono (by simp; omega))
                repeat (first | exact B3 | refine set_below ?_ (by omega) _)
              have x0 := kcell b5 (b := w.heap.size) (o := 0) (v := .int .i64 0) ((World.cell?_setCell_other _ _ _ _ (by simp)).trans d0)
              have f0 := kfro b5 (b := w.heap.size) (o := 0) (by simp [e0]) (by simp; omega)
              have y0 := kcell b5 (b := w.heap.size + 1) (o := 0) (v := .int .i64 1) ((World.cell?_setCell_other _ _ _ _ (by simp)).trans k0)
              have x1 := kcell b5 (b := w.heap.size) (o := 1) (v := .int .i64 0) ((World.cell?_setCell_other _ _ _ _ (by simp)).trans d1)
              have f1 := kfro b5 (b := w.heap.size) (o := 1) (by simp [e1]) (by simp; omega)
              have y1 := kcell b5 (b := w.heap.size + 1) (o := 1) (v := .int .i64 (-x)) (World.cell?_setCell_same _ _ _ k1)
              have x2 := kcell b5 (b := w.heap.size) (o := 2) (v := .string ⟨#[]⟩) ((World.cell?_setCell_other _ _ _ _ (by simp)).trans d2)
              have f2 := kfro b5 (b := w.heap.size) (o := 2) (by simp [e2]) (by simp; omega)
              have y2 := kcell b5 (b := w.heap.size + 1) (o := 2) (v := .string ⟨#[]⟩) ((World.cell?_setCell_other _ _ _ _ (by simp)).trans k2)
              have hz5 : w.heap.size + 1 < w5.heap.size := by have := b5.size; simp at this; omega
              clear b5
              cases rb
              · have HK : Hid (pkOk s = false) := by
                  show _ = _
                  unfold pkOk
                  rw [HKK.out, HN.out, HT.out, ← HRB.out, Bool.false_and]
                go_wp2
                refine bodyPost_ret (v := .tuple #[.agg #[.int .i64 0, .int .i64 0, .string ⟨#[]⟩], .bool false]) (by simp [results, Tryd.results9, go_sem, x0, x1, x2]) rfl ⟨?_, ?_⟩
                · rw [HK.out, (rk_no HK.out).1, (rk_no HK.out).2.1, (rk_no HK.out).2.2]
                · repeat (first | exact B5 | refine set_below ?_ (by omega) _)
              · have HPK : Hid (pkOk s = decide (fmtK 1 (-x) ⟨#[]⟩ = s)) := by
                  show _ = _
                  unfold pkOk
                  rw [HKK.out, HN.out, HT.out, ← HRB.out, Bool.true_and]
                go_wp2_with fail
                refine (specFormatKey_any _ _ _ _ hTs).mono ?_
                rintro e w6 ⟨rfl, b6⟩
                have B6 := B5.trans (b6.mono B5.size)
                replace x0 := kcell b6 x0
                replace y0 := kcell b6 y0
                replace f0 := kfro b6 f0 (by omega)
                replace x1 := kcell b6 x1
                replace y1 := kcell b6 y1
                replace f1 := kfro b6 f1 (by omega)
                replace x2 := kcell b6 x2
                replace y2 := kcell b6 y2
                replace f2 := kfro b6 f2 (by omega)
                clear b6
                by_cases hf : fmtK 1 (-x) ⟨#[]⟩ = s
                · have HK := Lib.hid (show pkOk s = true by rw [HPK.out]; exact decide_eq_true hf)
                  rw [hf]
                  clear hf
                  go_wp2
                  refine bodyPost_ret (v := .tuple #[.agg #[.int .i64 1, .int .i64 (-x), .string ⟨#[]⟩], .bool true]) (by simp [results, Tryd.results9, go_sem, x0, x1, x2]) rfl ⟨?_, ?_⟩
                  · rw [HK.out, (rk_yes HK.out).1, (rk_yes HK.out).2.1, (rk_yes HK.out).2.2, HKK.out, HN.out, HT.out]
                  · repeat (first | exact B6 | refine set_below ?_ (by omega) _)
                · have HK := Lib.hid (show pkOk s = false by rw [HPK.out]; exact decide_eq_false hf)
                  obtain ⟨g, hg⟩ : ∃ g, g = fmtK 1 (-x) ⟨#[]⟩ := ⟨_, rfl⟩
                  rw [← hg] at hf ⊢
                  have hne := str_beq hf
                  clear hf hg
                  go_wp2
                  refine bodyPost_ret (v := .tuple #[.agg #[.int .i64 0, .int .i64 0, .string ⟨#[]⟩], .bool false]) (by simp [results, Tryd.results9, go_sem, x0, x1, x2]) rfl ⟨?_, ?_⟩
                  · rw [HK.out, (rk_no HK.out).1, (rk_no HK.out).2.1, (rk_no HK.out).2.2]
                  · repeat (first | exact B6 | refine set_below ?_ (by omega) _)
          · have hpl : (p : Int) < (s.size : Int) := by omega
            go_wp2_with fail
            have hbd : strOf (bodyA s.data.toList) = (strOf r) := by
              unfold bodyA
              rw [HCR.out]
              show strOf (if c = 45 then r else c :: r) = _
              rw [if_pos HC.out]
            have hng : negA s.data.toList = true := by
              unfold negA
              rw [HCR.out]
              show (c == 45) = _
              rw [HC.out]; rfl
            have hkk : pkK s.data.toList = 3 := by
              unfold pkK
              rw [HF.out.2, HCR.out]
              rw [if_neg (by rw [List.drop_eq_nil_iff, data_len]; omega), if_neg (by simp)]
            have hT : pkT s.data.toList = (s.extract (p + 1) s.size) := by
              unfold pkT
              rw [HF.out.2]
              apply ByteArray.ext
              apply Array.ext'
              simp [strOf]
              exact (List.take_of_length_le (Nat.le_of_eq (by rw [List.length_drop, data_len]))).symm
            obtain ⟨x, hx⟩ : ∃ x, x = piN (strOf r) := ⟨_, rfl⟩
            obtain ⟨o, ho⟩ : ∃ o, o = piB (strOf r) := ⟨_, rfl⟩
            have hx1 := piN_rng (strOf r)
            rw [← hx] at hx1
            have HN := Lib.hid (show pkN s.data.toList = -x by unfold pkN; rw [hng, hbd, ← hx]; rfl)
            have HBO := Lib.hid (show piB (strOf (bodyA s.data.toList)) = o by rw [hbd, ← ho])
            have HKK := Lib.hid hkk
            have HT := Lib.hid hT
            have HX := Lib.hid hx
            have HO := Lib.hid ho
            have hXs : (strOf r).size ≤ maxLen := by
              have h1 := bodyA_len s.data.toList
              rw [data_len] at h1
              rw [← hbd, strOf_size]
              unfold maxLen
              omega
            clear hbd hng hkk hT hx ho
            refine (specParseInt_any (strOf r) _ hXs).mono ?_
            rw [← HX.out, ← HO.out]
            rintro e w3 ⟨rfl, b3⟩
            have B3 : Below w.heap.size w w3 := (alT (alT (Below.refl _ _))).trans (b3.mono (by simp; omega))
            have d0 : w3.cell? ⟨w.heap.size, 0, none⟩ = some (.int .i64 0) := kcell b3 (by simp)
            have e0 : w3.frozen? ⟨w.heap.size, 0, none⟩ = false := kfro b3 (by simp) (by simp; omega)
            have d1 : w3.cell? ⟨w.heap.size, 1, none⟩ = some (.int .i64 0) := kcell b3 (by simp)
            have e1 : w3.frozen? ⟨w.heap.size, 1, none⟩ = false := kfro b3 (by simp) (by simp; omega)
            have d2 : w3.cell? ⟨w.heap.size, 2, none⟩ = some (.string ⟨#[]⟩) := kcell b3 (by simp)
            have e2 : w3.frozen? ⟨w.heap.size, 2, none⟩ = false := kfro b3 (by simp) (by simp; omega)
            have k0 : w3.cell? ⟨w.heap.size + 1, 0, none⟩ = some (.int .i64 2) := kcell b3 (by simp)
            have l0 : w3.frozen? ⟨w.heap.size + 1, 0, none⟩ = false := kfro b3 (by simp) (by simp)
            have k1 : w3.cell? ⟨w.heap.size + 1, 1, none⟩ = some (.int .i64 0) := kcell b3 (by simp)
            have l1 : w3.frozen? ⟨w.heap.size + 1, 1, none⟩ = false := kfro b3 (by simp) (by simp)
            have k2 : w3.cell? ⟨w.heap.size + 1, 2, none⟩ = some (.string (s.extract (p + 1) s.size)) := kcell b3 (by simp)
            have l2 : w3.frozen? ⟨w.heap.size + 1, 2, none⟩ = false := kfro b3 (by simp) (by simp)
            have hz : w.heap.size + 1 < w3.heap.size := by have := b3.size; simp at this; omega
            clear b3
            cases o
            · have HK := Lib.hid (pk_bad (s := s) (by rw [HCR.out]; simp) HBO.out)
              go_wp2
              refine bodyPost_ret (v := .tuple #[.agg #[.int .i64 0, .int .i64 0, .string ⟨#[]⟩], .bool false]) (by simp [results, Tryd.results9, go_sem, d0, d1, d2]) rfl ⟨?_, ?_⟩
              · rw [HK.out, (rk_no HK.out).1, (rk_no HK.out).2.1, (rk_no HK.out).2.2]
              · repeat (first | exact B3 | refine set_below ?_ (by omega) _)
            · go_wp2_with fail
              have hTs : ((s.extract (p + 1) s.size) : ByteArray).size ≤ maxLen := by
                rw [ByteArray.size_extract]
                unfold maxLen
                omega
              obtain ⟨rb, hrb⟩ : ∃ rb, rb = keyB 3 (-x) (s.extract (p + 1) s.size) := ⟨_, rfl⟩
              have HRB := Lib.hid hrb
              refine (specIsKey_any _ _ _ rb _ hTs hrb).mono ?_
              clear hrb
              rintro e w5 ⟨rfl, b5⟩
              have B5 : Below w.heap.size w w5 := by
                refine Below.trans ?_ (b5.mono (by simp; omega))
                repeat (first | exact B3 | refine set_below ?_ (by omega) _)
              have x0 := kcell b5 (b := w.heap.size) (o := 0) (v := .int .i64 0) ((World.cell?_setCell_other _ _ _ _ (by simp)).trans ((World.cell?_setCell_other _ _ _ _ (by simp)).trans d0))
              have f0 := kfro b5 (b := w.heap.size) (o := 0) (by simp [e0]) (by simp; omega)
              have y0 := kcell b5 (b := w.heap.size + 1) (o := 0) (v := .int .i64 3) (World.cell?_setCell_same _ _ _ ((World.cell?_setCell_other _ _ _ _ (by simp)).trans k0))
              have x1 := kcell b5 (b := w.heap.size) (o := 1) (v := .int .i64 0) ((World.cell?_setCell_other _ _ _ _ (by simp)).trans ((World.cell?_setCell_other _ _ _ _ (by simp)).trans d1))
              have f1 := kfro b5 (b := w.heap.size) (o := 1) (by simp [e1]) (by simp; omega)
              have y1 := kcell b5 (b := w.heap.size + 1) (o := 1) (v := .int .i64 (-x)) ((World.cell?_setCell_other _ _ _ _ (by simp)).trans (World.cell?_setCell_same _ _ _ k1))
              have x2 := kcell b5 (b := w.heap.size) (o := 2) (v := .string ⟨#[]⟩) ((World.cell?_setCell_other _ _ _ _ (by simp)).trans ((World.cell?_setCell_other _ _ _ _ (by simp)).trans d2))
              have f2 := kfro b5 (b := w.heap.size) (o := 2) (by simp [e2]) (by simp; omega)
              have y2 := kcell b5 (b := w.heap.size + 1) (o := 2) (v := .string (s.extract (p + 1) s.size)) ((World.cell?_setCell_other _ _ _ _ (by simp)).trans ((World.cell?_setCell_other _ _ _ _ (by simp)).trans k2))
              have hz5 : w.heap.size + 1 < w5.heap.size := by have := b5.size; simp at this; omega
              clear b5
              cases rb
              · have HK : Hid (pkOk s = false) := by
                  show _ = _
                  unfold pkOk
                  rw [HKK.out, HN.out, HT.out, ← HRB.out, Bool.false_and]
                go_wp2
                refine bodyPost_ret (v := .tuple #[.agg #[.int .i64 0, .int .i64 0, .string ⟨#[]⟩], .bool false]) (by simp [results, Tryd.results9, go_sem, x0, x1, x2]) rfl ⟨?_, ?_⟩
                · rw [HK.out, (rk_no HK.out).1, (rk_no HK.out).2.1, (rk_no HK.out).2.2]
                · repeat (first | exact B5 | refine set_below ?_ (by omega) _)
              · have HPK : Hid (pkOk s = decide (fmtK 3 (-x) (s.extract (p + 1) s.size) = s)) := by
                  show _ = _
                  unfold pkOk
                  rw [HKK.out, HN.out, HT.out, ← HRB.out, Bool.true_and]
                go_wp2_with fail
                refine (specFormatKey_any _ _ _ _ hTs).mono ?_
                rintro e w6 ⟨rfl, b6⟩
                have B6 := B5.trans (b6.mono B5.size)
                replace x0 := kcell b6 x0
                replace y0 := kcell b6 y0
                replace f0 := kfro b6 f0 (by omega)
                replace x1 := kcell b6 x1
                replace y1 := kcell b6 y1
                replace f1 := kfro b6 f1 (by omega)
                replace x2 := kcell b6 x2
                replace y2 := kcell b6 y2
                replace f2 := kfro b6 f2 (by omega)
                clear b6
                by_cases hf : fmtK 3 (-x) (s.extract (p + 1) s.size) = s
                · have HK := Lib.hid (show pkOk s = true by rw [HPK.out]; exact decide_eq_true hf)
                  rw [hf]
                  clear hf
                  go_wp2
                  refine bodyPost_ret (v := .tuple #[.agg #[.int .i64 3, .int .i64 (-x), .string (s.extract (p + 1) s.size)], .bool true]) (by simp [results, Tryd.results9, go_sem, x0, x1, x2]) rfl ⟨?_, ?_⟩
                  · rw [HK.out, (rk_yes HK.out).1, (rk_yes HK.out).2.1, (rk_yes HK.out).2.2, HKK.out, HN.out, HT.out]
                  · repeat (first | exact B6 | refine set_below ?_ (by omega) _)
                · have HK := Lib.hid (show pkOk s = false by rw [HPK.out]; exact decide_eq_false hf)
                  obtain ⟨g, hg⟩ : ∃ g, g = fmtK 3 (-x) (s.extract (p + 1) s.size) := ⟨_, rfl⟩
                  rw [← hg] at hf ⊢
                  have hne := str_beq hf
                  clear hf hg
                  go_wp2
                  refine bodyPost_ret (v := .tuple #[.agg #[.int .i64 0, .int .i64 0, .string ⟨#[]⟩], .bool false]) (by simp [results, Tryd.results9, go_sem, x0, x1, x2]) rfl ⟨?_, ?_⟩
                  · rw [HK.out, (rk_no HK.out).1, (rk_no HK.out).2.1, (rk_no HK.out).2.2]
                  · repeat (first | exact B6 | refine set_below ?_ (by omega) _)
        · have hc2 : ((D[0].toNat : Int) == 45) = false := by
            rw [hDc, beq_eq_false_iff_ne]
            intro e
            exact hc (UInt8.toNat_inj.1 (by
              show c.toNat = 45
              omega))
          have HC := Lib.hid hc
          clear hc hDc
          by_cases hps : p = s.size
          · subst hps
            go_wp2_with fail
            have hbd : strOf (bodyA s.data.toList) = D := by
              unfold bodyA
              rw [HCR.out]
              show strOf (if c = 45 then r else c :: r) = _
              rw [if_neg HC.out, HD.out]
            have hng : negA s.data.toList = false := by
              unfold negA
              rw [HCR.out]
              show (c == 45) = _
              exact beq_eq_false_iff_ne.2 HC.out
            have hkk : pkK s.data.toList = 1 := by
              unfold pkK
              rw [HF.out.2, HCR.out]
              rw [if_pos (by rw [← data_len, List.drop_length])]
            have hT : pkT s.data.toList = ⟨#[]⟩ := by
              unfold pkT
              rw [HF.out.2]
              rw [← data_len, List.drop_length]
              rfl
            obtain ⟨x, hx⟩ : ∃ x, x = piN D := ⟨_, rfl⟩
            obtain ⟨o, ho⟩ : ∃ o, o = piB D := ⟨_, rfl⟩
            have hx1 := piN_rng D
            rw [← hx] at hx1
            have HN := Lib.hid (show pkN s.data.toList = x by unfold pkN; rw [hng, hbd, ← hx]; rfl)
            have HBO := Lib.hid (show piB (strOf (bodyA s.data.toList)) = o by rw [hbd, ← ho])
            have HKK := Lib.hid hkk
            have HT := Lib.hid hT
            have HX := Lib.hid hx
            have HO := Lib.hid ho
            have hXs : D.size ≤ maxLen := by
              have h1 := bodyA_len s.data.toList
              rw [data_len] at h1
              rw [← hbd, strOf_size]
              unfold maxLen
              omega
            clear hbd hng hkk hT hx ho
            refine (specParseInt_any D _ hXs).mono ?_
            rw [← HX.out, ← HO.out]
            rintro e w3 ⟨rfl, b3⟩
            have B3 : Below w.heap.size w w3 := (alT (alT (Below.refl _ _))).trans (b3.mono (by simp; omega))
            have d0 : w3.cell? ⟨w.heap.size, 0, none⟩ = some (.int .i64 0) := kcell b3 (by simp)
            have e0 : w3.frozen? ⟨w.heap.size, 0, none⟩ = false := kfro b3 (by simp) (by simp; omega)
            have d1 : w3.cell? ⟨w.heap.size, 1, none⟩ = some (.int .i64 0) := kcell b3 (by simp)
            have e1 : w3.frozen? ⟨w.heap.size, 1, none⟩ = false := kfro b3 (by simp) (by simp; omega)
            have d2 : w3.cell? ⟨w.heap.size, 2, none⟩ = some (.string ⟨#[]⟩) := kcell b3 (by simp)
            have e2 : w3.frozen? ⟨w.heap.size, 2, none⟩ = false := kfro b3 (by simp) (by simp; omega)
            have k0 : w3.cell? ⟨w.heap.size + 1, 0, none⟩ = some (.int .i64 1) := kcell b3 (by simp)
            have l0 : w3.frozen? ⟨w.heap.size + 1, 0, none⟩ = false := kfro b3 (by simp) (by simp)
            have k1 : w3.cell? ⟨w.heap.size + 1, 1, none⟩ = some (.int .i64 0) := kcell b3 (by simp)
            have l1 : w3.frozen? ⟨w.heap.size + 1, 1, none⟩ = false := kfro b3 (by simp) (by simp)
            have k2 : w3.cell? ⟨w.heap.size + 1, 2, none⟩ = some (.string ⟨#[]⟩) := kcell b3 (by simp)
            have l2 : w3.frozen? ⟨w.heap.size + 1, 2, none⟩ = false := kfro b3 (by simp) (by simp)
            have hz : w.heap.size + 1 < w3.heap.size := by have := b3.size; simp at this; omega
            clear b3
            cases o
            · have HK := Lib.hid (pk_bad (s := s) (by rw [HCR.out]; simp) HBO.out)
              go_wp2
              refine bodyPost_ret (v := .tuple #[.agg #[.int .i64 0, .int .i64 0, .string ⟨#[]⟩], .bool false]) (by simp [results, Tryd.results9, go_sem, d0, d1, d2]) rfl ⟨?_, ?_⟩
              · rw [HK.out, (rk_no HK.out).1, (rk_no HK.out).2.1, (rk_no HK.out).2.2]
              · repeat (first | exact B3 | refine set_below ?_ (by omega) _)
            · go_wp2_with fail
              have hTs : (⟨#[]⟩ : ByteArray).size ≤ maxLen := by
                decide
              obtain ⟨rb, hrb⟩ : ∃ rb, rb = keyB 1 (x) ⟨#[]⟩ := ⟨_, rfl⟩
              have HRB := Lib.hid hrb
              refine (specIsKey_any _ _ _ rb _ hTs hrb).mono ?_
              clear hrb
              rintro e w5 ⟨rfl, b5⟩
              have B5 : Below w.heap.size w w5 := by
                refine Below.trans ?_ (b5.mono (by simp; omega))
                repeat (first | exact B3 | refine set_below ?_ (by omega) _)
              have x0 := kcell b5 (b := w.heap.size) (o := 0) (v := .int .i64 0) ((World.cell?_setCell_other _ _ _ _ (by simp)).trans d0)
              have f0 := kfro b5 (b := w.heap.size) (o := 0) (by simp [e0]) (by simp; omega)
              have y0 := kcell b5 (b := w.heap.size + 1) (o := 0) (v := .int .i64 1) ((World.cell?_setCell_other _ _ _ _ (by simp)).trans k0)
              have x1 := kcell b5 (b := w.heap.size) (o := 1) (v := .int .i64 0) ((World.cell?_setCell_other _ _ _ _ (by simp)).trans d1)
              have f1 := kfro b5 (b := w.heap.size) (o := 1) (by simp [e1]) (by simp; omega)
              have y1 := kcell b5 (b := w.heap.size + 1) (o := 1) (v := .int .i64 (x)) (World.cell?_setCell_same _ _ _ k1)
              have x2 := kcell b5 (b := w.heap.size) (o := 2) (v := .string ⟨#[]⟩) ((World.cell?_setCell_other _ _ _ _ (by simp)).trans d2)
              have f2 := kfro b5 (b := w.heap.size) (o := 2) (by simp [e2]) (by simp; omega)
              have y2 := kcell b5 (b := w.heap.size + 1) (o := 2) (v := .string ⟨#[]⟩) ((World.cell?_setCell_other _ _ _ _ (by simp)).trans k2)
              have hz5 : w.heap.size + 1 < w5.heap.size := by have := b5.size; simp at this; omega
              clear b5
              cases rb
              · have HK : Hid (pkOk s = false) := by
                  show _ = _
                  unfold pkOk
                  rw [HKK.out, HN.out, HT.out, ← HRB.out, Bool.false_and]
                go_wp2
                refine bodyPost_ret (v := .tuple #[.agg #[.int .i64 0, .int .i64 0, .string ⟨#[]⟩], .bool false]) (by simp [results, Tryd.results9, go_sem, x0, x1, x2]) rfl ⟨?_, ?_⟩
                · rw [HK.out, (rk_no HK.out).1, (rk_no HK.out).2.1, (rk_no HK.out).2.2]
                · repeat (first | exact B5 | refine set_below ?_ (by omega) _)
              · have HPK : Hid (pkOk s = decide (fmtK 1 (x) ⟨#[]⟩ = s)) := by
                  show _ = _
                  unfold pkOk
                  rw [HKK.out, HN.out, HT.out, ← HRB.out, Bool.true_and]
                go_wp2_with fail
                refine (specFormatKey_any _ _ _ _ hTs).mono ?_
                rintro e w6 ⟨rfl, b6⟩
                have B6 := B5.trans (b6.mono B5.size)
                replace x0 := kcell b6 x0
                replace y0 := kcell b6 y0
                replace f0 := kfro b6 f0 (by omega)
                replace x1 := kcell b6 x1
                replace y1 := kcell b6 y1
                replace f1 := kfro b6 f1 (by omega)
                replace x2 := kcell b6 x2
                replace y2 := kcell b6 y2
                replace f2 := kfro b6 f2 (by omega)
                clear b6
                by_cases hf : fmtK 1 (x) ⟨#[]⟩ = s
                · have HK := Lib.hid (show pkOk s = true by rw [HPK.out]; exact decide_eq_true hf)
                  rw [hf]
                  clear hf
                  go_wp2
                  refine bodyPost_ret (v := .tuple #[.agg #[.int .i64 1, .int .i64 (x), .string ⟨#[]⟩], .bool true]) (by simp [results, Tryd.results9, go_sem, x0, x1, x2]) rfl ⟨?_, ?_⟩
                  · rw [HK.out, (rk_yes HK.out).1, (rk_yes HK.out).2.1, (rk_yes HK.out).2.2, HKK.out, HN.out, HT.out]
                  · repeat (first | exact B6 | refine set_below ?_ (by omega) _)
                · have HK := Lib.hid (show pkOk s = false by rw [HPK.out]; exact decide_eq_false hf)
                  obtain ⟨g, hg⟩ : ∃ g, g = fmtK 1 (x) ⟨#[]⟩ := ⟨_, rfl⟩
                  rw [← hg] at hf ⊢
                  have hne := str_beq hf
                  clear hf hg
                  go_wp2
                  refine bodyPost_ret (v := .tuple #[.agg #[.int .i64 0, .int .i64 0, .string ⟨#[]⟩], .bool false]) (by simp [results, Tryd.results9, go_sem, x0, x1, x2]) rfl ⟨?_, ?_⟩
                  · rw [HK.out, (rk_no HK.out).1, (rk_no HK.out).2.1, (rk_no HK.out).2.2]
                  · repeat (first | exact B6 | refine set_below ?_ (by omega) _)
          · have hpl : (p : Int) < (s.size : Int) := by omega
            go_wp2_with fail
            have hbd : strOf (bodyA s.data.toList) = D := by
              unfold bodyA
              rw [HCR.out]
              show strOf (if c = 45 then r else c :: r) = _
              rw [if_neg HC.out, HD.out]
            have hng : negA s.data.toList = false := by
              unfold negA
              rw [HCR.out]
              show (c == 45) = _
              exact beq_eq_false_iff_ne.2 HC.out
            have hkk : pkK s.data.toList = 3 := by
              unfold pkK
              rw [HF.out.2, HCR.out]
              rw [if_neg (by rw [List.drop_eq_nil_iff, data_len]; omega), if_neg (by simp)]
            have hT : pkT s.data.toList = (s.extract (p + 1) s.size) := by
              unfold pkT
              rw [HF.out.2]
              apply ByteArray.ext
              apply Array.ext'
              simp [strOf]
              exact (List.take_of_length_le (Nat.le_of_eq (by rw [List.length_drop, data_len]))).symm
            obtain ⟨x, hx⟩ : ∃ x, x = piN D := ⟨_, rfl⟩
            obtain ⟨o, ho⟩ : ∃ o, o = piB D := ⟨_, rfl⟩
            have hx1 := piN_rng D
            rw [← hx] at hx1
            have HN := Lib.hid (show pkN s.data.toList = x by unfold pkN; rw [hng, hbd, ← hx]; rfl)
            have HBO := Lib.hid (show piB (strOf (bodyA s.data.toList)) = o by rw [hbd, ← ho])
            have HKK := Lib.hid hkk
            have HT := Lib.hid hT
            have HX := Lib.hid hx
            have HO := Lib.hid ho
            have hXs : D.size ≤ maxLen := by
              have h1 := bodyA_len s.data.toList
              rw [data_len] at h1
              rw [← hbd, strOf_size]
              unfold maxLen
              omega
            clear hbd hng hkk hT hx ho
            refine (specParseInt_any D _ hXs).mono ?_
            rw [← HX.out, ← HO.out]
            rintro e w3 ⟨rfl, b3⟩
            have B3 : Below w.heap.size w w3 := (alT (alT (Below.refl _ _))).trans (b3.mono (by simp; omega))
            have d0 : w3.cell? ⟨w.heap.size, 0, none⟩ = some (.int .i64 0) := kcell b3 (by simp)
            have e0 : w3.frozen? ⟨w.heap.size, 0, none⟩ = false := kfro b3 (by simp) (by simp; omega)
            have d1 : w3.cell? ⟨w.heap.size, 1, none⟩ = some (.int .i64 0) := kcell b3 (by simp)
            have e1 : w3.frozen? ⟨w.heap.size, 1, none⟩ = false := kfro b3 (by simp) (by simp; omega)
            have d2 : w3.cell? ⟨w.heap.size, 2, none⟩ = some (.string ⟨#[]⟩) := kcell b3 (by simp)
            have e2 : w3.frozen? ⟨w.heap.size, 2, none⟩ = false := kfro b3 (by simp) (by simp; omega)
            have k0 : w3.cell? ⟨w.heap.size + 1, 0, none⟩ = some (.int .i64 2) := kcell b3 (by simp)
            have l0 : w3.frozen? ⟨w.heap.size + 1, 0, none⟩ = false := kfro b3 (by simp) (by simp)
            have k1 : w3.cell? ⟨w.heap.size + 1, 1, none⟩ = some (.int .i64 0) := kcell b3 (by simp)
            have l1 : w3.frozen? ⟨w.heap.size + 1, 1, none⟩ = false := kfro b3 (by simp) (by simp)
            have k2 : w3.cell? ⟨w.heap.size + 1, 2, none⟩ = some (.string (s.extract (p + 1) s.size)) := kcell b3 (by simp)
            have l2 : w3.frozen? ⟨w.heap.size + 1, 2, none⟩ = false := kfro b3 (by simp) (by simp)
            have hz : w.heap.size + 1 < w3.heap.size := by have := b3.size; simp at this; omega
            clear b3
            cases o
            · have HK := Lib.hid (pk_bad (s := s) (by rw [HCR.out]; simp) HBO.out)
              go_wp2
              refine bodyPost_ret (v := .tuple #[.agg #[.int .i64 0, .int .i64 0, .string ⟨#[]⟩], .bool false]) (by simp [results, Tryd.results9, go_sem, d0, d1, d2]) rfl ⟨?_, ?_⟩
              · rw [HK.out, (rk_no HK.out).1, (rk_no HK.out).2.1, (rk_no HK.out).2.2]
              · repeat (first | exact B3 | refine set_below ?_ (by omega) _)
            · go_wp2_with fail
              have hTs : ((s.extract (p + 1) s.size) : ByteArray).size ≤ maxLen := by
                rw [ByteArray.size_extract]
                unfold maxLen
                omega
              obtain ⟨rb, hrb⟩ : ∃ rb, rb = keyB 3 (x) (s.extract (p + 1) s.size) := ⟨_, rfl⟩
              have HRB := Lib.hid hrb
              refine (specIsKey_any _ _ _ rb _ hTs hrb).mono ?_
              clear hrb
              rintro e w5 ⟨rfl, b5⟩
              have B5 : Below w.heap.size w w5 := by
                refine Below.trans ?_ (b5.mono (by simp; omega))
                repeat (first | exact B3 | refine set_below ?_ (by omega) _)
              have x0 := kcell b5 (b := w.heap.size) (o := 0) (v := .int .i64 0) ((World.cell?_setCell_other _ _ _ _ (by simp)).trans ((World.cell?_setCell_other _ _ _ _ (by simp)).trans d0))
              have f0 := kfro b5 (b := w.heap.size) (o := 0) (by simp [e0]) (by simp; omega)
              have y0 := kcell b5 (b := w.heap.size + 1) (o := 0) (v := .int .i64 3) (World.cell?_setCell_same _ _ _ ((World.cell?_setCell_other _ _ _ _ (by simp)).trans k0))
              have x1 := kcell b5 (b := w.heap.size) (o := 1) (v := .int .i64 0) ((World.cell?_setCell_other _ _ _ _ (by simp)).trans ((World.cell?_setCell_other _ _ _ _ (by simp)).trans d1))
              have f1 := kfro b5 (b := w.heap.size) (o := 1) (by simp [e1]) (by simp; omega)
              have y1 := kcell b5 (b := w.heap.size + 1) (o := 1) (v := .int .i64 (x)) ((World.cell?_setCell_other _ _ _ _ (by simp)).trans (World.cell?_setCell_same _ _ _ k1))
              have x2 := kcell b5 (b := w.heap.size) (o := 2) (v := .string ⟨#[]⟩) ((World.cell?_setCell_other _ _ _ _ (by simp)).trans ((World.cell?_setCell_other _ _ _ _ (by simp)).trans d2))
              have f2 := kfro b5 (b := w.heap.size) (o := 2) (by simp [e2]) (by simp; omega)
              have y2 := kcell b5 (b := w.heap.size + 1) (o := 2) (v := .string (s.extract (p + 1) s.size)) ((World.cell?_setCell_other _ _ _ _ (by simp)).trans ((World.cell?_setCell_other _ _ _ _ (by simp)).trans k2))
              have hz5 : w.heap.size + 1 < w5.heap.size := by have := b5.size; simp at this; omega
              clear b5
              cases rb
              · have HK : Hid (pkOk s = false) := by
                  show _ = _
                  unfold pkOk
                  rw [HKK.out, HN.out, HT.out, ← HRB.out, Bool.false_and]
                go_wp2
                refine bodyPost_ret (v := .tuple #[.agg #[.int .i64 0, .int .i64 0, .string ⟨#[]⟩], .bool false]) (by simp [results, Tryd.results9, go_sem, x0, x1, x2]) rfl ⟨?_, ?_⟩
                · rw [HK.out, (rk_no HK.out).1, (rk_no HK.out).2.1, (rk_no HK.out).2.2]
                · repeat (first | exact B5 | refine set_below ?_ (by omega) _)
              · have HPK : Hid (pkOk s = decide (fmtK 3 (x) (s.extract (p + 1) s.size) = s)) := by
                  show _ = _
                  unfold pkOk
                  rw [HKK.out, HN.out, HT.out, ← HRB.out, Bool.true_and]
                go_wp2_with fail
                refine (specFormatKey_any _ _ _ _ hTs).mono ?_
                rintro e w6 ⟨rfl, b6⟩
                have B6 := B5.trans (b6.mono B5.size)
                replace x0 := kcell b6 x0
                replace y0 := kcell b6 y0
                replace f0 := kfro b6 f0 (by omega)
                replace x1 := kcell b6 x1
                replace y1 := kcell b6 y1
                replace f1 := kfro b6 f1 (by omega)
                replace x2 := kcell b6 x2
                replace y2 := kcell b6 y2
                replace f2 := kfro b6 f2 (by omega)
                clear b6
                by_cases hf : fmtK 3 (x) (s.extract (p + 1) s.size) = s
                · have HK := Lib.hid (show pkOk s = true by rw [HPK.out]; exact decide_eq_true hf)
                  rw [hf]
                  clear hf
                  go_wp2
                  refine bodyPost_ret (v := .tuple #[.agg #[.int .i64 3, .int .i64 (x), .string (s.extract (p + 1) s.size)], .bool true]) (by simp [results, Tryd.results9, go_sem, x0, x1, x2]) rfl ⟨?_, ?_⟩
                  · rw [HK.out, (rk_yes HK.out).1, (rk_yes HK.out).2.1, (rk_yes HK.out).2.2, HKK.out, HN.out, HT.out]
                  · repeat (first | exact B6 | refine set_below ?_ (by omega) _)
                · have HK := Lib.hid (show pkOk s = false by rw [HPK.out]; exact decide_eq_false hf)
                  obtain ⟨g, hg⟩ : ∃ g, g = fmtK 3 (x) (s.extract (p + 1) s.size) := ⟨_, rfl⟩
                  rw [← hg] at hf ⊢
                  have hne := str_beq hf
                  clear hf hg
                  go_wp2
                  refine bodyPost_ret (v := .tuple #[.agg #[.int .i64 0, .int .i64 0, .string ⟨#[]⟩], .bool false]) (by simp [results, Tryd.results9, go_sem, x0, x1, x2]) rfl ⟨?_, ?_⟩
                  · rw [HK.out, (rk_no HK.out).1, (rk_no HK.out).2.1, (rk_no HK.out).2.2]
                  · repeat (first | exact B6 | refine set_below ?_ (by omega) _)
end Go.Proofs.YtnbhdijmbpdgoaaDoor
