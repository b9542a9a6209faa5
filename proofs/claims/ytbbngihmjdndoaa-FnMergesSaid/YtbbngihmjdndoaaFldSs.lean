/-
  Proved: the contract of SetField of the reference. Conditions: the slice is a row of the run's own.
  By an AI agent; no person has read it.
-/
import Derived.Test.YtbbngihmjdndoaaFldSt
import Derived.Test.YtbbngihmjdndoaaFldRs
import Derived.Deep.DeepCutAuto
namespace Go.Proofs.Ytbbngihmjdndoaa
open Go.RowKit

theorem setR_def (l : List Fld) (nm : ByteArray) (x : Int) : setR l nm x = if recB l && recB (setS l nm x) then (setS l nm x, true) else (l, false) := rfl
theorem own_cases {w : World} {base : Nat} {e : TypeId} {size : Nat} {A : Option Addr} {n c : Nat} {xs : List Value} (h : w.ownsRow base e size (.slice A n c) n xs) : (A = none ∧ n = 0 ∧ c = 0) ∨ ∃ g, A = some ⟨g, 0, none⟩ := by
  rcases h.2 with ⟨hv, hn⟩ | ⟨g, cap, cur, hv, _⟩
  · injection hv with h1 h2 h3
    exact .inl ⟨h1, h2, h3⟩
  · injection hv with h1 _ _
    exact .inr ⟨g, h1⟩
theorem own_belowW {w w' : World} {base : Nat} {e : TypeId} {size : Nat} {v : Value} {n : Nat} {xs : List Value} (h : w.ownsRow base e size v n xs) (hb : Below w.heap.size w w') : w'.ownsRow base e size v n xs := own_below h hb

set_option maxRecDepth 100000 in
set_option maxHeartbeats 20000000 in
theorem specSetField_any (A : Option Addr) (n c base : Nat) (l : List Fld) (nm : ByteArray) (x : Int) (lr : List Fld) (r : Bool) (w : World) (hn : n ≤ 1048576) (hao : w.ownsRow base 91 2 (.slice A n c) n (fl l)) (hok : okF l) (hnm : nm.size ≤ maxLen) (hx : -9223372036854775808 ≤ x ∧ x ≤ 9223372036854775807) (hr : (lr, r) = setR l nm x) :
    Calls Try.prog 51 #[.agg #[.slice A n c], .string nm, .int .i64 x] w (MkRB w lr r) := by
  obtain ⟨i0, hi, hz0, hz1, hz2⟩ := info_parts infoF
  have ha := Rd.of_own hao
  have hcap := own_cap hao
  unfold maxLen at hcap
  have HR := Lib.hid hr
  have LX := Lib.hid ha.lenF
  have HNM := Lib.hid hnm
  have HAO := Lib.hid hao
  clear hr hnm hao
  go_enter Try.func51, Try.ntmps51
  go_wp2_with fail
  refine (l5Copy_any A n c l _ (by omega) ((ha.alloc _).alloc _)).mono ?_
  rintro e w1 ⟨B, p, d, rfl, o1, b1⟩
  obtain rfl : n = p := by have := own_lenF o1; have := LX.out; omega
  have hw1 : w.heap.size + 2 ≤ w1.heap.size := by have := b1.size; simp at this; omega
  have hbel : Below w.heap.size w (w1.alloc (.cells #[.slice B n d] 28)) := al (Below.trans (al (al (Below.refl _ _))) (b1.mono (by simp; omega)))
  have d0 : (w1.alloc (.cells #[.slice B n d] 28)).cell? ⟨w.heap.size, 0, none⟩ = some (.slice A n c) := kcell (al (Below.refl _ _)) (kcell b1 (by simp))
  have dR : (w1.alloc (.cells #[.slice B n d] 28)).cell? ⟨w.heap.size + 1, 0, none⟩ = some (.slice none 0 0) := kcell (al (Below.refl _ _)) (kcell b1 (by simp [go_sem]))
  have fR : (w1.alloc (.cells #[.slice B n d] 28)).frozen? ⟨w.heap.size + 1, 0, none⟩ = false := kfro (al (Below.refl _ _)) (by omega) (kfro b1 (by simp) (by simp [go_sem]))
  have dB : (w1.alloc (.cells #[.slice B n d] 28)).cell? ⟨w1.heap.size, 0, none⟩ = some (.slice B n d) := by simp
  have fB : (w1.alloc (.cells #[.slice B n d] 28)).frozen? ⟨w1.heap.size, 0, none⟩ = false := by simp [go_sem]
  have o2 := own_base (own_below o1 (al (o := .cells #[.slice B n d] 28) (Below.refl w1.heap.size w1))) (by simp : w.heap.size + 2 ≤ _)
  have HB1 : Hid (∀ ad : Addr, B = some ad → w.heap.size + 2 ≤ ad.block ∧ ad.block < w1.heap.size) := Lib.hid (fun ad h => by have := own_rng o1 ad h; simp at this; omega)
  have hs2 : w1.heap.size < (w1.alloc (.cells #[.slice B n d] 28)).heap.size := by simp
  clear b1 o1
  go_wp2
  obtain ⟨V, hV⟩ : ∃ V, V = w1.alloc (.cells #[.slice B n d] 28) := ⟨_, rfl⟩
  rw [← hV] at hbel d0 dR fR dB fB o2 hs2 ⊢
  clear hV
  go_loop [9] (fun i => ∃ j : Nat, j ≤ n ∧ j ≤ posF l nm ∧ i = .int .i64 j) (fun i => n - (intOf i).toNat)
  case atStart => exact ⟨0, Nat.zero_le _, Nat.zero_le _, rfl⟩
  case round =>
    obtain ⟨j, hj, hjp, rfl⟩ := hrel
    have i2 : (0 : Int) ≤ (j : Int) := by omega
    have hcase : (∃ b o s y, A = some ⟨b, o, none⟩ ∧ j < n ∧ V.cell? ⟨b, o + j * 2, none⟩ = some (.string s) ∧ Op.bytesLess s.toList nm.toList = true ∧ l[j]? = some (s, y)) ∨ ((n = j ∧ setS l nm x = insF l nm x) ∧ j = posF l nm) ∨ ((∃ b o s y, A = some ⟨b, o, none⟩ ∧ j < n ∧ V.cell? ⟨b, o + j * 2, none⟩ = some (.string s) ∧ Op.bytesLess s.toList nm.toList = false ∧ (s.toList == nm.toList) = false ∧ l[j]? = some (s, y) ∧ setS l nm x = insF l nm x) ∧ j = posF l nm) ∨ ((∃ b o s y, A = some ⟨b, o, none⟩ ∧ j < n ∧ V.cell? ⟨b, o + j * 2, none⟩ = some (.string s) ∧ Op.bytesLess s.toList nm.toList = false ∧ (s.toList == nm.toList) = true ∧ l[j]? = some (s, y) ∧ setS l nm x = l.set j (nm, x)) ∧ j = posF l nm) := by
      by_cases hlt : j < n
      · obtain ⟨b, o, s, y, hB, _, hx2, hc0, _⟩ := (ha.below hbel).fld hlt
        cases hl : ltN s nm
        · have hj2 := posF_eq_of hx2 hl hjp
          cases he : (s.toList == nm.toList)
          · refine .inr (.inr (.inl ⟨⟨b, o, s, y, hB, hlt, hc0, hl, he, hx2, ?_⟩, hj2⟩))
            unfold setS
            rw [← hj2, hx2]
            simp only [pN, he]
            rfl
          · refine .inr (.inr (.inr ⟨⟨b, o, s, y, hB, hlt, hc0, hl, he, hx2, ?_⟩, hj2⟩))
            unfold setS
            rw [← hj2, hx2]
            simp only [pN, he, if_true]
        · exact .inl ⟨b, o, s, y, hB, hlt, hc0, hl, hx2⟩
      · obtain rfl : n = j := by omega
        have h1 := posF_le l nm
        have h2 := LX.out
        have hj2 : n = posF l nm := by omega
        refine .inr (.inl ⟨⟨rfl, ?_⟩, hj2⟩)
        unfold setS
        rw [← hj2, List.getElem?_eq_none (by omega)]
    rcases hcase with ⟨b, o, s, y, rfl, hlt, hc0, hl, hx2⟩ | ⟨⟨rfl, hS⟩, hjp2⟩ | ⟨⟨b, o, s, y, rfl, hlt, hc0, hl, he, hx2, hS⟩, hjp2⟩ | ⟨⟨b, o, s, y, rfl, hlt, hc0, hl, he, hx2, hS⟩, hjp2⟩
    · have i3 : (j : Int) < (n : Int) := by omega
      have HN := Lib.hid (posF_le_of hx2 hl hjp)
      clear hx2
      go_wp2
      go_round
      case rel => exact ⟨j + 1, by omega, HN.out, by go_num⟩
      case measure => simp [intOf]; omega
    · have HJ := Lib.hid hjp2
      have HS := Lib.hid hS
      have HOKM := Lib.hid (okF_ins hok HNM.out hx)
      have hRA : Hid (∀ {W : World}, Below V.heap.size V W → Rd W 2 A n ((fl l).take (n * 2))) := Lib.hid (fun hb => ((ha.below hbel).below hb).head (Nat.le_refl _))
      have hRB : Hid (∀ {W : World} {A' : Option Addr}, Rd W 2 A' 0 ((fl l).drop (n * 2))) := Lib.hid (⟨by rw [List.length_drop, HAO.out.1]; omega, fun h => absurd h (by omega)⟩)
      have HO1 : Hid (∀ u ∈ (fl l).take (n * 2), u.oneCell' = true) := Lib.hid (fun u hu => ones_fl l u (List.mem_of_mem_take hu))
      have HO2 : Hid (∀ u ∈ (fl l).drop (n * 2), u.oneCell' = true) := Lib.hid (fun u hu => ones_fl l u (List.mem_of_mem_drop hu))
      have HE2 : Hid ([] ++ (fl l).take (n * 2) ++ fl [(nm, x)] ++ (fl l).drop (n * 2) = fl (insF l nm x)) := Lib.hid (by unfold insF; rw [← HJ.out, fl_ins]; simp)
      clear hjp2 hjp hS hj
      have i8 : (n : Int) ≤ (n : Int) := Int.le_refl _
      rcases own_cases HAO.out with ⟨rfl, rfl, rfl⟩ | ⟨b, rfl⟩
      · skip
        go_upto_region 7 with fail
        go_cut [] (fun wx => ∃ (A3 : Option Addr) (q c3 : Nat), q ≤ 12582924 ∧ wx.ownsRow (w.heap.size + 2) 91 2 (.slice A3 q c3) q (fl (insF l nm x)) ∧ wx.cell? ⟨w.heap.size, 0, none⟩ = some (.slice none 0 0) ∧ wx.cell? ⟨w.heap.size + 1, 0, none⟩ = some (.slice none 0 0) ∧ wx.frozen? ⟨w.heap.size + 1, 0, none⟩ = false ∧ wx.cell? ⟨w1.heap.size, 0, none⟩ = some (.slice A3 q c3) ∧ w1.heap.size < wx.heap.size ∧ Below w.heap.size w wx)
        case first =>
          refine wp_region_held_drew (S := fun W => W.cell? ⟨w.heap.size, 0, none⟩ = some (.slice none 0 0)) (by kernel_rfl) ?_ (fun hHeld => ?_)
          · exact d0
          refine takeD (i := 1) (d := some 51) (v := ?_) _ rfl rfl (by kernel_rfl) (by kernel_rfl) (by kernel_rfl) (fun _ _ _ h => h) (Or.inl ⟨by rfl, ?_⟩) (by assumption) ?_
          rotate_left
          · (intro W hSw; (try dsimp only at hSw); go_simp; try with_reducible rfl)
          try simp only [Act.put, List.setIfInBounds_toArray, List.set_cons_zero, List.set_cons_succ]
          refine takeD (i := 2) (d := some 52) (v := ?_) _ rfl rfl (by kernel_rfl) (by kernel_rfl) (by kernel_rfl) (fun _ _ _ h => h) (Or.inl ⟨by rfl, ?_⟩) (by assumption) ?_
          rotate_left
          · (intro W hSw; (try dsimp only at hSw); go_simp; try with_reducible rfl)
          try simp only [Act.put, List.setIfInBounds_toArray, List.set_cons_zero, List.set_cons_succ]
          refine takeD (i := 3) (d := some 53) (v := ?_) _ rfl rfl (by kernel_rfl) (by kernel_rfl) (by kernel_rfl) (fun _ _ _ h => h) (Or.inl ⟨by rfl, ?_⟩) (by assumption) ?_
          rotate_left
          · (intro W hSw; (try dsimp only at hSw); go_simp; try with_reducible rfl)
          try simp only [Act.put, List.setIfInBounds_toArray, List.set_cons_zero, List.set_cons_succ]
          refine takeD (i := 4) (d := some 54) (v := ?_) _ rfl rfl (by kernel_rfl) (by kernel_rfl) (by kernel_rfl) (fun _ _ _ h => h) (Or.inl ⟨by rfl, ?_⟩) (by assumption) ?_
          rotate_left
          · (intro W hSw; (try dsimp only at hSw); go_simp; try with_reducible rfl)
          try simp only [Act.put, List.setIfInBounds_toArray, List.set_cons_zero, List.set_cons_succ]
          refine takeD (i := 6) (d := some 56) (v := ?_) _ rfl rfl (by kernel_rfl) (by kernel_rfl) (by kernel_rfl) (fun _ _ _ h => h) (Or.inl ⟨by rfl, ?_⟩) (by assumption) ?_
          rotate_left
          · (intro W hSw; (try dsimp only at hSw); go_simp; try with_reducible rfl)
          try simp only [Act.put, List.setIfInBounds_toArray, List.set_cons_zero, List.set_cons_succ]
          refine takeD (i := 7) (d := some 57) (v := ?_) _ rfl rfl (by kernel_rfl) (by kernel_rfl) (by kernel_rfl) (fun _ _ _ h => h) (Or.inl ⟨by rfl, ?_⟩) (by assumption) ?_
          rotate_left
          · (intro W hSw; (try dsimp only at hSw); go_simp; try with_reducible rfl)
          try simp only [Act.put, List.setIfInBounds_toArray, List.set_cons_zero, List.set_cons_succ]
          refine takeD (i := 8) (d := some 58) (v := ?_) _ rfl rfl (by kernel_rfl) (by kernel_rfl) (by kernel_rfl) (fun _ _ _ h => h) (Or.inl ⟨by rfl, ?_⟩) (by assumption) ?_
          rotate_left
          · (intro W hSw; (try dsimp only at hSw); go_simp; try with_reducible rfl)
          try simp only [Act.put, List.setIfInBounds_toArray, List.set_cons_zero, List.set_cons_succ]
          refine takeD (i := 11) (d := some 61) (v := ?_) _ rfl rfl (by kernel_rfl) (by kernel_rfl) (by kernel_rfl) (fun _ _ _ h => h) (Or.inl ⟨by rfl, ?_⟩) (by assumption) ?_
          rotate_left
          · (intro W hSw; (try dsimp only at hSw); go_simp; try with_reducible rfl)
          try simp only [Act.put, List.setIfInBounds_toArray, List.set_cons_zero, List.set_cons_succ]
          refine takeD (i := 12) (d := some 62) (v := ?_) _ rfl rfl (by kernel_rfl) (by kernel_rfl) (by kernel_rfl) (fun _ _ _ h => h) (Or.inl ⟨by rfl, ?_⟩) (by assumption) ?_
          rotate_left
          · (intro W hSw; (try dsimp only at hSw); go_simp; try with_reducible rfl)
          try simp only [Act.put, List.setIfInBounds_toArray, List.set_cons_zero, List.set_cons_succ]
          refine takeD (i := 13) (d := some 63) (v := ?_) _ rfl rfl (by kernel_rfl) (by kernel_rfl) (by kernel_rfl) (fun _ _ _ h => h) (Or.inl ⟨by rfl, ?_⟩) (by assumption) ?_
          rotate_left
          · (intro W hSw; (try dsimp only at hSw); go_simp; try with_reducible rfl)
          try simp only [Act.put, List.setIfInBounds_toArray, List.set_cons_zero, List.set_cons_succ]
          refine takeD (i := 14) (d := some 64) (v := ?_) _ rfl rfl (by kernel_rfl) (by kernel_rfl) (by kernel_rfl) (fun _ _ _ h => h) (Or.inl ⟨by rfl, ?_⟩) (by assumption) ?_
          rotate_left
          · (intro W hSw; (try dsimp only at hSw); go_simp; try with_reducible rfl)
          try simp only [Act.put, List.setIfInBounds_toArray, List.set_cons_zero, List.set_cons_succ]
          refine wpAnyH_ready (rs := [0, 9]) (by kernel_rfl) (by simp) ?_
          refine AllReadyH.cons rfl (fun K hK => ?_) (AllReadyH.cons rfl (fun K hK => ?_) AllReadyH.nil)
          · go_simp
            have a0n : (V.alloc (.cells #[] 91)).ownsRow V.heap.size 91 2 (.slice (some ⟨V.heap.size, 0, none⟩) 0 0) 0 [] := own_newA (by simp) (by have q := (Below.refl V.heap.size V).size; simp at q ⊢ <;> omega)
            have a0b : Below V.heap.size V (V.alloc (.cells #[] 91)) := al (Below.refl _ _)
            refine hK.out _ _ ?_ (fun hHeld => ?_)
            · try dsimp only
              exact kcell (al (o := (.cells #[] 91)) (Below.refl V.heap.size V)) hHeld
            clear hK K
            try simp only [Act.put, List.setIfInBounds_toArray, List.set_cons_zero, List.set_cons_succ]
            refine wpAnyH_ready (rs := [5, 9]) (by kernel_rfl) (by simp) ?_
            refine AllReadyH.cons rfl (fun K hK => ?_) (AllReadyH.cons rfl (fun K hK => ?_) AllReadyH.nil)
            · refine step_catD (by rfl) (some 55) (by rfl) (.tmp 50) (.tmp 54) 26 (by rfl) V.heap.size 91 i0 (.agg #[.string ⟨#[]⟩, .int .i64 0]) 2 24 Try.underlying26 hi hz0 hz1 hz2 rfl (by decide) (some ⟨V.heap.size, 0, none⟩) 0 0 _ (by rfl) (by exact a0n) _ _ _ _ (by rfl) (by exact hRA.out (Below.drew a0b)) HO1.out (by unfold maxLen; omega) (by omega) (by have q := (Below.drew a0b).size; simp at q ⊢ <;> omega) ?_
              intro A1 n1 c1 W5 hn1 e1o e1b e1g
              have hm1 : n1 ≤ 4 * 1048577 := by omega
              clear hn1
              have e1B : Below V.heap.size V W5 := (Below.drew a0b).trans e1b
              refine hK.out _ _ ?_ (fun hHeld => ?_)
              · try dsimp only
                exact (e1b.cell (p := ⟨w.heap.size, 0, none⟩) (by show w.heap.size < V.heap.size; omega)).trans hHeld
              clear hK K
              try simp only [Act.put, List.setIfInBounds_toArray, List.set_cons_zero, List.set_cons_succ]
              refine wpAnyH_ready (rs := [9]) (by kernel_rfl) (by simp) ?_
              refine AllReadyH.cons rfl (fun K hK => ?_) AllReadyH.nil
              go_simp
              have a9o := own_below e1o (al (o := (.cells #[.string nm, .int .i64 x] 91)) (Below.refl W5.heap.size W5))
              have a9r : Rd (W5.alloc (.cells #[.string nm, .int .i64 x] 91)) 2 (some ⟨W5.heap.size, 0, none⟩) 1 (fl [(nm, x)]) := rd_new2 (by simp)
              have a9b : Below V.heap.size V (W5.alloc (.cells #[.string nm, .int .i64 x] 91)) := al e1B
              refine hK.out _ _ ?_ (fun hHeld => ?_)
              · try dsimp only
                exact kcell (al (o := (.cells #[.string nm, .int .i64 x] 91)) (Below.refl W5.heap.size W5)) hHeld
              clear hK K
              try simp only [Act.put, List.setIfInBounds_toArray, List.set_cons_zero, List.set_cons_succ]
              refine wpAnyH_ready (rs := [10]) (by kernel_rfl) (by simp) ?_
              refine AllReadyH.cons rfl (fun K hK => ?_) AllReadyH.nil
              refine step_catD (by rfl) (some 60) (by rfl) (.tmp 55) (.tmp 59) 26 (by rfl) V.heap.size 91 i0 (.agg #[.string ⟨#[]⟩, .int .i64 0]) 2 24 Try.underlying26 hi hz0 hz1 hz2 rfl (by decide) A1 n1 c1 _ (by rfl) (by exact a9o) _ 1 _ (fl [(nm, x)]) (by rfl) (by exact a9r) (ones_fl _) (by unfold maxLen; omega) (by omega) (by have q := a9b.size; simp at q ⊢ <;> omega) ?_
              intro A2 n2 c2 W10 hn2 e2o e2b e2g
              have hm2 : n2 ≤ 6 * 1048577 := by omega
              clear hn2
              have e2B : Below V.heap.size V W10 := a9b.trans e2b
              refine hK.out _ _ ?_ (fun hHeld => ?_)
              · try dsimp only
                exact (e2b.cell (p := ⟨w.heap.size, 0, none⟩) (by show w.heap.size < V.heap.size; omega)).trans hHeld
              clear hK K
              try simp only [Act.put, List.setIfInBounds_toArray, List.set_cons_zero, List.set_cons_succ]
              refine wpAnyH_ready (rs := [15]) (by kernel_rfl) (by simp) ?_
              refine AllReadyH.cons rfl (fun K hK => ?_) AllReadyH.nil
              refine step_catD (by rfl) (some 65) (by rfl) (.tmp 60) (.tmp 64) 26 (by rfl) V.heap.size 91 i0 (.agg #[.string ⟨#[]⟩, .int .i64 0]) 2 24 Try.underlying26 hi hz0 hz1 hz2 rfl (by decide) A2 n2 c2 _ (by rfl) (by exact e2o) _ _ _ _ (by rfl) (by exact hRB.out) HO2.out (by unfold maxLen; omega) (by omega) (by have q := e2B.size; simp at q ⊢ <;> omega) ?_
              intro A3 n3 c3 W15 hn3 e3o e3b e3g
              have hm3 : n3 ≤ 8 * 1048577 := by omega
              clear hn3
              have e3B : Below V.heap.size V W15 := e2B.trans e3b
              have dB15 : W15.cell? ⟨w1.heap.size, 0, none⟩ = some (.slice B 0 d) := (e3B.cell (p := ⟨w1.heap.size, 0, none⟩) (by show w1.heap.size < V.heap.size; omega)).trans dB
              have fB15 : W15.frozen? ⟨w1.heap.size, 0, none⟩ = false := (e3B.frozen (p := ⟨w1.heap.size, 0, none⟩) (by show w1.heap.size < V.heap.size; omega)).trans fB
              refine hK.out _ _ ?_ (fun hHeld => ?_)
              · try dsimp only
                exact (e3b.cell (p := ⟨w.heap.size, 0, none⟩) (by show w.heap.size < V.heap.size; omega)).trans hHeld
              clear hK K
              try simp only [Act.put, List.setIfInBounds_toArray, List.set_cons_zero, List.set_cons_succ]
              refine takeD (i := 16) (d := some 66) (v := ?_) _ rfl rfl (by kernel_rfl) (by kernel_rfl) (by kernel_rfl) (fun _ _ _ h => h) (Or.inl ⟨by rfl, ?_⟩) (by assumption) ?_
              rotate_left
              · (intro W hSw; (try dsimp only at hSw); go_simp; try with_reducible rfl)
              try simp only [Act.put, List.setIfInBounds_toArray, List.set_cons_zero, List.set_cons_succ]
              refine wpAnyH_ready (rs := [17]) (by kernel_rfl) (by simp) ?_
              refine AllReadyH.cons rfl (fun K hK => ?_) AllReadyH.nil
              go_simp
              refine hK.out _ _ ?_ (fun hHeld => ?_)
              · try dsimp only
                exact (World.cell?_setCell_far W15 ⟨w1.heap.size, 0, none⟩ ⟨w.heap.size, 0, none⟩ _ (by show w1.heap.size ≠ w.heap.size; omega)).trans hHeld
              clear hK K
              try simp only [Act.put, List.setIfInBounds_toArray, List.set_cons_zero, List.set_cons_succ]
              refine wpAnyH_done (by kernel_rfl) ?_ _
              have hE := e3o
              rw [HE2.out] at hE
              have hbelZ := hbel.trans (e3B.mono hbel.size)
              have z1 := e3B.size
              go_wp2_with fail
              go_meet
              exact ⟨A3, n3, c3, by omega, own_base (ownsRow_setCell_below hE (a := ⟨w1.heap.size, 0, none⟩) (by show w1.heap.size < V.heap.size; omega) _) (by omega), hHeld, (World.cell?_setCell_far W15 ⟨w1.heap.size, 0, none⟩ ⟨w.heap.size + 1, 0, none⟩ _ (by show w1.heap.size ≠ w.heap.size + 1; omega)).trans ((e3B.cell (p := ⟨w.heap.size + 1, 0, none⟩) (by show w.heap.size + 1 < V.heap.size; omega)).trans dR), by simp [(e3B.frozen (p := ⟨w.heap.size + 1, 0, none⟩) (by show w.heap.size + 1 < V.heap.size; omega)).trans fR], by simp [go_sem, dB15], by simp; omega, hbelZ.setCell (p := ⟨w1.heap.size, 0, none⟩) (by show w.heap.size ≤ w1.heap.size; omega) _⟩
            · go_simp
              have a9o := own_below a0n (al (o := (.cells #[.string nm, .int .i64 x] 91)) (Below.refl (V.alloc (.cells #[] 91)).heap.size (V.alloc (.cells #[] 91))))
              have a9r : Rd ((V.alloc (.cells #[] 91)).alloc (.cells #[.string nm, .int .i64 x] 91)) 2 (some ⟨V.heap.size + 1, 0, none⟩) 1 (fl [(nm, x)]) := rd_new2 (by simp)
              have a9b : Below V.heap.size V ((V.alloc (.cells #[] 91)).alloc (.cells #[.string nm, .int .i64 x] 91)) := al a0b
              refine hK.out _ _ ?_ (fun hHeld => ?_)
              · try dsimp only
                exact kcell (al (o := (.cells #[.string nm, .int .i64 x] 91)) (Below.refl (V.alloc (.cells #[] 91)).heap.size (V.alloc (.cells #[] 91)))) hHeld
              clear hK K
              try simp only [Act.put, List.setIfInBounds_toArray, List.set_cons_zero, List.set_cons_succ]
              refine wpAnyH_ready (rs := [5]) (by kernel_rfl) (by simp) ?_
              refine AllReadyH.cons rfl (fun K hK => ?_) AllReadyH.nil
              refine step_catD (by rfl) (some 55) (by rfl) (.tmp 50) (.tmp 54) 26 (by rfl) V.heap.size 91 i0 (.agg #[.string ⟨#[]⟩, .int .i64 0]) 2 24 Try.underlying26 hi hz0 hz1 hz2 rfl (by decide) (some ⟨V.heap.size, 0, none⟩) 0 0 _ (by rfl) (by exact a9o) _ _ _ _ (by rfl) (by exact hRA.out (Below.drew a9b)) HO1.out (by unfold maxLen; omega) (by omega) (by have q := (Below.drew a9b).size; simp at q ⊢ <;> omega) ?_
              intro A1 n1 c1 W5 hn1 e1o e1b e1g
              have hm1 : n1 ≤ 4 * 1048577 := by omega
              clear hn1
              have e1r : Rd W5 2 (some ⟨V.heap.size + 1, 0, none⟩) 1 (fl [(nm, x)]) := Rd.grown a9r (grown_drew e1g) (fun ad h => by injection h with h; subst h; simp)
              have e1B : Below V.heap.size V W5 := (Below.drew a9b).trans e1b
              refine hK.out _ _ ?_ (fun hHeld => ?_)
              · try dsimp only
                exact (e1b.cell (p := ⟨w.heap.size, 0, none⟩) (by show w.heap.size < V.heap.size; omega)).trans hHeld
              clear hK K
              try simp only [Act.put, List.setIfInBounds_toArray, List.set_cons_zero, List.set_cons_succ]
              refine wpAnyH_ready (rs := [10]) (by kernel_rfl) (by simp) ?_
              refine AllReadyH.cons rfl (fun K hK => ?_) AllReadyH.nil
              refine step_catD (by rfl) (some 60) (by rfl) (.tmp 55) (.tmp 59) 26 (by rfl) V.heap.size 91 i0 (.agg #[.string ⟨#[]⟩, .int .i64 0]) 2 24 Try.underlying26 hi hz0 hz1 hz2 rfl (by decide) A1 n1 c1 _ (by rfl) (by exact e1o) _ 1 _ (fl [(nm, x)]) (by rfl) (by exact e1r) (ones_fl _) (by unfold maxLen; omega) (by omega) (by have q := e1B.size; simp at q ⊢ <;> omega) ?_
              intro A2 n2 c2 W10 hn2 e2o e2b e2g
              have hm2 : n2 ≤ 6 * 1048577 := by omega
              clear hn2
              have e2B : Below V.heap.size V W10 := e1B.trans e2b
              refine hK.out _ _ ?_ (fun hHeld => ?_)
              · try dsimp only
                exact (e2b.cell (p := ⟨w.heap.size, 0, none⟩) (by show w.heap.size < V.heap.size; omega)).trans hHeld
              clear hK K
              try simp only [Act.put, List.setIfInBounds_toArray, List.set_cons_zero, List.set_cons_succ]
              refine wpAnyH_ready (rs := [15]) (by kernel_rfl) (by simp) ?_
              refine AllReadyH.cons rfl (fun K hK => ?_) AllReadyH.nil
              refine step_catD (by rfl) (some 65) (by rfl) (.tmp 60) (.tmp 64) 26 (by rfl) V.heap.size 91 i0 (.agg #[.string ⟨#[]⟩, .int .i64 0]) 2 24 Try.underlying26 hi hz0 hz1 hz2 rfl (by decide) A2 n2 c2 _ (by rfl) (by exact e2o) _ _ _ _ (by rfl) (by exact hRB.out) HO2.out (by unfold maxLen; omega) (by omega) (by have q := e2B.size; simp at q ⊢ <;> omega) ?_
              intro A3 n3 c3 W15 hn3 e3o e3b e3g
              have hm3 : n3 ≤ 8 * 1048577 := by omega
              clear hn3
              have e3B : Below V.heap.size V W15 := e2B.trans e3b
              have dB15 : W15.cell? ⟨w1.heap.size, 0, none⟩ = some (.slice B 0 d) := (e3B.cell (p := ⟨w1.heap.size, 0, none⟩) (by show w1.heap.size < V.heap.size; omega)).trans dB
              have fB15 : W15.frozen? ⟨w1.heap.size, 0, none⟩ = false := (e3B.frozen (p := ⟨w1.heap.size, 0, none⟩) (by show w1.heap.size < V.heap.size; omega)).trans fB
              refine hK.out _ _ ?_ (fun hHeld => ?_)
              · try dsimp only
                exact (e3b.cell (p := ⟨w.heap.size, 0, none⟩) (by show w.heap.size < V.heap.size; omega)).trans hHeld
              clear hK K
              try simp only [Act.put, List.setIfInBounds_toArray, List.set_cons_zero, List.set_cons_succ]
              refine takeD (i := 16) (d := some 66) (v := ?_) _ rfl rfl (by kernel_rfl) (by kernel_rfl) (by kernel_rfl) (fun _ _ _ h => h) (Or.inl ⟨by rfl, ?_⟩) (by assumption) ?_
              rotate_left
              · (intro W hSw; (try dsimp only at hSw); go_simp; try with_reducible rfl)
              try simp only [Act.put, List.setIfInBounds_toArray, List.set_cons_zero, List.set_cons_succ]
              refine wpAnyH_ready (rs := [17]) (by kernel_rfl) (by simp) ?_
              refine AllReadyH.cons rfl (fun K hK => ?_) AllReadyH.nil
              go_simp
              refine hK.out _ _ ?_ (fun hHeld => ?_)
              · try dsimp only
                exact (World.cell?_setCell_far W15 ⟨w1.heap.size, 0, none⟩ ⟨w.heap.size, 0, none⟩ _ (by show w1.heap.size ≠ w.heap.size; omega)).trans hHeld
              clear hK K
              try simp only [Act.put, List.setIfInBounds_toArray, List.set_cons_zero, List.set_cons_succ]
              refine wpAnyH_done (by kernel_rfl) ?_ _
              have hE := e3o
              rw [HE2.out] at hE
              have hbelZ := hbel.trans (e3B.mono hbel.size)
              have z1 := e3B.size
              go_wp2_with fail
              go_meet
              exact ⟨A3, n3, c3, by omega, own_base (ownsRow_setCell_below hE (a := ⟨w1.heap.size, 0, none⟩) (by show w1.heap.size < V.heap.size; omega) _) (by omega), hHeld, (World.cell?_setCell_far W15 ⟨w1.heap.size, 0, none⟩ ⟨w.heap.size + 1, 0, none⟩ _ (by show w1.heap.size ≠ w.heap.size + 1; omega)).trans ((e3B.cell (p := ⟨w.heap.size + 1, 0, none⟩) (by show w.heap.size + 1 < V.heap.size; omega)).trans dR), by simp [(e3B.frozen (p := ⟨w.heap.size + 1, 0, none⟩) (by show w.heap.size + 1 < V.heap.size; omega)).trans fR], by simp [go_sem, dB15], by simp; omega, hbelZ.setCell (p := ⟨w1.heap.size, 0, none⟩) (by show w.heap.size ≤ w1.heap.size; omega) _⟩
          · go_simp
            have a9r : Rd (V.alloc (.cells #[.string nm, .int .i64 x] 91)) 2 (some ⟨V.heap.size, 0, none⟩) 1 (fl [(nm, x)]) := rd_new2 (by simp)
            have a9b : Below V.heap.size V (V.alloc (.cells #[.string nm, .int .i64 x] 91)) := al (Below.refl _ _)
            refine hK.out _ _ ?_ (fun hHeld => ?_)
            · try dsimp only
              exact kcell (al (o := (.cells #[.string nm, .int .i64 x] 91)) (Below.refl V.heap.size V)) hHeld
            clear hK K
            try simp only [Act.put, List.setIfInBounds_toArray, List.set_cons_zero, List.set_cons_succ]
            refine wpAnyH_ready (rs := [0]) (by kernel_rfl) (by simp) ?_
            refine AllReadyH.cons rfl (fun K hK => ?_) AllReadyH.nil
            go_simp
            have a0r := Rd.alloc a9r (.cells #[] 91)
            have a0n : ((V.alloc (.cells #[.string nm, .int .i64 x] 91)).alloc (.cells #[] 91)).ownsRow V.heap.size 91 2 (.slice (some ⟨V.heap.size + 1, 0, none⟩) 0 0) 0 [] := own_newA (by simp) (by have q := a9b.size; simp at q ⊢ <;> omega)
            have a0b : Below V.heap.size V ((V.alloc (.cells #[.string nm, .int .i64 x] 91)).alloc (.cells #[] 91)) := al a9b
            refine hK.out _ _ ?_ (fun hHeld => ?_)
            · try dsimp only
              exact kcell (al (o := (.cells #[] 91)) (Below.refl (V.alloc (.cells #[.string nm, .int .i64 x] 91)).heap.size (V.alloc (.cells #[.string nm, .int .i64 x] 91)))) hHeld
            clear hK K
            try simp only [Act.put, List.setIfInBounds_toArray, List.set_cons_zero, List.set_cons_succ]
            refine wpAnyH_ready (rs := [5]) (by kernel_rfl) (by simp) ?_
            refine AllReadyH.cons rfl (fun K hK => ?_) AllReadyH.nil
            refine step_catD (by rfl) (some 55) (by rfl) (.tmp 50) (.tmp 54) 26 (by rfl) V.heap.size 91 i0 (.agg #[.string ⟨#[]⟩, .int .i64 0]) 2 24 Try.underlying26 hi hz0 hz1 hz2 rfl (by decide) (some ⟨V.heap.size + 1, 0, none⟩) 0 0 _ (by rfl) (by exact a0n) _ _ _ _ (by rfl) (by exact hRA.out (Below.drew a0b)) HO1.out (by unfold maxLen; omega) (by omega) (by have q := (Below.drew a0b).size; simp at q ⊢ <;> omega) ?_
            intro A1 n1 c1 W5 hn1 e1o e1b e1g
            have hm1 : n1 ≤ 4 * 1048577 := by omega
            clear hn1
            have e1r : Rd W5 2 (some ⟨V.heap.size, 0, none⟩) 1 (fl [(nm, x)]) := Rd.grown a0r (grown_drew e1g) (fun ad h => by injection h with h; subst h; simp)
            have e1B : Below V.heap.size V W5 := (Below.drew a0b).trans e1b
            refine hK.out _ _ ?_ (fun hHeld => ?_)
            · try dsimp only
              exact (e1b.cell (p := ⟨w.heap.size, 0, none⟩) (by show w.heap.size < V.heap.size; omega)).trans hHeld
            clear hK K
            try simp only [Act.put, List.setIfInBounds_toArray, List.set_cons_zero, List.set_cons_succ]
            refine wpAnyH_ready (rs := [10]) (by kernel_rfl) (by simp) ?_
            refine AllReadyH.cons rfl (fun K hK => ?_) AllReadyH.nil
            refine step_catD (by rfl) (some 60) (by rfl) (.tmp 55) (.tmp 59) 26 (by rfl) V.heap.size 91 i0 (.agg #[.string ⟨#[]⟩, .int .i64 0]) 2 24 Try.underlying26 hi hz0 hz1 hz2 rfl (by decide) A1 n1 c1 _ (by rfl) (by exact e1o) _ 1 _ (fl [(nm, x)]) (by rfl) (by exact e1r) (ones_fl _) (by unfold maxLen; omega) (by omega) (by have q := e1B.size; simp at q ⊢ <;> omega) ?_
            intro A2 n2 c2 W10 hn2 e2o e2b e2g
            have hm2 : n2 ≤ 6 * 1048577 := by omega
            clear hn2
            have e2B : Below V.heap.size V W10 := e1B.trans e2b
            refine hK.out _ _ ?_ (fun hHeld => ?_)
            · try dsimp only
              exact (e2b.cell (p := ⟨w.heap.size, 0, none⟩) (by show w.heap.size < V.heap.size; omega)).trans hHeld
            clear hK K
            try simp only [Act.put, List.setIfInBounds_toArray, List.set_cons_zero, List.set_cons_succ]
            refine wpAnyH_ready (rs := [15]) (by kernel_rfl) (by simp) ?_
            refine AllReadyH.cons rfl (fun K hK => ?_) AllReadyH.nil
            refine step_catD (by rfl) (some 65) (by rfl) (.tmp 60) (.tmp 64) 26 (by rfl) V.heap.size 91 i0 (.agg #[.string ⟨#[]⟩, .int .i64 0]) 2 24 Try.underlying26 hi hz0 hz1 hz2 rfl (by decide) A2 n2 c2 _ (by rfl) (by exact e2o) _ _ _ _ (by rfl) (by exact hRB.out) HO2.out (by unfold maxLen; omega) (by omega) (by have q := e2B.size; simp at q ⊢ <;> omega) ?_
            intro A3 n3 c3 W15 hn3 e3o e3b e3g
            have hm3 : n3 ≤ 8 * 1048577 := by omega
            clear hn3
            have e3B : Below V.heap.size V W15 := e2B.trans e3b
            have dB15 : W15.cell? ⟨w1.heap.size, 0, none⟩ = some (.slice B 0 d) := (e3B.cell (p := ⟨w1.heap.size, 0, none⟩) (by show w1.heap.size < V.heap.size; omega)).trans dB
            have fB15 : W15.frozen? ⟨w1.heap.size, 0, none⟩ = false := (e3B.frozen (p := ⟨w1.heap.size, 0, none⟩) (by show w1.heap.size < V.heap.size; omega)).trans fB
            refine hK.out _ _ ?_ (fun hHeld => ?_)
            · try dsimp only
              exact (e3b.cell (p := ⟨w.heap.size, 0, none⟩) (by show w.heap.size < V.heap.size; omega)).trans hHeld
            clear hK K
            try simp only [Act.put, List.setIfInBounds_toArray, List.set_cons_zero, List.set_cons_succ]
            refine takeD (i := 16) (d := some 66) (v := ?_) _ rfl rfl (by kernel_rfl) (by kernel_rfl) (by kernel_rfl) (fun _ _ _ h => h) (Or.inl ⟨by rfl, ?_⟩) (by assumption) ?_
            rotate_left
            · (intro W hSw; (try dsimp only at hSw); go_simp; try with_reducible rfl)
            try simp only [Act.put, List.setIfInBounds_toArray, List.set_cons_zero, List.set_cons_succ]
            refine wpAnyH_ready (rs := [17]) (by kernel_rfl) (by simp) ?_
            refine AllReadyH.cons rfl (fun K hK => ?_) AllReadyH.nil
            go_simp
            refine hK.out _ _ ?_ (fun hHeld => ?_)
            · try dsimp only
              exact (World.cell?_setCell_far W15 ⟨w1.heap.size, 0, none⟩ ⟨w.heap.size, 0, none⟩ _ (by show w1.heap.size ≠ w.heap.size; omega)).trans hHeld
            clear hK K
            try simp only [Act.put, List.setIfInBounds_toArray, List.set_cons_zero, List.set_cons_succ]
            refine wpAnyH_done (by kernel_rfl) ?_ _
            have hE := e3o
            rw [HE2.out] at hE
            have hbelZ := hbel.trans (e3B.mono hbel.size)
            have z1 := e3B.size
            go_wp2_with fail
            go_meet
            exact ⟨A3, n3, c3, by omega, own_base (ownsRow_setCell_below hE (a := ⟨w1.heap.size, 0, none⟩) (by show w1.heap.size < V.heap.size; omega) _) (by omega), hHeld, (World.cell?_setCell_far W15 ⟨w1.heap.size, 0, none⟩ ⟨w.heap.size + 1, 0, none⟩ _ (by show w1.heap.size ≠ w.heap.size + 1; omega)).trans ((e3B.cell (p := ⟨w.heap.size + 1, 0, none⟩) (by show w.heap.size + 1 < V.heap.size; omega)).trans dR), by simp [(e3B.frozen (p := ⟨w.heap.size + 1, 0, none⟩) (by show w.heap.size + 1 < V.heap.size; omega)).trans fR], by simp [go_sem, dB15], by simp; omega, hbelZ.setCell (p := ⟨w1.heap.size, 0, none⟩) (by show w.heap.size ≤ w1.heap.size; omega) _⟩
        case rest =>
          obtain ⟨A3, q, c3, hq, o4, d0, dR, fR, dB, hs4, hbel⟩ := hcut
          obtain ⟨rb, hrb⟩ : ∃ rb, rb = recB l := ⟨_, rfl⟩
          have HB := Lib.hid hrb
          clear hrb
          go_wp2_with fail
          refine (specIsRecord_any _ 0 0 l rb _ (by unfold maxLen; omega) (ha.below hbel) hok HB.out).mono ?_
          rintro e v1 ⟨rfl, c1⟩
          have C1 := hbel.trans (c1.mono hbel.size)
          replace d0 := kcell c1 d0
          replace dR := kcell c1 dR
          replace fR := kfro c1 (by omega) fR
          replace dB := kcell c1 dB
          replace o4 := own_below o4 c1
          have hv1 := c1.size
          clear c1
          cases rb
          · have HN : Hid ((lr, r) = (l, false)) := Lib.hid (by rw [HR.out, setR_def, ← HB.out]; rfl)
            go_wp2_with fail
            refine (l5Copy_any _ 0 0 l _ (by omega) (ha.below C1)).mono ?_
            rintro e v2 ⟨A2, n2, c2, rfl, q2, c2'⟩
            have C2 := C1.trans (c2'.mono C1.size)
            replace dR := kcell c2' dR
            replace fR := kfro c2' (by omega) fR
            have B4 := Lib.hid (C2.setCell (p := ⟨w.heap.size + 1, 0, none⟩) (by simp) (.slice A2 n2 c2))
            have O4 := Lib.hid (own_base (base' := w.heap.size) (ownsRow_setCell_below q2 (a := ⟨w.heap.size + 1, 0, none⟩) (by show w.heap.size + 1 < v1.heap.size; omega) (.slice A2 n2 c2)) (by omega))
            clear c2' q2 C2
            go_wp2
            exact bodyPost_ret (v := .tuple #[.agg #[.slice A2 n2 c2], .bool false]) (by simp [results, Try.results51, go_sem, dR]) rfl (MkRB_mk HN.out O4.out B4.out)
          · obtain ⟨rc, hrc⟩ : ∃ rc, rc = recB (insF l nm x) := ⟨_, rfl⟩
            have HC := Lib.hid hrc
            clear hrc
            go_wp2_with fail
            refine (specIsRecord_any A3 q c3 (insF l nm x) rc _ (by unfold maxLen; omega) (Rd.of_own o4) HOKM.out HC.out).mono ?_
            rintro e v2 ⟨rfl, c2'⟩
            have C2 := C1.trans (c2'.mono C1.size)
            replace d0 := kcell c2' d0
            replace dR := kcell c2' dR
            replace fR := kfro c2' (by omega) fR
            replace dB := kcell c2' dB
            replace o4 := own_below o4 c2'
            have hv2 := c2'.size
            clear c2'
            cases rc
            · have HN : Hid ((lr, r) = (l, false)) := Lib.hid (by rw [HR.out, setR_def, HS.out, ← HB.out, ← HC.out]; rfl)
              go_wp2_with fail
              refine (l5Copy_any _ 0 0 l _ (by omega) (ha.below C2)).mono ?_
              rintro e v3 ⟨A2, n2, c2, rfl, q2, c3'⟩
              have C3 := C2.trans (c3'.mono C2.size)
              replace dR := kcell c3' dR
              replace fR := kfro c3' (by omega) fR
              have B4 := Lib.hid (C3.setCell (p := ⟨w.heap.size + 1, 0, none⟩) (by simp) (.slice A2 n2 c2))
              have O4 := Lib.hid (own_base (base' := w.heap.size) (ownsRow_setCell_below q2 (a := ⟨w.heap.size + 1, 0, none⟩) (by show w.heap.size + 1 < v2.heap.size; omega) (.slice A2 n2 c2)) (by omega))
              clear c3' q2 C3
              go_wp2
              exact bodyPost_ret (v := .tuple #[.agg #[.slice A2 n2 c2], .bool false]) (by simp [results, Try.results51, go_sem, dR]) rfl (MkRB_mk HN.out O4.out B4.out)
            · have HN : Hid ((lr, r) = ((insF l nm x), true)) := Lib.hid (by rw [HR.out, setR_def, HS.out, ← HB.out, ← HC.out]; rfl)
              have B4 := Lib.hid (C2.setCell (p := ⟨w.heap.size + 1, 0, none⟩) (by simp) (.slice A3 q c3))
              have O4 := Lib.hid (own_base (base' := w.heap.size) (ownsRow_setCell_below o4 (a := ⟨w.heap.size + 1, 0, none⟩) (by simp) (.slice A3 q c3)) (by omega))
              clear o4 C2 C1
              go_wp2
              exact bodyPost_ret (v := .tuple #[.agg #[.slice A3 q c3], .bool true]) (by simp [results, Try.results51, go_sem, dR]) rfl (MkRB_mk HN.out O4.out B4.out)
      · by_cases hcn : c = n
        · obtain rfl : n = c := hcn.symm
          go_upto_region 7 with fail
          go_cut [] (fun wx => ∃ (A3 : Option Addr) (q c3 : Nat), q ≤ 12582924 ∧ wx.ownsRow (w.heap.size + 2) 91 2 (.slice A3 q c3) q (fl (insF l nm x)) ∧ wx.cell? ⟨w.heap.size, 0, none⟩ = some (.slice (some ⟨b, 0, none⟩) n n) ∧ wx.cell? ⟨w.heap.size + 1, 0, none⟩ = some (.slice none 0 0) ∧ wx.frozen? ⟨w.heap.size + 1, 0, none⟩ = false ∧ wx.cell? ⟨w1.heap.size, 0, none⟩ = some (.slice A3 q c3) ∧ w1.heap.size < wx.heap.size ∧ Below w.heap.size w wx)
          case first =>
            refine wp_region_held_drew (S := fun W => W.cell? ⟨w.heap.size, 0, none⟩ = some (.slice (some ⟨b, 0, none⟩) n n)) (by kernel_rfl) ?_ (fun hHeld => ?_)
            · exact d0
            refine takeD (i := 1) (d := some 51) (v := ?_) _ rfl rfl (by kernel_rfl) (by kernel_rfl) (by kernel_rfl) (fun _ _ _ h => h) (Or.inl ⟨by rfl, ?_⟩) (by assumption) ?_
            rotate_left
            · (intro W hSw; (try dsimp only at hSw); go_simp; try with_reducible rfl)
            try simp only [Act.put, List.setIfInBounds_toArray, List.set_cons_zero, List.set_cons_succ]
            refine takeD (i := 2) (d := some 52) (v := ?_) _ rfl rfl (by kernel_rfl) (by kernel_rfl) (by kernel_rfl) (fun _ _ _ h => h) (Or.inl ⟨by rfl, ?_⟩) (by assumption) ?_
            rotate_left
            · (intro W hSw; (try dsimp only at hSw); go_simp; try with_reducible rfl)
            try simp only [Act.put, List.setIfInBounds_toArray, List.set_cons_zero, List.set_cons_succ]
            refine takeD (i := 3) (d := some 53) (v := ?_) _ rfl rfl (by kernel_rfl) (by kernel_rfl) (by kernel_rfl) (fun _ _ _ h => h) (Or.inl ⟨by rfl, ?_⟩) (by assumption) ?_
            rotate_left
            · (intro W hSw; (try dsimp only at hSw); go_simp; try with_reducible rfl)
            try simp only [Act.put, List.setIfInBounds_toArray, List.set_cons_zero, List.set_cons_succ]
            refine takeD (i := 4) (d := some 54) (v := ?_) _ rfl rfl (by kernel_rfl) (by kernel_rfl) (by kernel_rfl) (fun _ _ _ h => h) (Or.inl ⟨by rfl, ?_⟩) (by assumption) ?_
            rotate_left
            · (intro W hSw; (try dsimp only at hSw); go_simp; try with_reducible rfl)
            try simp only [Act.put, List.setIfInBounds_toArray, List.set_cons_zero, List.set_cons_succ]
            refine takeD (i := 6) (d := some 56) (v := ?_) _ rfl rfl (by kernel_rfl) (by kernel_rfl) (by kernel_rfl) (fun _ _ _ h => h) (Or.inl ⟨by rfl, ?_⟩) (by assumption) ?_
            rotate_left
            · (intro W hSw; (try dsimp only at hSw); go_simp; try with_reducible rfl)
            try simp only [Act.put, List.setIfInBounds_toArray, List.set_cons_zero, List.set_cons_succ]
            refine takeD (i := 7) (d := some 57) (v := ?_) _ rfl rfl (by kernel_rfl) (by kernel_rfl) (by kernel_rfl) (fun _ _ _ h => h) (Or.inl ⟨by rfl, ?_⟩) (by assumption) ?_
            rotate_left
            · (intro W hSw; (try dsimp only at hSw); go_simp; try with_reducible rfl)
            try simp only [Act.put, List.setIfInBounds_toArray, List.set_cons_zero, List.set_cons_succ]
            refine takeD (i := 8) (d := some 58) (v := ?_) _ rfl rfl (by kernel_rfl) (by kernel_rfl) (by kernel_rfl) (fun _ _ _ h => h) (Or.inl ⟨by rfl, ?_⟩) (by assumption) ?_
            rotate_left
            · (intro W hSw; (try dsimp only at hSw); go_simp; try with_reducible rfl)
            try simp only [Act.put, List.setIfInBounds_toArray, List.set_cons_zero, List.set_cons_succ]
            refine takeD (i := 11) (d := some 61) (v := ?_) _ rfl rfl (by kernel_rfl) (by kernel_rfl) (by kernel_rfl) (fun _ _ _ h => h) (Or.inl ⟨by rfl, ?_⟩) (by assumption) ?_
            rotate_left
            · (intro W hSw; (try dsimp only at hSw); go_simp; try with_reducible rfl)
            try simp only [Act.put, List.setIfInBounds_toArray, List.set_cons_zero, List.set_cons_succ]
            refine takeD (i := 12) (d := some 62) (v := ?_) _ rfl rfl (by kernel_rfl) (by kernel_rfl) (by kernel_rfl) (fun _ _ _ h => h) (Or.inl ⟨by rfl, ?_⟩) (by assumption) ?_
            rotate_left
            · (intro W hSw; (try dsimp only at hSw); go_simp; try with_reducible rfl)
            try simp only [Act.put, List.setIfInBounds_toArray, List.set_cons_zero, List.set_cons_succ]
            refine takeD (i := 13) (d := some 63) (v := ?_) _ rfl rfl (by kernel_rfl) (by kernel_rfl) (by kernel_rfl) (fun _ _ _ h => h) (Or.inl ⟨by rfl, ?_⟩) (by assumption) ?_
            rotate_left
            · (intro W hSw; (try dsimp only at hSw); go_simp; try with_reducible rfl)
            try simp only [Act.put, List.setIfInBounds_toArray, List.set_cons_zero, List.set_cons_succ]
            refine takeD (i := 14) (d := some 64) (v := ?_) _ rfl rfl (by kernel_rfl) (by kernel_rfl) (by kernel_rfl) (fun _ _ _ h => h) (Or.inl ⟨by rfl, ?_⟩) (by assumption) ?_
            rotate_left
            · (intro W hSw; (try dsimp only at hSw); go_simp; try with_reducible rfl)
            try simp only [Act.put, List.setIfInBounds_toArray, List.set_cons_zero, List.set_cons_succ]
            refine wpAnyH_ready (rs := [0, 9]) (by kernel_rfl) (by simp) ?_
            refine AllReadyH.cons rfl (fun K hK => ?_) (AllReadyH.cons rfl (fun K hK => ?_) AllReadyH.nil)
            · go_simp
              have a0n : (V.alloc (.cells #[] 91)).ownsRow V.heap.size 91 2 (.slice (some ⟨V.heap.size, 0, none⟩) 0 0) 0 [] := own_newA (by simp) (by have q := (Below.refl V.heap.size V).size; simp at q ⊢ <;> omega)
              have a0b : Below V.heap.size V (V.alloc (.cells #[] 91)) := al (Below.refl _ _)
              refine hK.out _ _ ?_ (fun hHeld => ?_)
              · try dsimp only
                exact kcell (al (o := (.cells #[] 91)) (Below.refl V.heap.size V)) hHeld
              clear hK K
              try simp only [Act.put, List.setIfInBounds_toArray, List.set_cons_zero, List.set_cons_succ]
              refine wpAnyH_ready (rs := [5, 9]) (by kernel_rfl) (by simp) ?_
              refine AllReadyH.cons rfl (fun K hK => ?_) (AllReadyH.cons rfl (fun K hK => ?_) AllReadyH.nil)
              · refine step_catD (by rfl) (some 55) (by rfl) (.tmp 50) (.tmp 54) 26 (by rfl) V.heap.size 91 i0 (.agg #[.string ⟨#[]⟩, .int .i64 0]) 2 24 Try.underlying26 hi hz0 hz1 hz2 rfl (by decide) (some ⟨V.heap.size, 0, none⟩) 0 0 _ (by rfl) (by exact a0n) _ _ _ _ (by rfl) (by exact hRA.out (Below.drew a0b)) HO1.out (by unfold maxLen; omega) (by omega) (by have q := (Below.drew a0b).size; simp at q ⊢ <;> omega) ?_
                intro A1 n1 c1 W5 hn1 e1o e1b e1g
                have hm1 : n1 ≤ 4 * 1048577 := by omega
                clear hn1
                have e1B : Below V.heap.size V W5 := (Below.drew a0b).trans e1b
                refine hK.out _ _ ?_ (fun hHeld => ?_)
                · try dsimp only
                  exact (e1b.cell (p := ⟨w.heap.size, 0, none⟩) (by show w.heap.size < V.heap.size; omega)).trans hHeld
                clear hK K
                try simp only [Act.put, List.setIfInBounds_toArray, List.set_cons_zero, List.set_cons_succ]
                refine wpAnyH_ready (rs := [9]) (by kernel_rfl) (by simp) ?_
                refine AllReadyH.cons rfl (fun K hK => ?_) AllReadyH.nil
                go_simp
                have a9o := own_below e1o (al (o := (.cells #[.string nm, .int .i64 x] 91)) (Below.refl W5.heap.size W5))
                have a9r : Rd (W5.alloc (.cells #[.string nm, .int .i64 x] 91)) 2 (some ⟨W5.heap.size, 0, none⟩) 1 (fl [(nm, x)]) := rd_new2 (by simp)
                have a9b : Below V.heap.size V (W5.alloc (.cells #[.string nm, .int .i64 x] 91)) := al e1B
                refine hK.out _ _ ?_ (fun hHeld => ?_)
                · try dsimp only
                  exact kcell (al (o := (.cells #[.string nm, .int .i64 x] 91)) (Below.refl W5.heap.size W5)) hHeld
                clear hK K
                try simp only [Act.put, List.setIfInBounds_toArray, List.set_cons_zero, List.set_cons_succ]
                refine wpAnyH_ready (rs := [10]) (by kernel_rfl) (by simp) ?_
                refine AllReadyH.cons rfl (fun K hK => ?_) AllReadyH.nil
                refine step_catD (by rfl) (some 60) (by rfl) (.tmp 55) (.tmp 59) 26 (by rfl) V.heap.size 91 i0 (.agg #[.string ⟨#[]⟩, .int .i64 0]) 2 24 Try.underlying26 hi hz0 hz1 hz2 rfl (by decide) A1 n1 c1 _ (by rfl) (by exact a9o) _ 1 _ (fl [(nm, x)]) (by rfl) (by exact a9r) (ones_fl _) (by unfold maxLen; omega) (by omega) (by have q := a9b.size; simp at q ⊢ <;> omega) ?_
                intro A2 n2 c2 W10 hn2 e2o e2b e2g
                have hm2 : n2 ≤ 6 * 1048577 := by omega
                clear hn2
                have e2B : Below V.heap.size V W10 := a9b.trans e2b
                refine hK.out _ _ ?_ (fun hHeld => ?_)
                · try dsimp only
                  exact (e2b.cell (p := ⟨w.heap.size, 0, none⟩) (by show w.heap.size < V.heap.size; omega)).trans hHeld
                clear hK K
                try simp only [Act.put, List.setIfInBounds_toArray, List.set_cons_zero, List.set_cons_succ]
                refine wpAnyH_ready (rs := [15]) (by kernel_rfl) (by simp) ?_
                refine AllReadyH.cons rfl (fun K hK => ?_) AllReadyH.nil
                refine step_catD (by rfl) (some 65) (by rfl) (.tmp 60) (.tmp 64) 26 (by rfl) V.heap.size 91 i0 (.agg #[.string ⟨#[]⟩, .int .i64 0]) 2 24 Try.underlying26 hi hz0 hz1 hz2 rfl (by decide) A2 n2 c2 _ (by rfl) (by exact e2o) _ _ _ _ (by rfl) (by exact hRB.out) HO2.out (by unfold maxLen; omega) (by omega) (by have q := e2B.size; simp at q ⊢ <;> omega) ?_
                intro A3 n3 c3 W15 hn3 e3o e3b e3g
                have hm3 : n3 ≤ 8 * 1048577 := by omega
                clear hn3
                have e3B : Below V.heap.size V W15 := e2B.trans e3b
                have dB15 : W15.cell? ⟨w1.heap.size, 0, none⟩ = some (.slice B n d) := (e3B.cell (p := ⟨w1.heap.size, 0, none⟩) (by show w1.heap.size < V.heap.size; omega)).trans dB
                have fB15 : W15.frozen? ⟨w1.heap.size, 0, none⟩ = false := (e3B.frozen (p := ⟨w1.heap.size, 0, none⟩) (by show w1.heap.size < V.heap.size; omega)).trans fB
                refine hK.out _ _ ?_ (fun hHeld => ?_)
                · try dsimp only
                  exact (e3b.cell (p := ⟨w.heap.size, 0, none⟩) (by show w.heap.size < V.heap.size; omega)).trans hHeld
                clear hK K
                try simp only [Act.put, List.setIfInBounds_toArray, List.set_cons_zero, List.set_cons_succ]
                refine takeD (i := 16) (d := some 66) (v := ?_) _ rfl rfl (by kernel_rfl) (by kernel_rfl) (by kernel_rfl) (fun _ _ _ h => h) (Or.inl ⟨by rfl, ?_⟩) (by assumption) ?_
                rotate_left
                · (intro W hSw; (try dsimp only at hSw); go_simp; try with_reducible rfl)
                try simp only [Act.put, List.setIfInBounds_toArray, List.set_cons_zero, List.set_cons_succ]
                refine wpAnyH_ready (rs := [17]) (by kernel_rfl) (by simp) ?_
                refine AllReadyH.cons rfl (fun K hK => ?_) AllReadyH.nil
                go_simp
                refine hK.out _ _ ?_ (fun hHeld => ?_)
                · try dsimp only
                  exact (World.cell?_setCell_far W15 ⟨w1.heap.size, 0, none⟩ ⟨w.heap.size, 0, none⟩ _ (by show w1.heap.size ≠ w.heap.size; omega)).trans hHeld
                clear hK K
                try simp only [Act.put, List.setIfInBounds_toArray, List.set_cons_zero, List.set_cons_succ]
                refine wpAnyH_done (by kernel_rfl) ?_ _
                have hE := e3o
                rw [HE2.out] at hE
                have hbelZ := hbel.trans (e3B.mono hbel.size)
                have z1 := e3B.size
                go_wp2_with fail
                go_meet
                exact ⟨A3, n3, c3, by omega, own_base (ownsRow_setCell_below hE (a := ⟨w1.heap.size, 0, none⟩) (by show w1.heap.size < V.heap.size; omega) _) (by omega), hHeld, (World.cell?_setCell_far W15 ⟨w1.heap.size, 0, none⟩ ⟨w.heap.size + 1, 0, none⟩ _ (by show w1.heap.size ≠ w.heap.size + 1; omega)).trans ((e3B.cell (p := ⟨w.heap.size + 1, 0, none⟩) (by show w.heap.size + 1 < V.heap.size; omega)).trans dR), by simp [(e3B.frozen (p := ⟨w.heap.size + 1, 0, none⟩) (by show w.heap.size + 1 < V.heap.size; omega)).trans fR], by simp [go_sem, dB15], by simp; omega, hbelZ.setCell (p := ⟨w1.heap.size, 0, none⟩) (by show w.heap.size ≤ w1.heap.size; omega) _⟩
              · go_simp
                have a9o := own_below a0n (al (o := (.cells #[.string nm, .int .i64 x] 91)) (Below.refl (V.alloc (.cells #[] 91)).heap.size (V.alloc (.cells #[] 91))))
                have a9r : Rd ((V.alloc (.cells #[] 91)).alloc (.cells #[.string nm, .int .i64 x] 91)) 2 (some ⟨V.heap.size + 1, 0, none⟩) 1 (fl [(nm, x)]) := rd_new2 (by simp)
                have a9b : Below V.heap.size V ((V.alloc (.cells #[] 91)).alloc (.cells #[.string nm, .int .i64 x] 91)) := al a0b
                refine hK.out _ _ ?_ (fun hHeld => ?_)
                · try dsimp only
                  exact kcell (al (o := (.cells #[.string nm, .int .i64 x] 91)) (Below.refl (V.alloc (.cells #[] 91)).heap.size (V.alloc (.cells #[] 91)))) hHeld
                clear hK K
                try simp only [Act.put, List.setIfInBounds_toArray, List.set_cons_zero, List.set_cons_succ]
                refine wpAnyH_ready (rs := [5]) (by kernel_rfl) (by simp) ?_
                refine AllReadyH.cons rfl (fun K hK => ?_) AllReadyH.nil
                refine step_catD (by rfl) (some 55) (by rfl) (.tmp 50) (.tmp 54) 26 (by rfl) V.heap.size 91 i0 (.agg #[.string ⟨#[]⟩, .int .i64 0]) 2 24 Try.underlying26 hi hz0 hz1 hz2 rfl (by decide) (some ⟨V.heap.size, 0, none⟩) 0 0 _ (by rfl) (by exact a9o) _ _ _ _ (by rfl) (by exact hRA.out (Below.drew a9b)) HO1.out (by unfold maxLen; omega) (by omega) (by have q := (Below.drew a9b).size; simp at q ⊢ <;> omega) ?_
                intro A1 n1 c1 W5 hn1 e1o e1b e1g
                have hm1 : n1 ≤ 4 * 1048577 := by omega
                clear hn1
                have e1r : Rd W5 2 (some ⟨V.heap.size + 1, 0, none⟩) 1 (fl [(nm, x)]) := Rd.grown a9r (grown_drew e1g) (fun ad h => by injection h with h; subst h; simp)
                have e1B : Below V.heap.size V W5 := (Below.drew a9b).trans e1b
                refine hK.out _ _ ?_ (fun hHeld => ?_)
                · try dsimp only
                  exact (e1b.cell (p := ⟨w.heap.size, 0, none⟩) (by show w.heap.size < V.heap.size; omega)).trans hHeld
                clear hK K
                try simp only [Act.put, List.setIfInBounds_toArray, List.set_cons_zero, List.set_cons_succ]
                refine wpAnyH_ready (rs := [10]) (by kernel_rfl) (by simp) ?_
                refine AllReadyH.cons rfl (fun K hK => ?_) AllReadyH.nil
                refine step_catD (by rfl) (some 60) (by rfl) (.tmp 55) (.tmp 59) 26 (by rfl) V.heap.size 91 i0 (.agg #[.string ⟨#[]⟩, .int .i64 0]) 2 24 Try.underlying26 hi hz0 hz1 hz2 rfl (by decide) A1 n1 c1 _ (by rfl) (by exact e1o) _ 1 _ (fl [(nm, x)]) (by rfl) (by exact e1r) (ones_fl _) (by unfold maxLen; omega) (by omega) (by have q := e1B.size; simp at q ⊢ <;> omega) ?_
                intro A2 n2 c2 W10 hn2 e2o e2b e2g
                have hm2 : n2 ≤ 6 * 1048577 := by omega
                clear hn2
                have e2B : Below V.heap.size V W10 := e1B.trans e2b
                refine hK.out _ _ ?_ (fun hHeld => ?_)
                · try dsimp only
                  exact (e2b.cell (p := ⟨w.heap.size, 0, none⟩) (by show w.heap.size < V.heap.size; omega)).trans hHeld
                clear hK K
                try simp only [Act.put, List.setIfInBounds_toArray, List.set_cons_zero, List.set_cons_succ]
                refine wpAnyH_ready (rs := [15]) (by kernel_rfl) (by simp) ?_
                refine AllReadyH.cons rfl (fun K hK => ?_) AllReadyH.nil
                refine step_catD (by rfl) (some 65) (by rfl) (.tmp 60) (.tmp 64) 26 (by rfl) V.heap.size 91 i0 (.agg #[.string ⟨#[]⟩, .int .i64 0]) 2 24 Try.underlying26 hi hz0 hz1 hz2 rfl (by decide) A2 n2 c2 _ (by rfl) (by exact e2o) _ _ _ _ (by rfl) (by exact hRB.out) HO2.out (by unfold maxLen; omega) (by omega) (by have q := e2B.size; simp at q ⊢ <;> omega) ?_
                intro A3 n3 c3 W15 hn3 e3o e3b e3g
                have hm3 : n3 ≤ 8 * 1048577 := by omega
                clear hn3
                have e3B : Below V.heap.size V W15 := e2B.trans e3b
                have dB15 : W15.cell? ⟨w1.heap.size, 0, none⟩ = some (.slice B n d) := (e3B.cell (p := ⟨w1.heap.size, 0, none⟩) (by show w1.heap.size < V.heap.size; omega)).trans dB
                have fB15 : W15.frozen? ⟨w1.heap.size, 0, none⟩ = false := (e3B.frozen (p := ⟨w1.heap.size, 0, none⟩) (by show w1.heap.size < V.heap.size; omega)).trans fB
                refine hK.out _ _ ?_ (fun hHeld => ?_)
                · try dsimp only
                  exact (e3b.cell (p := ⟨w.heap.size, 0, none⟩) (by show w.heap.size < V.heap.size; omega)).trans hHeld
                clear hK K
                try simp only [Act.put, List.setIfInBounds_toArray, List.set_cons_zero, List.set_cons_succ]
                refine takeD (i := 16) (d := some 66) (v := ?_) _ rfl rfl (by kernel_rfl) (by kernel_rfl) (by kernel_rfl) (fun _ _ _ h => h) (Or.inl ⟨by rfl, ?_⟩) (by assumption) ?_
                rotate_left
                · (intro W hSw; (try dsimp only at hSw); go_simp; try with_reducible rfl)
                try simp only [Act.put, List.setIfInBounds_toArray, List.set_cons_zero, List.set_cons_succ]
                refine wpAnyH_ready (rs := [17]) (by kernel_rfl) (by simp) ?_
                refine AllReadyH.cons rfl (fun K hK => ?_) AllReadyH.nil
                go_simp
                refine hK.out _ _ ?_ (fun hHeld => ?_)
                · try dsimp only
                  exact (World.cell?_setCell_far W15 ⟨w1.heap.size, 0, none⟩ ⟨w.heap.size, 0, none⟩ _ (by show w1.heap.size ≠ w.heap.size; omega)).trans hHeld
                clear hK K
                try simp only [Act.put, List.setIfInBounds_toArray, List.set_cons_zero, List.set_cons_succ]
                refine wpAnyH_done (by kernel_rfl) ?_ _
                have hE := e3o
                rw [HE2.out] at hE
                have hbelZ := hbel.trans (e3B.mono hbel.size)
                have z1 := e3B.size
                go_wp2_with fail
                go_meet
                exact ⟨A3, n3, c3, by omega, own_base (ownsRow_setCell_below hE (a := ⟨w1.heap.size, 0, none⟩) (by show w1.heap.size < V.heap.size; omega) _) (by omega), hHeld, (World.cell?_setCell_far W15 ⟨w1.heap.size, 0, none⟩ ⟨w.heap.size + 1, 0, none⟩ _ (by show w1.heap.size ≠ w.heap.size + 1; omega)).trans ((e3B.cell (p := ⟨w.heap.size + 1, 0, none⟩) (by show w.heap.size + 1 < V.heap.size; omega)).trans dR), by simp [(e3B.frozen (p := ⟨w.heap.size + 1, 0, none⟩) (by show w.heap.size + 1 < V.heap.size; omega)).trans fR], by simp [go_sem, dB15], by simp; omega, hbelZ.setCell (p := ⟨w1.heap.size, 0, none⟩) (by show w.heap.size ≤ w1.heap.size; omega) _⟩
            · go_simp
              have a9r : Rd (V.alloc (.cells #[.string nm, .int .i64 x] 91)) 2 (some ⟨V.heap.size, 0, none⟩) 1 (fl [(nm, x)]) := rd_new2 (by simp)
              have a9b : Below V.heap.size V (V.alloc (.cells #[.string nm, .int .i64 x] 91)) := al (Below.refl _ _)
              refine hK.out _ _ ?_ (fun hHeld => ?_)
              · try dsimp only
                exact kcell (al (o := (.cells #[.string nm, .int .i64 x] 91)) (Below.refl V.heap.size V)) hHeld
              clear hK K
              try simp only [Act.put, List.setIfInBounds_toArray, List.set_cons_zero, List.set_cons_succ]
              refine wpAnyH_ready (rs := [0]) (by kernel_rfl) (by simp) ?_
              refine AllReadyH.cons rfl (fun K hK => ?_) AllReadyH.nil
              go_simp
              have a0r := Rd.alloc a9r (.cells #[] 91)
              have a0n : ((V.alloc (.cells #[.string nm, .int .i64 x] 91)).alloc (.cells #[] 91)).ownsRow V.heap.size 91 2 (.slice (some ⟨V.heap.size + 1, 0, none⟩) 0 0) 0 [] := own_newA (by simp) (by have q := a9b.size; simp at q ⊢ <;> omega)
              have a0b : Below V.heap.size V ((V.alloc (.cells #[.string nm, .int .i64 x] 91)).alloc (.cells #[] 91)) := al a9b
              refine hK.out _ _ ?_ (fun hHeld => ?_)
              · try dsimp only
                exact kcell (al (o := (.cells #[] 91)) (Below.refl (V.alloc (.cells #[.string nm, .int .i64 x] 91)).heap.size (V.alloc (.cells #[.string nm, .int .i64 x] 91)))) hHeld
              clear hK K
              try simp only [Act.put, List.setIfInBounds_toArray, List.set_cons_zero, List.set_cons_succ]
              refine wpAnyH_ready (rs := [5]) (by kernel_rfl) (by simp) ?_
              refine AllReadyH.cons rfl (fun K hK => ?_) AllReadyH.nil
              refine step_catD (by rfl) (some 55) (by rfl) (.tmp 50) (.tmp 54) 26 (by rfl) V.heap.size 91 i0 (.agg #[.string ⟨#[]⟩, .int .i64 0]) 2 24 Try.underlying26 hi hz0 hz1 hz2 rfl (by decide) (some ⟨V.heap.size + 1, 0, none⟩) 0 0 _ (by rfl) (by exact a0n) _ _ _ _ (by rfl) (by exact hRA.out (Below.drew a0b)) HO1.out (by unfold maxLen; omega) (by omega) (by have q := (Below.drew a0b).size; simp at q ⊢ <;> omega) ?_
              intro A1 n1 c1 W5 hn1 e1o e1b e1g
              have hm1 : n1 ≤ 4 * 1048577 := by omega
              clear hn1
              have e1r : Rd W5 2 (some ⟨V.heap.size, 0, none⟩) 1 (fl [(nm, x)]) := Rd.grown a0r (grown_drew e1g) (fun ad h => by injection h with h; subst h; simp)
              have e1B : Below V.heap.size V W5 := (Below.drew a0b).trans e1b
              refine hK.out _ _ ?_ (fun hHeld => ?_)
              · try dsimp only
                exact (e1b.cell (p := ⟨w.heap.size, 0, none⟩) (by show w.heap.size < V.heap.size; omega)).trans hHeld
              clear hK K
              try simp only [Act.put, List.setIfInBounds_toArray, List.set_cons_zero, List.set_cons_succ]
              refine wpAnyH_ready (rs := [10]) (by kernel_rfl) (by simp) ?_
              refine AllReadyH.cons rfl (fun K hK => ?_) AllReadyH.nil
              refine step_catD (by rfl) (some 60) (by rfl) (.tmp 55) (.tmp 59) 26 (by rfl) V.heap.size 91 i0 (.agg #[.string ⟨#[]⟩, .int .i64 0]) 2 24 Try.underlying26 hi hz0 hz1 hz2 rfl (by decide) A1 n1 c1 _ (by rfl) (by exact e1o) _ 1 _ (fl [(nm, x)]) (by rfl) (by exact e1r) (ones_fl _) (by unfold maxLen; omega) (by omega) (by have q := e1B.size; simp at q ⊢ <;> omega) ?_
              intro A2 n2 c2 W10 hn2 e2o e2b e2g
              have hm2 : n2 ≤ 6 * 1048577 := by omega
              clear hn2
              have e2B : Below V.heap.size V W10 := e1B.trans e2b
              refine hK.out _ _ ?_ (fun hHeld => ?_)
              · try dsimp only
                exact (e2b.cell (p := ⟨w.heap.size, 0, none⟩) (by show w.heap.size < V.heap.size; omega)).trans hHeld
              clear hK K
              try simp only [Act.put, List.setIfInBounds_toArray, List.set_cons_zero, List.set_cons_succ]
              refine wpAnyH_ready (rs := [15]) (by kernel_rfl) (by simp) ?_
              refine AllReadyH.cons rfl (fun K hK => ?_) AllReadyH.nil
              refine step_catD (by rfl) (some 65) (by rfl) (.tmp 60) (.tmp 64) 26 (by rfl) V.heap.size 91 i0 (.agg #[.string ⟨#[]⟩, .int .i64 0]) 2 24 Try.underlying26 hi hz0 hz1 hz2 rfl (by decide) A2 n2 c2 _ (by rfl) (by exact e2o) _ _ _ _ (by rfl) (by exact hRB.out) HO2.out (by unfold maxLen; omega) (by omega) (by have q := e2B.size; simp at q ⊢ <;> omega) ?_
              intro A3 n3 c3 W15 hn3 e3o e3b e3g
              have hm3 : n3 ≤ 8 * 1048577 := by omega
              clear hn3
              have e3B : Below V.heap.size V W15 := e2B.trans e3b
              have dB15 : W15.cell? ⟨w1.heap.size, 0, none⟩ = some (.slice B n d) := (e3B.cell (p := ⟨w1.heap.size, 0, none⟩) (by show w1.heap.size < V.heap.size; omega)).trans dB
              have fB15 : W15.frozen? ⟨w1.heap.size, 0, none⟩ = false := (e3B.frozen (p := ⟨w1.heap.size, 0, none⟩) (by show w1.heap.size < V.heap.size; omega)).trans fB
              refine hK.out _ _ ?_ (fun hHeld => ?_)
              · try dsimp only
                exact (e3b.cell (p := ⟨w.heap.size, 0, none⟩) (by show w.heap.size < V.heap.size; omega)).trans hHeld
              clear hK K
              try simp only [Act.put, List.setIfInBounds_toArray, List.set_cons_zero, List.set_cons_succ]
              refine takeD (i := 16) (d := some 66) (v := ?_) _ rfl rfl (by kernel_rfl) (by kernel_rfl) (by kernel_rfl) (fun _ _ _ h => h) (Or.inl ⟨by rfl, ?_⟩) (by assumption) ?_
              rotate_left
              · (intro W hSw; (try dsimp only at hSw); go_simp; try with_reducible rfl)
              try simp only [Act.put, List.setIfInBounds_toArray, List.set_cons_zero, List.set_cons_succ]
              refine wpAnyH_ready (rs := [17]) (by kernel_rfl) (by simp) ?_
              refine AllReadyH.cons rfl (fun K hK => ?_) AllReadyH.nil
              go_simp
              refine hK.out _ _ ?_ (fun hHeld => ?_)
              · try dsimp only
                exact (World.cell?_setCell_far W15 ⟨w1.heap.size, 0, none⟩ ⟨w.heap.size, 0, none⟩ _ (by show w1.heap.size ≠ w.heap.size; omega)).trans hHeld
              clear hK K
              try simp only [Act.put, List.setIfInBounds_toArray, List.set_cons_zero, List.set_cons_succ]
              refine wpAnyH_done (by kernel_rfl) ?_ _
              have hE := e3o
              rw [HE2.out] at hE
              have hbelZ := hbel.trans (e3B.mono hbel.size)
              have z1 := e3B.size
              go_wp2_with fail
              go_meet
              exact ⟨A3, n3, c3, by omega, own_base (ownsRow_setCell_below hE (a := ⟨w1.heap.size, 0, none⟩) (by show w1.heap.size < V.heap.size; omega) _) (by omega), hHeld, (World.cell?_setCell_far W15 ⟨w1.heap.size, 0, none⟩ ⟨w.heap.size + 1, 0, none⟩ _ (by show w1.heap.size ≠ w.heap.size + 1; omega)).trans ((e3B.cell (p := ⟨w.heap.size + 1, 0, none⟩) (by show w.heap.size + 1 < V.heap.size; omega)).trans dR), by simp [(e3B.frozen (p := ⟨w.heap.size + 1, 0, none⟩) (by show w.heap.size + 1 < V.heap.size; omega)).trans fR], by simp [go_sem, dB15], by simp; omega, hbelZ.setCell (p := ⟨w1.heap.size, 0, none⟩) (by show w.heap.size ≤ w1.heap.size; omega) _⟩
          case rest =>
            obtain ⟨A3, q, c3, hq, o4, d0, dR, fR, dB, hs4, hbel⟩ := hcut
            obtain ⟨rb, hrb⟩ : ∃ rb, rb = recB l := ⟨_, rfl⟩
            have HB := Lib.hid hrb
            clear hrb
            go_wp2_with fail
            refine (specIsRecord_any _ n n l rb _ (by unfold maxLen; omega) (ha.below hbel) hok HB.out).mono ?_
            rintro e v1 ⟨rfl, c1⟩
            have C1 := hbel.trans (c1.mono hbel.size)
            replace d0 := kcell c1 d0
            replace dR := kcell c1 dR
            replace fR := kfro c1 (by omega) fR
            replace dB := kcell c1 dB
            replace o4 := own_below o4 c1
            have hv1 := c1.size
            clear c1
            cases rb
            · have HN : Hid ((lr, r) = (l, false)) := Lib.hid (by rw [HR.out, setR_def, ← HB.out]; rfl)
              go_wp2_with fail
              refine (l5Copy_any _ n n l _ (by omega) (ha.below C1)).mono ?_
              rintro e v2 ⟨A2, n2, c2, rfl, q2, c2'⟩
              have C2 := C1.trans (c2'.mono C1.size)
              replace dR := kcell c2' dR
              replace fR := kfro c2' (by omega) fR
              have B4 := Lib.hid (C2.setCell (p := ⟨w.heap.size + 1, 0, none⟩) (by simp) (.slice A2 n2 c2))
              have O4 := Lib.hid (own_base (base' := w.heap.size) (ownsRow_setCell_below q2 (a := ⟨w.heap.size + 1, 0, none⟩) (by show w.heap.size + 1 < v1.heap.size; omega) (.slice A2 n2 c2)) (by omega))
              clear c2' q2 C2
              go_wp2
              exact bodyPost_ret (v := .tuple #[.agg #[.slice A2 n2 c2], .bool false]) (by simp [results, Try.results51, go_sem, dR]) rfl (MkRB_mk HN.out O4.out B4.out)
            · obtain ⟨rc, hrc⟩ : ∃ rc, rc = recB (insF l nm x) := ⟨_, rfl⟩
              have HC := Lib.hid hrc
              clear hrc
              go_wp2_with fail
              refine (specIsRecord_any A3 q c3 (insF l nm x) rc _ (by unfold maxLen; omega) (Rd.of_own o4) HOKM.out HC.out).mono ?_
              rintro e v2 ⟨rfl, c2'⟩
              have C2 := C1.trans (c2'.mono C1.size)
              replace d0 := kcell c2' d0
              replace dR := kcell c2' dR
              replace fR := kfro c2' (by omega) fR
              replace dB := kcell c2' dB
              replace o4 := own_below o4 c2'
              have hv2 := c2'.size
              clear c2'
              cases rc
              · have HN : Hid ((lr, r) = (l, false)) := Lib.hid (by rw [HR.out, setR_def, HS.out, ← HB.out, ← HC.out]; rfl)
                go_wp2_with fail
                refine (l5Copy_any _ n n l _ (by omega) (ha.below C2)).mono ?_
                rintro e v3 ⟨A2, n2, c2, rfl, q2, c3'⟩
                have C3 := C2.trans (c3'.mono C2.size)
                replace dR := kcell c3' dR
                replace fR := kfro c3' (by omega) fR
                have B4 := Lib.hid (C3.setCell (p := ⟨w.heap.size + 1, 0, none⟩) (by simp) (.slice A2 n2 c2))
                have O4 := Lib.hid (own_base (base' := w.heap.size) (ownsRow_setCell_below q2 (a := ⟨w.heap.size + 1, 0, none⟩) (by show w.heap.size + 1 < v2.heap.size; omega) (.slice A2 n2 c2)) (by omega))
                clear c3' q2 C3
                go_wp2
                exact bodyPost_ret (v := .tuple #[.agg #[.slice A2 n2 c2], .bool false]) (by simp [results, Try.results51, go_sem, dR]) rfl (MkRB_mk HN.out O4.out B4.out)
              · have HN : Hid ((lr, r) = ((insF l nm x), true)) := Lib.hid (by rw [HR.out, setR_def, HS.out, ← HB.out, ← HC.out]; rfl)
                have B4 := Lib.hid (C2.setCell (p := ⟨w.heap.size + 1, 0, none⟩) (by simp) (.slice A3 q c3))
                have O4 := Lib.hid (own_base (base' := w.heap.size) (ownsRow_setCell_below o4 (a := ⟨w.heap.size + 1, 0, none⟩) (by simp) (.slice A3 q c3)) (by omega))
                clear o4 C2 C1
                go_wp2
                exact bodyPost_ret (v := .tuple #[.agg #[.slice A3 q c3], .bool true]) (by simp [results, Try.results51, go_sem, dR]) rfl (MkRB_mk HN.out O4.out B4.out)
        · have i6 : ¬ (c = n) := hcn
          have i7 : (n : Int) ≤ (c : Int) := by omega
          clear hcn
          go_upto_region 7 with fail
          go_cut [] (fun wx => ∃ (A3 : Option Addr) (q c3 : Nat), q ≤ 12582924 ∧ wx.ownsRow (w.heap.size + 2) 91 2 (.slice A3 q c3) q (fl (insF l nm x)) ∧ wx.cell? ⟨w.heap.size, 0, none⟩ = some (.slice (some ⟨b, 0, none⟩) n c) ∧ wx.cell? ⟨w.heap.size + 1, 0, none⟩ = some (.slice none 0 0) ∧ wx.frozen? ⟨w.heap.size + 1, 0, none⟩ = false ∧ wx.cell? ⟨w1.heap.size, 0, none⟩ = some (.slice A3 q c3) ∧ w1.heap.size < wx.heap.size ∧ Below w.heap.size w wx)
          case first =>
            refine wp_region_held_drew (S := fun W => W.cell? ⟨w.heap.size, 0, none⟩ = some (.slice (some ⟨b, 0, none⟩) n c)) (by kernel_rfl) ?_ (fun hHeld => ?_)
            · exact d0
            refine takeD (i := 1) (d := some 51) (v := ?_) _ rfl rfl (by kernel_rfl) (by kernel_rfl) (by kernel_rfl) (fun _ _ _ h => h) (Or.inl ⟨by rfl, ?_⟩) (by assumption) ?_
            rotate_left
            · (intro W hSw; (try dsimp only at hSw); go_simp; try with_reducible rfl)
            try simp only [Act.put, List.setIfInBounds_toArray, List.set_cons_zero, List.set_cons_succ]
            refine takeD (i := 2) (d := some 52) (v := ?_) _ rfl rfl (by kernel_rfl) (by kernel_rfl) (by kernel_rfl) (fun _ _ _ h => h) (Or.inl ⟨by rfl, ?_⟩) (by assumption) ?_
            rotate_left
            · (intro W hSw; (try dsimp only at hSw); go_simp; try with_reducible rfl)
            try simp only [Act.put, List.setIfInBounds_toArray, List.set_cons_zero, List.set_cons_succ]
            refine takeD (i := 3) (d := some 53) (v := ?_) _ rfl rfl (by kernel_rfl) (by kernel_rfl) (by kernel_rfl) (fun _ _ _ h => h) (Or.inl ⟨by rfl, ?_⟩) (by assumption) ?_
            rotate_left
            · (intro W hSw; (try dsimp only at hSw); go_simp; try with_reducible rfl)
            try simp only [Act.put, List.setIfInBounds_toArray, List.set_cons_zero, List.set_cons_succ]
            refine takeD (i := 4) (d := some 54) (v := ?_) _ rfl rfl (by kernel_rfl) (by kernel_rfl) (by kernel_rfl) (fun _ _ _ h => h) (Or.inl ⟨by rfl, ?_⟩) (by assumption) ?_
            rotate_left
            · (intro W hSw; (try dsimp only at hSw); go_simp; try with_reducible rfl)
            try simp only [Act.put, List.setIfInBounds_toArray, List.set_cons_zero, List.set_cons_succ]
            refine takeD (i := 6) (d := some 56) (v := ?_) _ rfl rfl (by kernel_rfl) (by kernel_rfl) (by kernel_rfl) (fun _ _ _ h => h) (Or.inl ⟨by rfl, ?_⟩) (by assumption) ?_
            rotate_left
            · (intro W hSw; (try dsimp only at hSw); go_simp; try with_reducible rfl)
            try simp only [Act.put, List.setIfInBounds_toArray, List.set_cons_zero, List.set_cons_succ]
            refine takeD (i := 7) (d := some 57) (v := ?_) _ rfl rfl (by kernel_rfl) (by kernel_rfl) (by kernel_rfl) (fun _ _ _ h => h) (Or.inl ⟨by rfl, ?_⟩) (by assumption) ?_
            rotate_left
            · (intro W hSw; (try dsimp only at hSw); go_simp; try with_reducible rfl)
            try simp only [Act.put, List.setIfInBounds_toArray, List.set_cons_zero, List.set_cons_succ]
            refine takeD (i := 8) (d := some 58) (v := ?_) _ rfl rfl (by kernel_rfl) (by kernel_rfl) (by kernel_rfl) (fun _ _ _ h => h) (Or.inl ⟨by rfl, ?_⟩) (by assumption) ?_
            rotate_left
            · (intro W hSw; (try dsimp only at hSw); go_simp; try with_reducible rfl)
            try simp only [Act.put, List.setIfInBounds_toArray, List.set_cons_zero, List.set_cons_succ]
            refine takeD (i := 11) (d := some 61) (v := ?_) _ rfl rfl (by kernel_rfl) (by kernel_rfl) (by kernel_rfl) (fun _ _ _ h => h) (Or.inl ⟨by rfl, ?_⟩) (by assumption) ?_
            rotate_left
            · (intro W hSw; (try dsimp only at hSw); go_simp; try with_reducible rfl)
            try simp only [Act.put, List.setIfInBounds_toArray, List.set_cons_zero, List.set_cons_succ]
            refine takeD (i := 12) (d := some 62) (v := ?_) _ rfl rfl (by kernel_rfl) (by kernel_rfl) (by kernel_rfl) (fun _ _ _ h => h) (Or.inl ⟨by rfl, ?_⟩) (by assumption) ?_
            rotate_left
            · (intro W hSw; (try dsimp only at hSw); go_simp; try with_reducible rfl)
            try simp only [Act.put, List.setIfInBounds_toArray, List.set_cons_zero, List.set_cons_succ]
            refine takeD (i := 13) (d := some 63) (v := ?_) _ rfl rfl (by kernel_rfl) (by kernel_rfl) (by kernel_rfl) (fun _ _ _ h => h) (Or.inl ⟨by rfl, ?_⟩) (by assumption) ?_
            rotate_left
            · (intro W hSw; (try dsimp only at hSw); go_simp; try with_reducible rfl)
            try simp only [Act.put, List.setIfInBounds_toArray, List.set_cons_zero, List.set_cons_succ]
            refine takeD (i := 14) (d := some 64) (v := ?_) _ rfl rfl (by kernel_rfl) (by kernel_rfl) (by kernel_rfl) (fun _ _ _ h => h) (Or.inl ⟨by rfl, ?_⟩) (by assumption) ?_
            rotate_left
            · (intro W hSw; (try dsimp only at hSw); go_simp; try with_reducible rfl)
            try simp only [Act.put, List.setIfInBounds_toArray, List.set_cons_zero, List.set_cons_succ]
            refine wpAnyH_ready (rs := [0, 9]) (by kernel_rfl) (by simp) ?_
            refine AllReadyH.cons rfl (fun K hK => ?_) (AllReadyH.cons rfl (fun K hK => ?_) AllReadyH.nil)
            · go_simp
              have a0n : (V.alloc (.cells #[] 91)).ownsRow V.heap.size 91 2 (.slice (some ⟨V.heap.size, 0, none⟩) 0 0) 0 [] := own_newA (by simp) (by have q := (Below.refl V.heap.size V).size; simp at q ⊢ <;> omega)
              have a0b : Below V.heap.size V (V.alloc (.cells #[] 91)) := al (Below.refl _ _)
              refine hK.out _ _ ?_ (fun hHeld => ?_)
              · try dsimp only
                exact kcell (al (o := (.cells #[] 91)) (Below.refl V.heap.size V)) hHeld
              clear hK K
              try simp only [Act.put, List.setIfInBounds_toArray, List.set_cons_zero, List.set_cons_succ]
              refine wpAnyH_ready (rs := [5, 9]) (by kernel_rfl) (by simp) ?_
              refine AllReadyH.cons rfl (fun K hK => ?_) (AllReadyH.cons rfl (fun K hK => ?_) AllReadyH.nil)
              · refine step_catD (by rfl) (some 55) (by rfl) (.tmp 50) (.tmp 54) 26 (by rfl) V.heap.size 91 i0 (.agg #[.string ⟨#[]⟩, .int .i64 0]) 2 24 Try.underlying26 hi hz0 hz1 hz2 rfl (by decide) (some ⟨V.heap.size, 0, none⟩) 0 0 _ (by rfl) (by exact a0n) _ _ _ _ (by rfl) (by exact hRA.out (Below.drew a0b)) HO1.out (by unfold maxLen; omega) (by omega) (by have q := (Below.drew a0b).size; simp at q ⊢ <;> omega) ?_
                intro A1 n1 c1 W5 hn1 e1o e1b e1g
                have hm1 : n1 ≤ 4 * 1048577 := by omega
                clear hn1
                have e1B : Below V.heap.size V W5 := (Below.drew a0b).trans e1b
                refine hK.out _ _ ?_ (fun hHeld => ?_)
                · try dsimp only
                  exact (e1b.cell (p := ⟨w.heap.size, 0, none⟩) (by show w.heap.size < V.heap.size; omega)).trans hHeld
                clear hK K
                try simp only [Act.put, List.setIfInBounds_toArray, List.set_cons_zero, List.set_cons_succ]
                refine wpAnyH_ready (rs := [9]) (by kernel_rfl) (by simp) ?_
                refine AllReadyH.cons rfl (fun K hK => ?_) AllReadyH.nil
                go_simp
                have a9o := own_below e1o (al (o := (.cells #[.string nm, .int .i64 x] 91)) (Below.refl W5.heap.size W5))
                have a9r : Rd (W5.alloc (.cells #[.string nm, .int .i64 x] 91)) 2 (some ⟨W5.heap.size, 0, none⟩) 1 (fl [(nm, x)]) := rd_new2 (by simp)
                have a9b : Below V.heap.size V (W5.alloc (.cells #[.string nm, .int .i64 x] 91)) := al e1B
                refine hK.out _ _ ?_ (fun hHeld => ?_)
                · try dsimp only
                  exact kcell (al (o := (.cells #[.string nm, .int .i64 x] 91)) (Below.refl W5.heap.size W5)) hHeld
                clear hK K
                try simp only [Act.put, List.setIfInBounds_toArray, List.set_cons_zero, List.set_cons_succ]
                refine wpAnyH_ready (rs := [10]) (by kernel_rfl) (by simp) ?_
                refine AllReadyH.cons rfl (fun K hK => ?_) AllReadyH.nil
                refine step_catD (by rfl) (some 60) (by rfl) (.tmp 55) (.tmp 59) 26 (by rfl) V.heap.size 91 i0 (.agg #[.string ⟨#[]⟩, .int .i64 0]) 2 24 Try.underlying26 hi hz0 hz1 hz2 rfl (by decide) A1 n1 c1 _ (by rfl) (by exact a9o) _ 1 _ (fl [(nm, x)]) (by rfl) (by exact a9r) (ones_fl _) (by unfold maxLen; omega) (by omega) (by have q := a9b.size; simp at q ⊢ <;> omega) ?_
                intro A2 n2 c2 W10 hn2 e2o e2b e2g
                have hm2 : n2 ≤ 6 * 1048577 := by omega
                clear hn2
                have e2B : Below V.heap.size V W10 := a9b.trans e2b
                refine hK.out _ _ ?_ (fun hHeld => ?_)
                · try dsimp only
                  exact (e2b.cell (p := ⟨w.heap.size, 0, none⟩) (by show w.heap.size < V.heap.size; omega)).trans hHeld
                clear hK K
                try simp only [Act.put, List.setIfInBounds_toArray, List.set_cons_zero, List.set_cons_succ]
                refine wpAnyH_ready (rs := [15]) (by kernel_rfl) (by simp) ?_
                refine AllReadyH.cons rfl (fun K hK => ?_) AllReadyH.nil
                refine step_catD (by rfl) (some 65) (by rfl) (.tmp 60) (.tmp 64) 26 (by rfl) V.heap.size 91 i0 (.agg #[.string ⟨#[]⟩, .int .i64 0]) 2 24 Try.underlying26 hi hz0 hz1 hz2 rfl (by decide) A2 n2 c2 _ (by rfl) (by exact e2o) _ _ _ _ (by rfl) (by exact hRB.out) HO2.out (by unfold maxLen; omega) (by omega) (by have q := e2B.size; simp at q ⊢ <;> omega) ?_
                intro A3 n3 c3 W15 hn3 e3o e3b e3g
                have hm3 : n3 ≤ 8 * 1048577 := by omega
                clear hn3
                have e3B : Below V.heap.size V W15 := e2B.trans e3b
                have dB15 : W15.cell? ⟨w1.heap.size, 0, none⟩ = some (.slice B n d) := (e3B.cell (p := ⟨w1.heap.size, 0, none⟩) (by show w1.heap.size < V.heap.size; omega)).trans dB
                have fB15 : W15.frozen? ⟨w1.heap.size, 0, none⟩ = false := (e3B.frozen (p := ⟨w1.heap.size, 0, none⟩) (by show w1.heap.size < V.heap.size; omega)).trans fB
                refine hK.out _ _ ?_ (fun hHeld => ?_)
                · try dsimp only
                  exact (e3b.cell (p := ⟨w.heap.size, 0, none⟩) (by show w.heap.size < V.heap.size; omega)).trans hHeld
                clear hK K
                try simp only [Act.put, List.setIfInBounds_toArray, List.set_cons_zero, List.set_cons_succ]
                refine takeD (i := 16) (d := some 66) (v := ?_) _ rfl rfl (by kernel_rfl) (by kernel_rfl) (by kernel_rfl) (fun _ _ _ h => h) (Or.inl ⟨by rfl, ?_⟩) (by assumption) ?_
                rotate_left
                · (intro W hSw; (try dsimp only at hSw); go_simp; try with_reducible rfl)
                try simp only [Act.put, List.setIfInBounds_toArray, List.set_cons_zero, List.set_cons_succ]
                refine wpAnyH_ready (rs := [17]) (by kernel_rfl) (by simp) ?_
                refine AllReadyH.cons rfl (fun K hK => ?_) AllReadyH.nil
                go_simp
                refine hK.out _ _ ?_ (fun hHeld => ?_)
                · try dsimp only
                  exact (World.cell?_setCell_far W15 ⟨w1.heap.size, 0, none⟩ ⟨w.heap.size, 0, none⟩ _ (by show w1.heap.size ≠ w.heap.size; omega)).trans hHeld
                clear hK K
                try simp only [Act.put, List.setIfInBounds_toArray, List.set_cons_zero, List.set_cons_succ]
                refine wpAnyH_done (by kernel_rfl) ?_ _
                have hE := e3o
                rw [HE2.out] at hE
                have hbelZ := hbel.trans (e3B.mono hbel.size)
                have z1 := e3B.size
                go_wp2_with fail
                go_meet
                exact ⟨A3, n3, c3, by omega, own_base (ownsRow_setCell_below hE (a := ⟨w1.heap.size, 0, none⟩) (by show w1.heap.size < V.heap.size; omega) _) (by omega), hHeld, (World.cell?_setCell_far W15 ⟨w1.heap.size, 0, none⟩ ⟨w.heap.size + 1, 0, none⟩ _ (by show w1.heap.size ≠ w.heap.size + 1; omega)).trans ((e3B.cell (p := ⟨w.heap.size + 1, 0, none⟩) (by show w.heap.size + 1 < V.heap.size; omega)).trans dR), by simp [(e3B.frozen (p := ⟨w.heap.size + 1, 0, none⟩) (by show w.heap.size + 1 < V.heap.size; omega)).trans fR], by simp [go_sem, dB15], by simp; omega, hbelZ.setCell (p := ⟨w1.heap.size, 0, none⟩) (by show w.heap.size ≤ w1.heap.size; omega) _⟩
              · go_simp
                have a9o := own_below a0n (al (o := (.cells #[.string nm, .int .i64 x] 91)) (Below.refl (V.alloc (.cells #[] 91)).heap.size (V.alloc (.cells #[] 91))))
                have a9r : Rd ((V.alloc (.cells #[] 91)).alloc (.cells #[.string nm, .int .i64 x] 91)) 2 (some ⟨V.heap.size + 1, 0, none⟩) 1 (fl [(nm, x)]) := rd_new2 (by simp)
                have a9b : Below V.heap.size V ((V.alloc (.cells #[] 91)).alloc (.cells #[.string nm, .int .i64 x] 91)) := al a0b
                refine hK.out _ _ ?_ (fun hHeld => ?_)
                · try dsimp only
                  exact kcell (al (o := (.cells #[.string nm, .int .i64 x] 91)) (Below.refl (V.alloc (.cells #[] 91)).heap.size (V.alloc (.cells #[] 91)))) hHeld
                clear hK K
                try simp only [Act.put, List.setIfInBounds_toArray, List.set_cons_zero, List.set_cons_succ]
                refine wpAnyH_ready (rs := [5]) (by kernel_rfl) (by simp) ?_
                refine AllReadyH.cons rfl (fun K hK => ?_) AllReadyH.nil
                refine step_catD (by rfl) (some 55) (by rfl) (.tmp 50) (.tmp 54) 26 (by rfl) V.heap.size 91 i0 (.agg #[.string ⟨#[]⟩, .int .i64 0]) 2 24 Try.underlying26 hi hz0 hz1 hz2 rfl (by decide) (some ⟨V.heap.size, 0, none⟩) 0 0 _ (by rfl) (by exact a9o) _ _ _ _ (by rfl) (by exact hRA.out (Below.drew a9b)) HO1.out (by unfold maxLen; omega) (by omega) (by have q := (Below.drew a9b).size; simp at q ⊢ <;> omega) ?_
                intro A1 n1 c1 W5 hn1 e1o e1b e1g
                have hm1 : n1 ≤ 4 * 1048577 := by omega
                clear hn1
                have e1r : Rd W5 2 (some ⟨V.heap.size + 1, 0, none⟩) 1 (fl [(nm, x)]) := Rd.grown a9r (grown_drew e1g) (fun ad h => by injection h with h; subst h; simp)
                have e1B : Below V.heap.size V W5 := (Below.drew a9b).trans e1b
                refine hK.out _ _ ?_ (fun hHeld => ?_)
                · try dsimp only
                  exact (e1b.cell (p := ⟨w.heap.size, 0, none⟩) (by show w.heap.size < V.heap.size; omega)).trans hHeld
                clear hK K
                try simp only [Act.put, List.setIfInBounds_toArray, List.set_cons_zero, List.set_cons_succ]
                refine wpAnyH_ready (rs := [10]) (by kernel_rfl) (by simp) ?_
                refine AllReadyH.cons rfl (fun K hK => ?_) AllReadyH.nil
                refine step_catD (by rfl) (some 60) (by rfl) (.tmp 55) (.tmp 59) 26 (by rfl) V.heap.size 91 i0 (.agg #[.string ⟨#[]⟩, .int .i64 0]) 2 24 Try.underlying26 hi hz0 hz1 hz2 rfl (by decide) A1 n1 c1 _ (by rfl) (by exact e1o) _ 1 _ (fl [(nm, x)]) (by rfl) (by exact e1r) (ones_fl _) (by unfold maxLen; omega) (by omega) (by have q := e1B.size; simp at q ⊢ <;> omega) ?_
                intro A2 n2 c2 W10 hn2 e2o e2b e2g
                have hm2 : n2 ≤ 6 * 1048577 := by omega
                clear hn2
                have e2B : Below V.heap.size V W10 := e1B.trans e2b
                refine hK.out _ _ ?_ (fun hHeld => ?_)
                · try dsimp only
                  exact (e2b.cell (p := ⟨w.heap.size, 0, none⟩) (by show w.heap.size < V.heap.size; omega)).trans hHeld
                clear hK K
                try simp only [Act.put, List.setIfInBounds_toArray, List.set_cons_zero, List.set_cons_succ]
                refine wpAnyH_ready (rs := [15]) (by kernel_rfl) (by simp) ?_
                refine AllReadyH.cons rfl (fun K hK => ?_) AllReadyH.nil
                refine step_catD (by rfl) (some 65) (by rfl) (.tmp 60) (.tmp 64) 26 (by rfl) V.heap.size 91 i0 (.agg #[.string ⟨#[]⟩, .int .i64 0]) 2 24 Try.underlying26 hi hz0 hz1 hz2 rfl (by decide) A2 n2 c2 _ (by rfl) (by exact e2o) _ _ _ _ (by rfl) (by exact hRB.out) HO2.out (by unfold maxLen; omega) (by omega) (by have q := e2B.size; simp at q ⊢ <;> omega) ?_
                intro A3 n3 c3 W15 hn3 e3o e3b e3g
                have hm3 : n3 ≤ 8 * 1048577 := by omega
                clear hn3
                have e3B : Below V.heap.size V W15 := e2B.trans e3b
                have dB15 : W15.cell? ⟨w1.heap.size, 0, none⟩ = some (.slice B n d) := (e3B.cell (p := ⟨w1.heap.size, 0, none⟩) (by show w1.heap.size < V.heap.size; omega)).trans dB
                have fB15 : W15.frozen? ⟨w1.heap.size, 0, none⟩ = false := (e3B.frozen (p := ⟨w1.heap.size, 0, none⟩) (by show w1.heap.size < V.heap.size; omega)).trans fB
                refine hK.out _ _ ?_ (fun hHeld => ?_)
                · try dsimp only
                  exact (e3b.cell (p := ⟨w.heap.size, 0, none⟩) (by show w.heap.size < V.heap.size; omega)).trans hHeld
                clear hK K
                try simp only [Act.put, List.setIfInBounds_toArray, List.set_cons_zero, List.set_cons_succ]
                refine takeD (i := 16) (d := some 66) (v := ?_) _ rfl rfl (by kernel_rfl) (by kernel_rfl) (by kernel_rfl) (fun _ _ _ h => h) (Or.inl ⟨by rfl, ?_⟩) (by assumption) ?_
                rotate_left
                · (intro W hSw; (try dsimp only at hSw); go_simp; try with_reducible rfl)
                try simp only [Act.put, List.setIfInBounds_toArray, List.set_cons_zero, List.set_cons_succ]
                refine wpAnyH_ready (rs := [17]) (by kernel_rfl) (by simp) ?_
                refine AllReadyH.cons rfl (fun K hK => ?_) AllReadyH.nil
                go_simp
                refine hK.out _ _ ?_ (fun hHeld => ?_)
                · try dsimp only
                  exact (World.cell?_setCell_far W15 ⟨w1.heap.size, 0, none⟩ ⟨w.heap.size, 0, none⟩ _ (by show w1.heap.size ≠ w.heap.size; omega)).trans hHeld
                clear hK K
                try simp only [Act.put, List.setIfInBounds_toArray, List.set_cons_zero, List.set_cons_succ]
                refine wpAnyH_done (by kernel_rfl) ?_ _
                have hE := e3o
                rw [HE2.out] at hE
                have hbelZ := hbel.trans (e3B.mono hbel.size)
                have z1 := e3B.size
                go_wp2_with fail
                go_meet
                exact ⟨A3, n3, c3, by omega, own_base (ownsRow_setCell_below hE (a := ⟨w1.heap.size, 0, none⟩) (by show w1.heap.size < V.heap.size; omega) _) (by omega), hHeld, (World.cell?_setCell_far W15 ⟨w1.heap.size, 0, none⟩ ⟨w.heap.size + 1, 0, none⟩ _ (by show w1.heap.size ≠ w.heap.size + 1; omega)).trans ((e3B.cell (p := ⟨w.heap.size + 1, 0, none⟩) (by show w.heap.size + 1 < V.heap.size; omega)).trans dR), by simp [(e3B.frozen (p := ⟨w.heap.size + 1, 0, none⟩) (by show w.heap.size + 1 < V.heap.size; omega)).trans fR], by simp [go_sem, dB15], by simp; omega, hbelZ.setCell (p := ⟨w1.heap.size, 0, none⟩) (by show w.heap.size ≤ w1.heap.size; omega) _⟩
            · go_simp
              have a9r : Rd (V.alloc (.cells #[.string nm, .int .i64 x] 91)) 2 (some ⟨V.heap.size, 0, none⟩) 1 (fl [(nm, x)]) := rd_new2 (by simp)
              have a9b : Below V.heap.size V (V.alloc (.cells #[.string nm, .int .i64 x] 91)) := al (Below.refl _ _)
              refine hK.out _ _ ?_ (fun hHeld => ?_)
              · try dsimp only
                exact kcell (al (o := (.cells #[.string nm, .int .i64 x] 91)) (Below.refl V.heap.size V)) hHeld
              clear hK K
              try simp only [Act.put, List.setIfInBounds_toArray, List.set_cons_zero, List.set_cons_succ]
              refine wpAnyH_ready (rs := [0]) (by kernel_rfl) (by simp) ?_
              refine AllReadyH.cons rfl (fun K hK => ?_) AllReadyH.nil
              go_simp
              have a0r := Rd.alloc a9r (.cells #[] 91)
              have a0n : ((V.alloc (.cells #[.string nm, .int .i64 x] 91)).alloc (.cells #[] 91)).ownsRow V.heap.size 91 2 (.slice (some ⟨V.heap.size + 1, 0, none⟩) 0 0) 0 [] := own_newA (by simp) (by have q := a9b.size; simp at q ⊢ <;> omega)
              have a0b : Below V.heap.size V ((V.alloc (.cells #[.string nm, .int .i64 x] 91)).alloc (.cells #[] 91)) := al a9b
              refine hK.out _ _ ?_ (fun hHeld => ?_)
              · try dsimp only
                exact kcell (al (o := (.cells #[] 91)) (Below.refl (V.alloc (.cells #[.string nm, .int .i64 x] 91)).heap.size (V.alloc (.cells #[.string nm, .int .i64 x] 91)))) hHeld
              clear hK K
              try simp only [Act.put, List.setIfInBounds_toArray, List.set_cons_zero, List.set_cons_succ]
              refine wpAnyH_ready (rs := [5]) (by kernel_rfl) (by simp) ?_
              refine AllReadyH.cons rfl (fun K hK => ?_) AllReadyH.nil
              refine step_catD (by rfl) (some 55) (by rfl) (.tmp 50) (.tmp 54) 26 (by rfl) V.heap.size 91 i0 (.agg #[.string ⟨#[]⟩, .int .i64 0]) 2 24 Try.underlying26 hi hz0 hz1 hz2 rfl (by decide) (some ⟨V.heap.size + 1, 0, none⟩) 0 0 _ (by rfl) (by exact a0n) _ _ _ _ (by rfl) (by exact hRA.out (Below.drew a0b)) HO1.out (by unfold maxLen; omega) (by omega) (by have q := (Below.drew a0b).size; simp at q ⊢ <;> omega) ?_
              intro A1 n1 c1 W5 hn1 e1o e1b e1g
              have hm1 : n1 ≤ 4 * 1048577 := by omega
              clear hn1
              have e1r : Rd W5 2 (some ⟨V.heap.size, 0, none⟩) 1 (fl [(nm, x)]) := Rd.grown a0r (grown_drew e1g) (fun ad h => by injection h with h; subst h; simp)
              have e1B : Below V.heap.size V W5 := (Below.drew a0b).trans e1b
              refine hK.out _ _ ?_ (fun hHeld => ?_)
              · try dsimp only
                exact (e1b.cell (p := ⟨w.heap.size, 0, none⟩) (by show w.heap.size < V.heap.size; omega)).trans hHeld
              clear hK K
              try simp only [Act.put, List.setIfInBounds_toArray, List.set_cons_zero, List.set_cons_succ]
              refine wpAnyH_ready (rs := [10]) (by kernel_rfl) (by simp) ?_
              refine AllReadyH.cons rfl (fun K hK => ?_) AllReadyH.nil
              refine step_catD (by rfl) (some 60) (by rfl) (.tmp 55) (.tmp 59) 26 (by rfl) V.heap.size 91 i0 (.agg #[.string ⟨#[]⟩, .int .i64 0]) 2 24 Try.underlying26 hi hz0 hz1 hz2 rfl (by decide) A1 n1 c1 _ (by rfl) (by exact e1o) _ 1 _ (fl [(nm, x)]) (by rfl) (by exact e1r) (ones_fl _) (by unfold maxLen; omega) (by omega) (by have q := e1B.size; simp at q ⊢ <;> omega) ?_
              intro A2 n2 c2 W10 hn2 e2o e2b e2g
              have hm2 : n2 ≤ 6 * 1048577 := by omega
              clear hn2
              have e2B : Below V.heap.size V W10 := e1B.trans e2b
              refine hK.out _ _ ?_ (fun hHeld => ?_)
              · try dsimp only
                exact (e2b.cell (p := ⟨w.heap.size, 0, none⟩) (by show w.heap.size < V.heap.size; omega)).trans hHeld
              clear hK K
              try simp only [Act.put, List.setIfInBounds_toArray, List.set_cons_zero, List.set_cons_succ]
              refine wpAnyH_ready (rs := [15]) (by kernel_rfl) (by simp) ?_
              refine AllReadyH.cons rfl (fun K hK => ?_) AllReadyH.nil
              refine step_catD (by rfl) (some 65) (by rfl) (.tmp 60) (.tmp 64) 26 (by rfl) V.heap.size 91 i0 (.agg #[.string ⟨#[]⟩, .int .i64 0]) 2 24 Try.underlying26 hi hz0 hz1 hz2 rfl (by decide) A2 n2 c2 _ (by rfl) (by exact e2o) _ _ _ _ (by rfl) (by exact hRB.out) HO2.out (by unfold maxLen; omega) (by omega) (by have q := e2B.size; simp at q ⊢ <;> omega) ?_
              intro A3 n3 c3 W15 hn3 e3o e3b e3g
              have hm3 : n3 ≤ 8 * 1048577 := by omega
              clear hn3
              have e3B : Below V.heap.size V W15 := e2B.trans e3b
              have dB15 : W15.cell? ⟨w1.heap.size, 0, none⟩ = some (.slice B n d) := (e3B.cell (p := ⟨w1.heap.size, 0, none⟩) (by show w1.heap.size < V.heap.size; omega)).trans dB
              have fB15 : W15.frozen? ⟨w1.heap.size, 0, none⟩ = false := (e3B.frozen (p := ⟨w1.heap.size, 0, none⟩) (by show w1.heap.size < V.heap.size; omega)).trans fB
              refine hK.out _ _ ?_ (fun hHeld => ?_)
              · try dsimp only
                exact (e3b.cell (p := ⟨w.heap.size, 0, none⟩) (by show w.heap.size < V.heap.size; omega)).trans hHeld
              clear hK K
              try simp only [Act.put, List.setIfInBounds_toArray, List.set_cons_zero, List.set_cons_succ]
              refine takeD (i := 16) (d := some 66) (v := ?_) _ rfl rfl (by kernel_rfl) (by kernel_rfl) (by kernel_rfl) (fun _ _ _ h => h) (Or.inl ⟨by rfl, ?_⟩) (by assumption) ?_
              rotate_left
              · (intro W hSw; (try dsimp only at hSw); go_simp; try with_reducible rfl)
              try simp only [Act.put, List.setIfInBounds_toArray, List.set_cons_zero, List.set_cons_succ]
              refine wpAnyH_ready (rs := [17]) (by kernel_rfl) (by simp) ?_
              refine AllReadyH.cons rfl (fun K hK => ?_) AllReadyH.nil
              go_simp
              refine hK.out _ _ ?_ (fun hHeld => ?_)
              · try dsimp only
                exact (World.cell?_setCell_far W15 ⟨w1.heap.size, 0, none⟩ ⟨w.heap.size, 0, none⟩ _ (by show w1.heap.size ≠ w.heap.size; omega)).trans hHeld
              clear hK K
              try simp only [Act.put, List.setIfInBounds_toArray, List.set_cons_zero, List.set_cons_succ]
              refine wpAnyH_done (by kernel_rfl) ?_ _
              have hE := e3o
              rw [HE2.out] at hE
              have hbelZ := hbel.trans (e3B.mono hbel.size)
              have z1 := e3B.size
              go_wp2_with fail
              go_meet
              exact ⟨A3, n3, c3, by omega, own_base (ownsRow_setCell_below hE (a := ⟨w1.heap.size, 0, none⟩) (by show w1.heap.size < V.heap.size; omega) _) (by omega), hHeld, (World.cell?_setCell_far W15 ⟨w1.heap.size, 0, none⟩ ⟨w.heap.size + 1, 0, none⟩ _ (by show w1.heap.size ≠ w.heap.size + 1; omega)).trans ((e3B.cell (p := ⟨w.heap.size + 1, 0, none⟩) (by show w.heap.size + 1 < V.heap.size; omega)).trans dR), by simp [(e3B.frozen (p := ⟨w.heap.size + 1, 0, none⟩) (by show w.heap.size + 1 < V.heap.size; omega)).trans fR], by simp [go_sem, dB15], by simp; omega, hbelZ.setCell (p := ⟨w1.heap.size, 0, none⟩) (by show w.heap.size ≤ w1.heap.size; omega) _⟩
          case rest =>
            obtain ⟨A3, q, c3, hq, o4, d0, dR, fR, dB, hs4, hbel⟩ := hcut
            obtain ⟨rb, hrb⟩ : ∃ rb, rb = recB l := ⟨_, rfl⟩
            have HB := Lib.hid hrb
            clear hrb
            go_wp2_with fail
            refine (specIsRecord_any _ n c l rb _ (by unfold maxLen; omega) (ha.below hbel) hok HB.out).mono ?_
            rintro e v1 ⟨rfl, c1⟩
            have C1 := hbel.trans (c1.mono hbel.size)
            replace d0 := kcell c1 d0
            replace dR := kcell c1 dR
            replace fR := kfro c1 (by omega) fR
            replace dB := kcell c1 dB
            replace o4 := own_below o4 c1
            have hv1 := c1.size
            clear c1
            cases rb
            · have HN : Hid ((lr, r) = (l, false)) := Lib.hid (by rw [HR.out, setR_def, ← HB.out]; rfl)
              go_wp2_with fail
              refine (l5Copy_any _ n c l _ (by omega) (ha.below C1)).mono ?_
              rintro e v2 ⟨A2, n2, c2, rfl, q2, c2'⟩
              have C2 := C1.trans (c2'.mono C1.size)
              replace dR := kcell c2' dR
              replace fR := kfro c2' (by omega) fR
              have B4 := Lib.hid (C2.setCell (p := ⟨w.heap.size + 1, 0, none⟩) (by simp) (.slice A2 n2 c2))
              have O4 := Lib.hid (own_base (base' := w.heap.size) (ownsRow_setCell_below q2 (a := ⟨w.heap.size + 1, 0, none⟩) (by show w.heap.size + 1 < v1.heap.size; omega) (.slice A2 n2 c2)) (by omega))
              clear c2' q2 C2
              go_wp2
              exact bodyPost_ret (v := .tuple #[.agg #[.slice A2 n2 c2], .bool false]) (by simp [results, Try.results51, go_sem, dR]) rfl (MkRB_mk HN.out O4.out B4.out)
            · obtain ⟨rc, hrc⟩ : ∃ rc, rc = recB (insF l nm x) := ⟨_, rfl⟩
              have HC := Lib.hid hrc
              clear hrc
              go_wp2_with fail
              refine (specIsRecord_any A3 q c3 (insF l nm x) rc _ (by unfold maxLen; omega) (Rd.of_own o4) HOKM.out HC.out).mono ?_
              rintro e v2 ⟨rfl, c2'⟩
              have C2 := C1.trans (c2'.mono C1.size)
              replace d0 := kcell c2' d0
              replace dR := kcell c2' dR
              replace fR := kfro c2' (by omega) fR
              replace dB := kcell c2' dB
              replace o4 := own_below o4 c2'
              have hv2 := c2'.size
              clear c2'
              cases rc
              · have HN : Hid ((lr, r) = (l, false)) := Lib.hid (by rw [HR.out, setR_def, HS.out, ← HB.out, ← HC.out]; rfl)
                go_wp2_with fail
                refine (l5Copy_any _ n c l _ (by omega) (ha.below C2)).mono ?_
                rintro e v3 ⟨A2, n2, c2, rfl, q2, c3'⟩
                have C3 := C2.trans (c3'.mono C2.size)
                replace dR := kcell c3' dR
                replace fR := kfro c3' (by omega) fR
                have B4 := Lib.hid (C3.setCell (p := ⟨w.heap.size + 1, 0, none⟩) (by simp) (.slice A2 n2 c2))
                have O4 := Lib.hid (own_base (base' := w.heap.size) (ownsRow_setCell_below q2 (a := ⟨w.heap.size + 1, 0, none⟩) (by show w.heap.size + 1 < v2.heap.size; omega) (.slice A2 n2 c2)) (by omega))
                clear c3' q2 C3
                go_wp2
                exact bodyPost_ret (v := .tuple #[.agg #[.slice A2 n2 c2], .bool false]) (by simp [results, Try.results51, go_sem, dR]) rfl (MkRB_mk HN.out O4.out B4.out)
              · have HN : Hid ((lr, r) = ((insF l nm x), true)) := Lib.hid (by rw [HR.out, setR_def, HS.out, ← HB.out, ← HC.out]; rfl)
                have B4 := Lib.hid (C2.setCell (p := ⟨w.heap.size + 1, 0, none⟩) (by simp) (.slice A3 q c3))
                have O4 := Lib.hid (own_base (base' := w.heap.size) (ownsRow_setCell_below o4 (a := ⟨w.heap.size + 1, 0, none⟩) (by simp) (.slice A3 q c3)) (by omega))
                clear o4 C2 C1
                go_wp2
                exact bodyPost_ret (v := .tuple #[.agg #[.slice A3 q c3], .bool true]) (by simp [results, Try.results51, go_sem, dR]) rfl (MkRB_mk HN.out O4.out B4.out)
    · have HJ := Lib.hid hjp2
      have HS := Lib.hid hS
      have HOKM := Lib.hid (okF_ins hok HNM.out hx)
      obtain ⟨g, cap, hv, hgb, hglt⟩ := HAO.out.form (by omega)
      obtain ⟨rfl, rfl⟩ : b = g ∧ o = 0 := by injection hv with h1 _ _; injection h1 with h1; injection h1 with h1 h2; exact ⟨h1, h2⟩
      rw [Nat.zero_add] at hc0
      have hRA : Hid (∀ {W : World}, Below V.heap.size V W → Rd W 2 (some ⟨b, 0, none⟩) j ((fl l).take (j * 2))) := Lib.hid (fun hb => ((ha.below hbel).below hb).head (by omega))
      have hRB : Hid (∀ {W : World}, Below V.heap.size V W → Rd W 2 (some ⟨b, j * 2, none⟩) (n - j) ((fl l).drop (j * 2))) := Lib.hid (fun hb => own_tail (own_below (own_belowW HAO.out hbel) hb) (by omega) (fun _ => rfl))
      have HO1 : Hid (∀ u ∈ (fl l).take (j * 2), u.oneCell' = true) := Lib.hid (fun u hu => ones_fl l u (List.mem_of_mem_take hu))
      have HO2 : Hid (∀ u ∈ (fl l).drop (j * 2), u.oneCell' = true) := Lib.hid (fun u hu => ones_fl l u (List.mem_of_mem_drop hu))
      have HE2 : Hid ([] ++ (fl l).take (j * 2) ++ fl [(nm, x)] ++ (fl l).drop (j * 2) = fl (insF l nm x)) := Lib.hid (by unfold insF; rw [← HJ.out, fl_ins]; simp)
      have i3 : (j : Int) < (n : Int) := by omega
      have i4 : (j : Int) ≤ (c : Int) := by omega
      have i5 : (j : Int) ≤ (n : Int) := by omega
      have i6 : ¬ (c = j) := by omega
      have i7 : (n : Int) ≤ (c : Int) := by omega
      clear hjp2 hjp hS hx2 hv
      go_upto_region 7 with fail
      go_cut [] (fun wx => ∃ (A3 : Option Addr) (q c3 : Nat), q ≤ 12582924 ∧ wx.ownsRow (w.heap.size + 2) 91 2 (.slice A3 q c3) q (fl (insF l nm x)) ∧ wx.cell? ⟨w.heap.size, 0, none⟩ = some (.slice (some ⟨b, 0, none⟩) n c) ∧ wx.cell? ⟨w.heap.size + 1, 0, none⟩ = some (.slice none 0 0) ∧ wx.frozen? ⟨w.heap.size + 1, 0, none⟩ = false ∧ wx.cell? ⟨w1.heap.size, 0, none⟩ = some (.slice A3 q c3) ∧ w1.heap.size < wx.heap.size ∧ Below w.heap.size w wx)
      case first =>
        refine wp_region_held_drew (S := fun W => W.cell? ⟨w.heap.size, 0, none⟩ = some (.slice (some ⟨b, 0, none⟩) n c)) (by kernel_rfl) ?_ (fun hHeld => ?_)
        · exact d0
        refine takeD (i := 1) (d := some 51) (v := ?_) _ rfl rfl (by kernel_rfl) (by kernel_rfl) (by kernel_rfl) (fun _ _ _ h => h) (Or.inl ⟨by rfl, ?_⟩) (by assumption) ?_
        rotate_left
        · (intro W hSw; (try dsimp only at hSw); go_simp; try with_reducible rfl)
        try simp only [Act.put, List.setIfInBounds_toArray, List.set_cons_zero, List.set_cons_succ]
        refine takeD (i := 2) (d := some 52) (v := ?_) _ rfl rfl (by kernel_rfl) (by kernel_rfl) (by kernel_rfl) (fun _ _ _ h => h) (Or.inl ⟨by rfl, ?_⟩) (by assumption) ?_
        rotate_left
        · (intro W hSw; (try dsimp only at hSw); go_simp; try with_reducible rfl)
        try simp only [Act.put, List.setIfInBounds_toArray, List.set_cons_zero, List.set_cons_succ]
        refine takeD (i := 3) (d := some 53) (v := ?_) _ rfl rfl (by kernel_rfl) (by kernel_rfl) (by kernel_rfl) (fun _ _ _ h => h) (Or.inl ⟨by rfl, ?_⟩) (by assumption) ?_
        rotate_left
        · (intro W hSw; (try dsimp only at hSw); go_simp; try with_reducible rfl)
        try simp only [Act.put, List.setIfInBounds_toArray, List.set_cons_zero, List.set_cons_succ]
        refine takeD (i := 4) (d := some 54) (v := ?_) _ rfl rfl (by kernel_rfl) (by kernel_rfl) (by kernel_rfl) (fun _ _ _ h => h) (Or.inl ⟨by rfl, ?_⟩) (by assumption) ?_
        rotate_left
        · (intro W hSw; (try dsimp only at hSw); go_simp; try with_reducible rfl)
        try simp only [Act.put, List.setIfInBounds_toArray, List.set_cons_zero, List.set_cons_succ]
        refine takeD (i := 6) (d := some 56) (v := ?_) _ rfl rfl (by kernel_rfl) (by kernel_rfl) (by kernel_rfl) (fun _ _ _ h => h) (Or.inl ⟨by rfl, ?_⟩) (by assumption) ?_
        rotate_left
        · (intro W hSw; (try dsimp only at hSw); go_simp; try with_reducible rfl)
        try simp only [Act.put, List.setIfInBounds_toArray, List.set_cons_zero, List.set_cons_succ]
        refine takeD (i := 7) (d := some 57) (v := ?_) _ rfl rfl (by kernel_rfl) (by kernel_rfl) (by kernel_rfl) (fun _ _ _ h => h) (Or.inl ⟨by rfl, ?_⟩) (by assumption) ?_
        rotate_left
        · (intro W hSw; (try dsimp only at hSw); go_simp; try with_reducible rfl)
        try simp only [Act.put, List.setIfInBounds_toArray, List.set_cons_zero, List.set_cons_succ]
        refine takeD (i := 8) (d := some 58) (v := ?_) _ rfl rfl (by kernel_rfl) (by kernel_rfl) (by kernel_rfl) (fun _ _ _ h => h) (Or.inl ⟨by rfl, ?_⟩) (by assumption) ?_
        rotate_left
        · (intro W hSw; (try dsimp only at hSw); go_simp; try with_reducible rfl)
        try simp only [Act.put, List.setIfInBounds_toArray, List.set_cons_zero, List.set_cons_succ]
        refine takeD (i := 11) (d := some 61) (v := ?_) _ rfl rfl (by kernel_rfl) (by kernel_rfl) (by kernel_rfl) (fun _ _ _ h => h) (Or.inl ⟨by rfl, ?_⟩) (by assumption) ?_
        rotate_left
        · (intro W hSw; (try dsimp only at hSw); go_simp; try with_reducible rfl)
        try simp only [Act.put, List.setIfInBounds_toArray, List.set_cons_zero, List.set_cons_succ]
        refine takeD (i := 12) (d := some 62) (v := ?_) _ rfl rfl (by kernel_rfl) (by kernel_rfl) (by kernel_rfl) (fun _ _ _ h => h) (Or.inl ⟨by rfl, ?_⟩) (by assumption) ?_
        rotate_left
        · (intro W hSw; (try dsimp only at hSw); go_simp; try with_reducible rfl)
        try simp only [Act.put, List.setIfInBounds_toArray, List.set_cons_zero, List.set_cons_succ]
        refine takeD (i := 13) (d := some 63) (v := ?_) _ rfl rfl (by kernel_rfl) (by kernel_rfl) (by kernel_rfl) (fun _ _ _ h => h) (Or.inl ⟨by rfl, ?_⟩) (by assumption) ?_
        rotate_left
        · (intro W hSw; (try dsimp only at hSw); go_simp; try with_reducible rfl)
        try simp only [Act.put, List.setIfInBounds_toArray, List.set_cons_zero, List.set_cons_succ]
        refine takeD (i := 14) (d := some 64) (v := ?_) _ rfl rfl (by kernel_rfl) (by kernel_rfl) (by kernel_rfl) (fun _ _ _ h => h) (Or.inl ⟨by rfl, ?_⟩) (by assumption) ?_
        rotate_left
        · (intro W hSw; (try dsimp only at hSw); go_simp; try with_reducible rfl)
        try simp only [Act.put, List.setIfInBounds_toArray, List.set_cons_zero, List.set_cons_succ]
        refine wpAnyH_ready (rs := [0, 9]) (by kernel_rfl) (by simp) ?_
        refine AllReadyH.cons rfl (fun K hK => ?_) (AllReadyH.cons rfl (fun K hK => ?_) AllReadyH.nil)
        · go_simp
          have a0n : (V.alloc (.cells #[] 91)).ownsRow V.heap.size 91 2 (.slice (some ⟨V.heap.size, 0, none⟩) 0 0) 0 [] := own_newA (by simp) (by have q := (Below.refl V.heap.size V).size; simp at q ⊢ <;> omega)
          have a0b : Below V.heap.size V (V.alloc (.cells #[] 91)) := al (Below.refl _ _)
          refine hK.out _ _ ?_ (fun hHeld => ?_)
          · try dsimp only
            exact kcell (al (o := (.cells #[] 91)) (Below.refl V.heap.size V)) hHeld
          clear hK K
          try simp only [Act.put, List.setIfInBounds_toArray, List.set_cons_zero, List.set_cons_succ]
          refine wpAnyH_ready (rs := [5, 9]) (by kernel_rfl) (by simp) ?_
          refine AllReadyH.cons rfl (fun K hK => ?_) (AllReadyH.cons rfl (fun K hK => ?_) AllReadyH.nil)
          · refine step_catD (by rfl) (some 55) (by rfl) (.tmp 50) (.tmp 54) 26 (by rfl) V.heap.size 91 i0 (.agg #[.string ⟨#[]⟩, .int .i64 0]) 2 24 Try.underlying26 hi hz0 hz1 hz2 rfl (by decide) (some ⟨V.heap.size, 0, none⟩) 0 0 _ (by rfl) (by exact a0n) _ _ _ _ (by rfl) (by exact hRA.out (Below.drew a0b)) HO1.out (by unfold maxLen; omega) (by omega) (by have q := (Below.drew a0b).size; simp at q ⊢ <;> omega) ?_
            intro A1 n1 c1 W5 hn1 e1o e1b e1g
            have hm1 : n1 ≤ 4 * 1048577 := by omega
            clear hn1
            have e1B : Below V.heap.size V W5 := (Below.drew a0b).trans e1b
            refine hK.out _ _ ?_ (fun hHeld => ?_)
            · try dsimp only
              exact (e1b.cell (p := ⟨w.heap.size, 0, none⟩) (by show w.heap.size < V.heap.size; omega)).trans hHeld
            clear hK K
            try simp only [Act.put, List.setIfInBounds_toArray, List.set_cons_zero, List.set_cons_succ]
            refine wpAnyH_ready (rs := [9]) (by kernel_rfl) (by simp) ?_
            refine AllReadyH.cons rfl (fun K hK => ?_) AllReadyH.nil
            go_simp
            have a9o := own_below e1o (al (o := (.cells #[.string nm, .int .i64 x] 91)) (Below.refl W5.heap.size W5))
            have a9r : Rd (W5.alloc (.cells #[.string nm, .int .i64 x] 91)) 2 (some ⟨W5.heap.size, 0, none⟩) 1 (fl [(nm, x)]) := rd_new2 (by simp)
            have a9b : Below V.heap.size V (W5.alloc (.cells #[.string nm, .int .i64 x] 91)) := al e1B
            refine hK.out _ _ ?_ (fun hHeld => ?_)
            · try dsimp only
              exact kcell (al (o := (.cells #[.string nm, .int .i64 x] 91)) (Below.refl W5.heap.size W5)) hHeld
            clear hK K
            try simp only [Act.put, List.setIfInBounds_toArray, List.set_cons_zero, List.set_cons_succ]
            refine wpAnyH_ready (rs := [10]) (by kernel_rfl) (by simp) ?_
            refine AllReadyH.cons rfl (fun K hK => ?_) AllReadyH.nil
            refine step_catD (by rfl) (some 60) (by rfl) (.tmp 55) (.tmp 59) 26 (by rfl) V.heap.size 91 i0 (.agg #[.string ⟨#[]⟩, .int .i64 0]) 2 24 Try.underlying26 hi hz0 hz1 hz2 rfl (by decide) A1 n1 c1 _ (by rfl) (by exact a9o) _ 1 _ (fl [(nm, x)]) (by rfl) (by exact a9r) (ones_fl _) (by unfold maxLen; omega) (by omega) (by have q := a9b.size; simp at q ⊢ <;> omega) ?_
            intro A2 n2 c2 W10 hn2 e2o e2b e2g
            have hm2 : n2 ≤ 6 * 1048577 := by omega
            clear hn2
            have e2B : Below V.heap.size V W10 := a9b.trans e2b
            refine hK.out _ _ ?_ (fun hHeld => ?_)
            · try dsimp only
              exact (e2b.cell (p := ⟨w.heap.size, 0, none⟩) (by show w.heap.size < V.heap.size; omega)).trans hHeld
            clear hK K
            try simp only [Act.put, List.setIfInBounds_toArray, List.set_cons_zero, List.set_cons_succ]
            refine wpAnyH_ready (rs := [15]) (by kernel_rfl) (by simp) ?_
            refine AllReadyH.cons rfl (fun K hK => ?_) AllReadyH.nil
            refine step_catD (by rfl) (some 65) (by rfl) (.tmp 60) (.tmp 64) 26 (by rfl) V.heap.size 91 i0 (.agg #[.string ⟨#[]⟩, .int .i64 0]) 2 24 Try.underlying26 hi hz0 hz1 hz2 rfl (by decide) A2 n2 c2 _ (by rfl) (by exact e2o) _ _ _ _ (by rfl) (by exact hRB.out e2B) HO2.out (by unfold maxLen; omega) (by omega) (by have q := e2B.size; simp at q ⊢ <;> omega) ?_
            intro A3 n3 c3 W15 hn3 e3o e3b e3g
            have hm3 : n3 ≤ 8 * 1048577 := by omega
            clear hn3
            have e3B : Below V.heap.size V W15 := e2B.trans e3b
            have dB15 : W15.cell? ⟨w1.heap.size, 0, none⟩ = some (.slice B n d) := (e3B.cell (p := ⟨w1.heap.size, 0, none⟩) (by show w1.heap.size < V.heap.size; omega)).trans dB
            have fB15 : W15.frozen? ⟨w1.heap.size, 0, none⟩ = false := (e3B.frozen (p := ⟨w1.heap.size, 0, none⟩) (by show w1.heap.size < V.heap.size; omega)).trans fB
            refine hK.out _ _ ?_ (fun hHeld => ?_)
            · try dsimp only
              exact (e3b.cell (p := ⟨w.heap.size, 0, none⟩) (by show w.heap.size < V.heap.size; omega)).trans hHeld
            clear hK K
            try simp only [Act.put, List.setIfInBounds_toArray, List.set_cons_zero, List.set_cons_succ]
            refine takeD (i := 16) (d := some 66) (v := ?_) _ rfl rfl (by kernel_rfl) (by kernel_rfl) (by kernel_rfl) (fun _ _ _ h => h) (Or.inl ⟨by rfl, ?_⟩) (by assumption) ?_
            rotate_left
            · (intro W hSw; (try dsimp only at hSw); go_simp; try with_reducible rfl)
            try simp only [Act.put, List.setIfInBounds_toArray, List.set_cons_zero, List.set_cons_succ]
            refine wpAnyH_ready (rs := [17]) (by kernel_rfl) (by simp) ?_
            refine AllReadyH.cons rfl (fun K hK => ?_) AllReadyH.nil
            go_simp
            refine hK.out _ _ ?_ (fun hHeld => ?_)
            · try dsimp only
              exact (World.cell?_setCell_far W15 ⟨w1.heap.size, 0, none⟩ ⟨w.heap.size, 0, none⟩ _ (by show w1.heap.size ≠ w.heap.size; omega)).trans hHeld
            clear hK K
            try simp only [Act.put, List.setIfInBounds_toArray, List.set_cons_zero, List.set_cons_succ]
            refine wpAnyH_done (by kernel_rfl) ?_ _
            have hE := e3o
            rw [HE2.out] at hE
            have hbelZ := hbel.trans (e3B.mono hbel.size)
            have z1 := e3B.size
            go_wp2_with fail
            go_meet
            exact ⟨A3, n3, c3, by omega, own_base (ownsRow_setCell_below hE (a := ⟨w1.heap.size, 0, none⟩) (by show w1.heap.size < V.heap.size; omega) _) (by omega), hHeld, (World.cell?_setCell_far W15 ⟨w1.heap.size, 0, none⟩ ⟨w.heap.size + 1, 0, none⟩ _ (by show w1.heap.size ≠ w.heap.size + 1; omega)).trans ((e3B.cell (p := ⟨w.heap.size + 1, 0, none⟩) (by show w.heap.size + 1 < V.heap.size; omega)).trans dR), by simp [(e3B.frozen (p := ⟨w.heap.size + 1, 0, none⟩) (by show w.heap.size + 1 < V.heap.size; omega)).trans fR], by simp [go_sem, dB15], by simp; omega, hbelZ.setCell (p := ⟨w1.heap.size, 0, none⟩) (by show w.heap.size ≤ w1.heap.size; omega) _⟩
          · go_simp
            have a9o := own_below a0n (al (o := (.cells #[.string nm, .int .i64 x] 91)) (Below.refl (V.alloc (.cells #[] 91)).heap.size (V.alloc (.cells #[] 91))))
            have a9r : Rd ((V.alloc (.cells #[] 91)).alloc (.cells #[.string nm, .int .i64 x] 91)) 2 (some ⟨V.heap.size + 1, 0, none⟩) 1 (fl [(nm, x)]) := rd_new2 (by simp)
            have a9b : Below V.heap.size V ((V.alloc (.cells #[] 91)).alloc (.cells #[.string nm, .int .i64 x] 91)) := al a0b
            refine hK.out _ _ ?_ (fun hHeld => ?_)
            · try dsimp only
              exact kcell (al (o := (.cells #[.string nm, .int .i64 x] 91)) (Below.refl (V.alloc (.cells #[] 91)).heap.size (V.alloc (.cells #[] 91)))) hHeld
            clear hK K
            try simp only [Act.put, List.setIfInBounds_toArray, List.set_cons_zero, List.set_cons_succ]
            refine wpAnyH_ready (rs := [5]) (by kernel_rfl) (by simp) ?_
            refine AllReadyH.cons rfl (fun K hK => ?_) AllReadyH.nil
            refine step_catD (by rfl) (some 55) (by rfl) (.tmp 50) (.tmp 54) 26 (by rfl) V.heap.size 91 i0 (.agg #[.string ⟨#[]⟩, .int .i64 0]) 2 24 Try.underlying26 hi hz0 hz1 hz2 rfl (by decide) (some ⟨V.heap.size, 0, none⟩) 0 0 _ (by rfl) (by exact a9o) _ _ _ _ (by rfl) (by exact hRA.out (Below.drew a9b)) HO1.out (by unfold maxLen; omega) (by omega) (by have q := (Below.drew a9b).size; simp at q ⊢ <;> omega) ?_
            intro A1 n1 c1 W5 hn1 e1o e1b e1g
            have hm1 : n1 ≤ 4 * 1048577 := by omega
            clear hn1
            have e1r : Rd W5 2 (some ⟨V.heap.size + 1, 0, none⟩) 1 (fl [(nm, x)]) := Rd.grown a9r (grown_drew e1g) (fun ad h => by injection h with h; subst h; simp)
            have e1B : Below V.heap.size V W5 := (Below.drew a9b).trans e1b
            refine hK.out _ _ ?_ (fun hHeld => ?_)
            · try dsimp only
              exact (e1b.cell (p := ⟨w.heap.size, 0, none⟩) (by show w.heap.size < V.heap.size; omega)).trans hHeld
            clear hK K
            try simp only [Act.put, List.setIfInBounds_toArray, List.set_cons_zero, List.set_cons_succ]
            refine wpAnyH_ready (rs := [10]) (by kernel_rfl) (by simp) ?_
            refine AllReadyH.cons rfl (fun K hK => ?_) AllReadyH.nil
            refine step_catD (by rfl) (some 60) (by rfl) (.tmp 55) (.tmp 59) 26 (by rfl) V.heap.size 91 i0 (.agg #[.string ⟨#[]⟩, .int .i64 0]) 2 24 Try.underlying26 hi hz0 hz1 hz2 rfl (by decide) A1 n1 c1 _ (by rfl) (by exact e1o) _ 1 _ (fl [(nm, x)]) (by rfl) (by exact e1r) (ones_fl _) (by unfold maxLen; omega) (by omega) (by have q := e1B.size; simp at q ⊢ <;> omega) ?_
            intro A2 n2 c2 W10 hn2 e2o e2b e2g
            have hm2 : n2 ≤ 6 * 1048577 := by omega
            clear hn2
            have e2B : Below V.heap.size V W10 := e1B.trans e2b
            refine hK.out _ _ ?_ (fun hHeld => ?_)
            · try dsimp only
              exact (e2b.cell (p := ⟨w.heap.size, 0, none⟩) (by show w.heap.size < V.heap.size; omega)).trans hHeld
            clear hK K
            try simp only [Act.put, List.setIfInBounds_toArray, List.set_cons_zero, List.set_cons_succ]
            refine wpAnyH_ready (rs := [15]) (by kernel_rfl) (by simp) ?_
            refine AllReadyH.cons rfl (fun K hK => ?_) AllReadyH.nil
            refine step_catD (by rfl) (some 65) (by rfl) (.tmp 60) (.tmp 64) 26 (by rfl) V.heap.size 91 i0 (.agg #[.string ⟨#[]⟩, .int .i64 0]) 2 24 Try.underlying26 hi hz0 hz1 hz2 rfl (by decide) A2 n2 c2 _ (by rfl) (by exact e2o) _ _ _ _ (by rfl) (by exact hRB.out e2B) HO2.out (by unfold maxLen; omega) (by omega) (by have q := e2B.size; simp at q ⊢ <;> omega) ?_
            intro A3 n3 c3 W15 hn3 e3o e3b e3g
            have hm3 : n3 ≤ 8 * 1048577 := by omega
            clear hn3
            have e3B : Below V.heap.size V W15 := e2B.trans e3b
            have dB15 : W15.cell? ⟨w1.heap.size, 0, none⟩ = some (.slice B n d) := (e3B.cell (p := ⟨w1.heap.size, 0, none⟩) (by show w1.heap.size < V.heap.size; omega)).trans dB
            have fB15 : W15.frozen? ⟨w1.heap.size, 0, none⟩ = false := (e3B.frozen (p := ⟨w1.heap.size, 0, none⟩) (by show w1.heap.size < V.heap.size; omega)).trans fB
            refine hK.out _ _ ?_ (fun hHeld => ?_)
            · try dsimp only
              exact (e3b.cell (p := ⟨w.heap.size, 0, none⟩) (by show w.heap.size < V.heap.size; omega)).trans hHeld
            clear hK K
            try simp only [Act.put, List.setIfInBounds_toArray, List.set_cons_zero, List.set_cons_succ]
            refine takeD (i := 16) (d := some 66) (v := ?_) _ rfl rfl (by kernel_rfl) (by kernel_rfl) (by kernel_rfl) (fun _ _ _ h => h) (Or.inl ⟨by rfl, ?_⟩) (by assumption) ?_
            rotate_left
            · (intro W hSw; (try dsimp only at hSw); go_simp; try with_reducible rfl)
            try simp only [Act.put, List.setIfInBounds_toArray, List.set_cons_zero, List.set_cons_succ]
            refine wpAnyH_ready (rs := [17]) (by kernel_rfl) (by simp) ?_
            refine AllReadyH.cons rfl (fun K hK => ?_) AllReadyH.nil
            go_simp
            refine hK.out _ _ ?_ (fun hHeld => ?_)
            · try dsimp only
              exact (World.cell?_setCell_far W15 ⟨w1.heap.size, 0, none⟩ ⟨w.heap.size, 0, none⟩ _ (by show w1.heap.size ≠ w.heap.size; omega)).trans hHeld
            clear hK K
            try simp only [Act.put, List.setIfInBounds_toArray, List.set_cons_zero, List.set_cons_succ]
            refine wpAnyH_done (by kernel_rfl) ?_ _
            have hE := e3o
            rw [HE2.out] at hE
            have hbelZ := hbel.trans (e3B.mono hbel.size)
            have z1 := e3B.size
            go_wp2_with fail
            go_meet
            exact ⟨A3, n3, c3, by omega, own_base (ownsRow_setCell_below hE (a := ⟨w1.heap.size, 0, none⟩) (by show w1.heap.size < V.heap.size; omega) _) (by omega), hHeld, (World.cell?_setCell_far W15 ⟨w1.heap.size, 0, none⟩ ⟨w.heap.size + 1, 0, none⟩ _ (by show w1.heap.size ≠ w.heap.size + 1; omega)).trans ((e3B.cell (p := ⟨w.heap.size + 1, 0, none⟩) (by show w.heap.size + 1 < V.heap.size; omega)).trans dR), by simp [(e3B.frozen (p := ⟨w.heap.size + 1, 0, none⟩) (by show w.heap.size + 1 < V.heap.size; omega)).trans fR], by simp [go_sem, dB15], by simp; omega, hbelZ.setCell (p := ⟨w1.heap.size, 0, none⟩) (by show w.heap.size ≤ w1.heap.size; omega) _⟩
        · go_simp
          have a9r : Rd (V.alloc (.cells #[.string nm, .int .i64 x] 91)) 2 (some ⟨V.heap.size, 0, none⟩) 1 (fl [(nm, x)]) := rd_new2 (by simp)
          have a9b : Below V.heap.size V (V.alloc (.cells #[.string nm, .int .i64 x] 91)) := al (Below.refl _ _)
          refine hK.out _ _ ?_ (fun hHeld => ?_)
          · try dsimp only
            exact kcell (al (o := (.cells #[.string nm, .int .i64 x] 91)) (Below.refl V.heap.size V)) hHeld
          clear hK K
          try simp only [Act.put, List.setIfInBounds_toArray, List.set_cons_zero, List.set_cons_succ]
          refine wpAnyH_ready (rs := [0]) (by kernel_rfl) (by simp) ?_
          refine AllReadyH.cons rfl (fun K hK => ?_) AllReadyH.nil
          go_simp
          have a0r := Rd.alloc a9r (.cells #[] 91)
          have a0n : ((V.alloc (.cells #[.string nm, .int .i64 x] 91)).alloc (.cells #[] 91)).ownsRow V.heap.size 91 2 (.slice (some ⟨V.heap.size + 1, 0, none⟩) 0 0) 0 [] := own_newA (by simp) (by have q := a9b.size; simp at q ⊢ <;> omega)
          have a0b : Below V.heap.size V ((V.alloc (.cells #[.string nm, .int .i64 x] 91)).alloc (.cells #[] 91)) := al a9b
          refine hK.out _ _ ?_ (fun hHeld => ?_)
          · try dsimp only
            exact kcell (al (o := (.cells #[] 91)) (Below.refl (V.alloc (.cells #[.string nm, .int .i64 x] 91)).heap.size (V.alloc (.cells #[.string nm, .int .i64 x] 91)))) hHeld
          clear hK K
          try simp only [Act.put, List.setIfInBounds_toArray, List.set_cons_zero, List.set_cons_succ]
          refine wpAnyH_ready (rs := [5]) (by kernel_rfl) (by simp) ?_
          refine AllReadyH.cons rfl (fun K hK => ?_) AllReadyH.nil
          refine step_catD (by rfl) (some 55) (by rfl) (.tmp 50) (.tmp 54) 26 (by rfl) V.heap.size 91 i0 (.agg #[.string ⟨#[]⟩, .int .i64 0]) 2 24 Try.underlying26 hi hz0 hz1 hz2 rfl (by decide) (some ⟨V.heap.size + 1, 0, none⟩) 0 0 _ (by rfl) (by exact a0n) _ _ _ _ (by rfl) (by exact hRA.out (Below.drew a0b)) HO1.out (by unfold maxLen; omega) (by omega) (by have q := (Below.drew a0b).size; simp at q ⊢ <;> omega) ?_
          intro A1 n1 c1 W5 hn1 e1o e1b e1g
          have hm1 : n1 ≤ 4 * 1048577 := by omega
          clear hn1
          have e1r : Rd W5 2 (some ⟨V.heap.size, 0, none⟩) 1 (fl [(nm, x)]) := Rd.grown a0r (grown_drew e1g) (fun ad h => by injection h with h; subst h; simp)
          have e1B : Below V.heap.size V W5 := (Below.drew a0b).trans e1b
          refine hK.out _ _ ?_ (fun hHeld => ?_)
          · try dsimp only
            exact (e1b.cell (p := ⟨w.heap.size, 0, none⟩) (by show w.heap.size < V.heap.size; omega)).trans hHeld
          clear hK K
          try simp only [Act.put, List.setIfInBounds_toArray, List.set_cons_zero, List.set_cons_succ]
          refine wpAnyH_ready (rs := [10]) (by kernel_rfl) (by simp) ?_
          refine AllReadyH.cons rfl (fun K hK => ?_) AllReadyH.nil
          refine step_catD (by rfl) (some 60) (by rfl) (.tmp 55) (.tmp 59) 26 (by rfl) V.heap.size 91 i0 (.agg #[.string ⟨#[]⟩, .int .i64 0]) 2 24 Try.underlying26 hi hz0 hz1 hz2 rfl (by decide) A1 n1 c1 _ (by rfl) (by exact e1o) _ 1 _ (fl [(nm, x)]) (by rfl) (by exact e1r) (ones_fl _) (by unfold maxLen; omega) (by omega) (by have q := e1B.size; simp at q ⊢ <;> omega) ?_
          intro A2 n2 c2 W10 hn2 e2o e2b e2g
          have hm2 : n2 ≤ 6 * 1048577 := by omega
          clear hn2
          have e2B : Below V.heap.size V W10 := e1B.trans e2b
          refine hK.out _ _ ?_ (fun hHeld => ?_)
          · try dsimp only
            exact (e2b.cell (p := ⟨w.heap.size, 0, none⟩) (by show w.heap.size < V.heap.size; omega)).trans hHeld
          clear hK K
          try simp only [Act.put, List.setIfInBounds_toArray, List.set_cons_zero, List.set_cons_succ]
          refine wpAnyH_ready (rs := [15]) (by kernel_rfl) (by simp) ?_
          refine AllReadyH.cons rfl (fun K hK => ?_) AllReadyH.nil
          refine step_catD (by rfl) (some 65) (by rfl) (.tmp 60) (.tmp 64) 26 (by rfl) V.heap.size 91 i0 (.agg #[.string ⟨#[]⟩, .int .i64 0]) 2 24 Try.underlying26 hi hz0 hz1 hz2 rfl (by decide) A2 n2 c2 _ (by rfl) (by exact e2o) _ _ _ _ (by rfl) (by exact hRB.out e2B) HO2.out (by unfold maxLen; omega) (by omega) (by have q := e2B.size; simp at q ⊢ <;> omega) ?_
          intro A3 n3 c3 W15 hn3 e3o e3b e3g
          have hm3 : n3 ≤ 8 * 1048577 := by omega
          clear hn3
          have e3B : Below V.heap.size V W15 := e2B.trans e3b
          have dB15 : W15.cell? ⟨w1.heap.size, 0, none⟩ = some (.slice B n d) := (e3B.cell (p := ⟨w1.heap.size, 0, none⟩) (by show w1.heap.size < V.heap.size; omega)).trans dB
          have fB15 : W15.frozen? ⟨w1.heap.size, 0, none⟩ = false := (e3B.frozen (p := ⟨w1.heap.size, 0, none⟩) (by show w1.heap.size < V.heap.size; omega)).trans fB
          refine hK.out _ _ ?_ (fun hHeld => ?_)
          · try dsimp only
            exact (e3b.cell (p := ⟨w.heap.size, 0, none⟩) (by show w.heap.size < V.heap.size; omega)).trans hHeld
          clear hK K
          try simp only [Act.put, List.setIfInBounds_toArray, List.set_cons_zero, List.set_cons_succ]
          refine takeD (i := 16) (d := some 66) (v := ?_) _ rfl rfl (by kernel_rfl) (by kernel_rfl) (by kernel_rfl) (fun _ _ _ h => h) (Or.inl ⟨by rfl, ?_⟩) (by assumption) ?_
          rotate_left
          · (intro W hSw; (try dsimp only at hSw); go_simp; try with_reducible rfl)
          try simp only [Act.put, List.setIfInBounds_toArray, List.set_cons_zero, List.set_cons_succ]
          refine wpAnyH_ready (rs := [17]) (by kernel_rfl) (by simp) ?_
          refine AllReadyH.cons rfl (fun K hK => ?_) AllReadyH.nil
          go_simp
          refine hK.out _ _ ?_ (fun hHeld => ?_)
          · try dsimp only
            exact (World.cell?_setCell_far W15 ⟨w1.heap.size, 0, none⟩ ⟨w.heap.size, 0, none⟩ _ (by show w1.heap.size ≠ w.heap.size; omega)).trans hHeld
          clear hK K
          try simp only [Act.put, List.setIfInBounds_toArray, List.set_cons_zero, List.set_cons_succ]
          refine wpAnyH_done (by kernel_rfl) ?_ _
          have hE := e3o
          rw [HE2.out] at hE
          have hbelZ := hbel.trans (e3B.mono hbel.size)
          have z1 := e3B.size
          go_wp2_with fail
          go_meet
          exact ⟨A3, n3, c3, by omega, own_base (ownsRow_setCell_below hE (a := ⟨w1.heap.size, 0, none⟩) (by show w1.heap.size < V.heap.size; omega) _) (by omega), hHeld, (World.cell?_setCell_far W15 ⟨w1.heap.size, 0, none⟩ ⟨w.heap.size + 1, 0, none⟩ _ (by show w1.heap.size ≠ w.heap.size + 1; omega)).trans ((e3B.cell (p := ⟨w.heap.size + 1, 0, none⟩) (by show w.heap.size + 1 < V.heap.size; omega)).trans dR), by simp [(e3B.frozen (p := ⟨w.heap.size + 1, 0, none⟩) (by show w.heap.size + 1 < V.heap.size; omega)).trans fR], by simp [go_sem, dB15], by simp; omega, hbelZ.setCell (p := ⟨w1.heap.size, 0, none⟩) (by show w.heap.size ≤ w1.heap.size; omega) _⟩
      case rest =>
        obtain ⟨A3, q, c3, hq, o4, d0, dR, fR, dB, hs4, hbel⟩ := hcut
        obtain ⟨rb, hrb⟩ : ∃ rb, rb = recB l := ⟨_, rfl⟩
        have HB := Lib.hid hrb
        clear hrb
        go_wp2_with fail
        refine (specIsRecord_any _ n c l rb _ (by unfold maxLen; omega) (ha.below hbel) hok HB.out).mono ?_
        rintro e v1 ⟨rfl, c1⟩
        have C1 := hbel.trans (c1.mono hbel.size)
        replace d0 := kcell c1 d0
        replace dR := kcell c1 dR
        replace fR := kfro c1 (by omega) fR
        replace dB := kcell c1 dB
        replace o4 := own_below o4 c1
        have hv1 := c1.size
        clear c1
        cases rb
        · have HN : Hid ((lr, r) = (l, false)) := Lib.hid (by rw [HR.out, setR_def, ← HB.out]; rfl)
          go_wp2_with fail
          refine (l5Copy_any _ n c l _ (by omega) (ha.below C1)).mono ?_
          rintro e v2 ⟨A2, n2, c2, rfl, q2, c2'⟩
          have C2 := C1.trans (c2'.mono C1.size)
          replace dR := kcell c2' dR
          replace fR := kfro c2' (by omega) fR
          have B4 := Lib.hid (C2.setCell (p := ⟨w.heap.size + 1, 0, none⟩) (by simp) (.slice A2 n2 c2))
          have O4 := Lib.hid (own_base (base' := w.heap.size) (ownsRow_setCell_below q2 (a := ⟨w.heap.size + 1, 0, none⟩) (by show w.heap.size + 1 < v1.heap.size; omega) (.slice A2 n2 c2)) (by omega))
          clear c2' q2 C2
          go_wp2
          exact bodyPost_ret (v := .tuple #[.agg #[.slice A2 n2 c2], .bool false]) (by simp [results, Try.results51, go_sem, dR]) rfl (MkRB_mk HN.out O4.out B4.out)
        · obtain ⟨rc, hrc⟩ : ∃ rc, rc = recB (insF l nm x) := ⟨_, rfl⟩
          have HC := Lib.hid hrc
          clear hrc
          go_wp2_with fail
          refine (specIsRecord_any A3 q c3 (insF l nm x) rc _ (by unfold maxLen; omega) (Rd.of_own o4) HOKM.out HC.out).mono ?_
          rintro e v2 ⟨rfl, c2'⟩
          have C2 := C1.trans (c2'.mono C1.size)
          replace d0 := kcell c2' d0
          replace dR := kcell c2' dR
          replace fR := kfro c2' (by omega) fR
          replace dB := kcell c2' dB
          replace o4 := own_below o4 c2'
          have hv2 := c2'.size
          clear c2'
          cases rc
          · have HN : Hid ((lr, r) = (l, false)) := Lib.hid (by rw [HR.out, setR_def, HS.out, ← HB.out, ← HC.out]; rfl)
            go_wp2_with fail
            refine (l5Copy_any _ n c l _ (by omega) (ha.below C2)).mono ?_
            rintro e v3 ⟨A2, n2, c2, rfl, q2, c3'⟩
            have C3 := C2.trans (c3'.mono C2.size)
            replace dR := kcell c3' dR
            replace fR := kfro c3' (by omega) fR
            have B4 := Lib.hid (C3.setCell (p := ⟨w.heap.size + 1, 0, none⟩) (by simp) (.slice A2 n2 c2))
            have O4 := Lib.hid (own_base (base' := w.heap.size) (ownsRow_setCell_below q2 (a := ⟨w.heap.size + 1, 0, none⟩) (by show w.heap.size + 1 < v2.heap.size; omega) (.slice A2 n2 c2)) (by omega))
            clear c3' q2 C3
            go_wp2
            exact bodyPost_ret (v := .tuple #[.agg #[.slice A2 n2 c2], .bool false]) (by simp [results, Try.results51, go_sem, dR]) rfl (MkRB_mk HN.out O4.out B4.out)
          · have HN : Hid ((lr, r) = ((insF l nm x), true)) := Lib.hid (by rw [HR.out, setR_def, HS.out, ← HB.out, ← HC.out]; rfl)
            have B4 := Lib.hid (C2.setCell (p := ⟨w.heap.size + 1, 0, none⟩) (by simp) (.slice A3 q c3))
            have O4 := Lib.hid (own_base (base' := w.heap.size) (ownsRow_setCell_below o4 (a := ⟨w.heap.size + 1, 0, none⟩) (by simp) (.slice A3 q c3)) (by omega))
            clear o4 C2 C1
            go_wp2
            exact bodyPost_ret (v := .tuple #[.agg #[.slice A3 q c3], .bool true]) (by simp [results, Try.results51, go_sem, dR]) rfl (MkRB_mk HN.out O4.out B4.out)
    · have HS := Lib.hid hS
      have HOKM := Lib.hid (okF_set (k := j) hok HNM.out hx)
      have HST := Lib.hid (fl_setN (x := x) hx2 (ba_ext (by simpa using he)))
      obtain ⟨g, cap, hv, hgb, hglt⟩ := o2.form (by omega)
      obtain ⟨rfl, rfl⟩ : B = some ⟨g, 0, none⟩ ∧ d = cap := by injection hv; exact ⟨by assumption, by assumption⟩
      have hgb1 : g < w1.heap.size := (HB1.out _ rfl).2
      have i3 : (j : Int) < (n : Int) := by omega
      have hfl : (fl l).length = n * 2 := o2.1
      obtain ⟨u1, hu1⟩ : ∃ u, (fl l)[j * 2 + 1]? = some u := ⟨(fl l)[j * 2 + 1]'(by omega), List.getElem?_eq_getElem (by omega)⟩
      have e1 : V.cell? ⟨g, j * 2 + 1, none⟩ = some u1 := by rw [o2.cellAt (j * 2 + 1) (by omega), hu1]
      have f1 := o2.frozenAt (j * 2 + 1)
      have s1 := o2.stored (j * 2 + 1) (.int .i64 x)
      rw [HST.out] at s1
      obtain ⟨o3, g3⟩ := s1
      have c0' := g3.cell d0 (by simp; omega)
      have cR := g3.cell dR (by simp; omega)
      have qR : (V.setCell ⟨g, j * 2 + 1, none⟩ (.int .i64 x)).frozen? ⟨w.heap.size + 1, 0, none⟩ = false := by simp [fR]
      have cB := g3.cell dB (by simp; omega)
      have hbel3 : Below w.heap.size w (V.setCell ⟨g, j * 2 + 1, none⟩ (.int .i64 x)) := hbel.setCell (p := ⟨g, j * 2 + 1, none⟩) (by show w.heap.size ≤ g; omega) _
      have hs3 : V.heap.size ≤ (V.setCell ⟨g, j * 2 + 1, none⟩ (.int .i64 x)).heap.size := g3.size
      clear hv g3 hu1 hfl o2 hx2 hS hjp hjp2
      go_wp2_with fail
      clear d0 dR fR dB fB hbel hc0
      obtain ⟨w3, hw3⟩ : ∃ w3, w3 = V.setCell ⟨g, j * 2 + 1, none⟩ (.int .i64 x) := ⟨_, rfl⟩
      rw [← hw3] at c0' cR qR cB hbel3 hs3 o3 ⊢
      clear hw3
      have d0 := c0'
      have dR := cR
      have fR := qR
      have dB := cB
      have hbel := hbel3
      clear c0' cR qR cB hbel3
      obtain ⟨rb, hrb⟩ : ∃ rb, rb = recB l := ⟨_, rfl⟩
      have HB := Lib.hid hrb
      clear hrb
      go_wp2_with fail
      refine (specIsRecord_any _ n c l rb _ (by unfold maxLen; omega) (ha.below hbel) hok HB.out).mono ?_
      rintro e v1 ⟨rfl, c1⟩
      have C1 := hbel.trans (c1.mono hbel.size)
      replace d0 := kcell c1 d0
      replace dR := kcell c1 dR
      replace fR := kfro c1 (by omega) fR
      replace dB := kcell c1 dB
      replace o3 := own_below o3 c1
      have hv1 := c1.size
      clear c1
      cases rb
      · have HN : Hid ((lr, r) = (l, false)) := Lib.hid (by rw [HR.out, setR_def, ← HB.out]; rfl)
        go_wp2_with fail
        refine (l5Copy_any _ n c l _ (by omega) (ha.below C1)).mono ?_
        rintro e v2 ⟨A2, n2, c2, rfl, q2, c2'⟩
        have C2 := C1.trans (c2'.mono C1.size)
        replace dR := kcell c2' dR
        replace fR := kfro c2' (by omega) fR
        have B4 := Lib.hid (C2.setCell (p := ⟨w.heap.size + 1, 0, none⟩) (by simp) (.slice A2 n2 c2))
        have O4 := Lib.hid (own_base (base' := w.heap.size) (ownsRow_setCell_below q2 (a := ⟨w.heap.size + 1, 0, none⟩) (by show w.heap.size + 1 < v1.heap.size; omega) (.slice A2 n2 c2)) (by omega))
        clear c2' q2 C2
        go_wp2
        exact bodyPost_ret (v := .tuple #[.agg #[.slice A2 n2 c2], .bool false]) (by simp [results, Try.results51, go_sem, dR]) rfl (MkRB_mk HN.out O4.out B4.out)
      · obtain ⟨rc, hrc⟩ : ∃ rc, rc = recB (l.set j (nm, x)) := ⟨_, rfl⟩
        have HC := Lib.hid hrc
        clear hrc
        go_wp2_with fail
        refine (specIsRecord_any (some ⟨g, 0, none⟩) n d (l.set j (nm, x)) rc _ (by unfold maxLen; omega) (Rd.of_own o3) HOKM.out HC.out).mono ?_
        rintro e v2 ⟨rfl, c2'⟩
        have C2 := C1.trans (c2'.mono C1.size)
        replace d0 := kcell c2' d0
        replace dR := kcell c2' dR
        replace fR := kfro c2' (by omega) fR
        replace dB := kcell c2' dB
        replace o3 := own_below o3 c2'
        have hv2 := c2'.size
        clear c2'
        cases rc
        · have HN : Hid ((lr, r) = (l, false)) := Lib.hid (by rw [HR.out, setR_def, HS.out, ← HB.out, ← HC.out]; rfl)
          go_wp2_with fail
          refine (l5Copy_any _ n c l _ (by omega) (ha.below C2)).mono ?_
          rintro e v3 ⟨A2, n2, c2, rfl, q2, c3'⟩
          have C3 := C2.trans (c3'.mono C2.size)
          replace dR := kcell c3' dR
          replace fR := kfro c3' (by omega) fR
          have B4 := Lib.hid (C3.setCell (p := ⟨w.heap.size + 1, 0, none⟩) (by simp) (.slice A2 n2 c2))
          have O4 := Lib.hid (own_base (base' := w.heap.size) (ownsRow_setCell_below q2 (a := ⟨w.heap.size + 1, 0, none⟩) (by show w.heap.size + 1 < v2.heap.size; omega) (.slice A2 n2 c2)) (by omega))
          clear c3' q2 C3
          go_wp2
          exact bodyPost_ret (v := .tuple #[.agg #[.slice A2 n2 c2], .bool false]) (by simp [results, Try.results51, go_sem, dR]) rfl (MkRB_mk HN.out O4.out B4.out)
        · have HN : Hid ((lr, r) = ((l.set j (nm, x)), true)) := Lib.hid (by rw [HR.out, setR_def, HS.out, ← HB.out, ← HC.out]; rfl)
          have B4 := Lib.hid (C2.setCell (p := ⟨w.heap.size + 1, 0, none⟩) (by simp) (.slice (some ⟨g, 0, none⟩) n d))
          have O4 := Lib.hid (own_base (base' := w.heap.size) (ownsRow_setCell_below o3 (a := ⟨w.heap.size + 1, 0, none⟩) (by simp) (.slice (some ⟨g, 0, none⟩) n d)) (by omega))
          clear o3 C2 C1
          go_wp2
          exact bodyPost_ret (v := .tuple #[.agg #[.slice (some ⟨g, 0, none⟩) n d], .bool true]) (by simp [results, Try.results51, go_sem, dR]) rfl (MkRB_mk HN.out O4.out B4.out)
end Go.Proofs.Ytbbngihmjdndoaa
