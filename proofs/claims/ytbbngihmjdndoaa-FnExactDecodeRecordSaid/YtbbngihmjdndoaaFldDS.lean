/-
  Proved: the contracts of l5Read and DecodeRecord of the reference. Conditions: the slice reads as a list.
  By an AI agent; no person has read it.
-/
import Derived.Test.YtbbngihmjdndoaaFldD
namespace Go.Proofs.Ytbbngihmjdndoaa
open Go.RowKit

/-- The call makes a record, an int and a bool; what was there stands. -/
def MkRX (w : World) (l : List Fld) (q : Int) (r : Bool) (e : Ending) (w' : World) : Prop := ∃ A n c, e = .returned (.tuple #[.agg #[.slice A n c], .int .i64 q, .bool r]) ∧ w'.ownsRow w.heap.size 91 2 (.slice A n c) n (fl l) ∧ Below w.heap.size w w'
def readO (b : List UInt8) : List Fld × Int × Bool := match readR b with | none => ([], 0, false) | some (l, q) => (l, q, recB l)
theorem red_no {b : List UInt8} {lr : List Fld} {q0 : Int} {r : Bool} (h : (lr, q0, r) = readO b) (h2 : readR b = none) : (lr, q0, r) = ([], 0, false) := by
  rw [h]
  unfold readO
  rw [h2]
theorem red_some {b : List UInt8} {lr l : List Fld} {q0 q : Int} {r : Bool} (h : (lr, q0, r) = readO b) (h2 : readR b = some (l, q)) : (lr, q0, r) = (l, q, recB l) := by
  rw [h]
  unfold readO
  rw [h2]
theorem MkRX_no {w w1 : World} {lr : List Fld} {q0 : Int} {r : Bool} (h : (lr, q0, r) = ([], 0, false)) (hb : Below w.heap.size w w1) : MkRX w lr q0 r (.returned (.tuple #[.agg #[.slice none 0 0], .int .i64 0, .bool false])) w1 := by
  simp only [Prod.mk.injEq] at h
  obtain ⟨rfl, rfl, rfl⟩ := h
  exact ⟨_, _, _, rfl, own_nilF, hb⟩
theorem MkRX_mk {w w1 : World} {lr l : List Fld} {q0 q : Int} {r rb : Bool} {A : Option Addr} {n c : Nat} (h : (lr, q0, r) = (l, q, rb)) (ho : w1.ownsRow w.heap.size 91 2 (.slice A n c) n (fl l)) (hb : Below w.heap.size w w1) : MkRX w lr q0 r (.returned (.tuple #[.agg #[.slice A n c], .int .i64 q, .bool rb])) w1 := by
  simp only [Prod.mk.injEq] at h
  obtain ⟨rfl, rfl, rfl⟩ := h
  exact ⟨_, _, _, rfl, ho, hb⟩

set_option maxRecDepth 100000 in
set_option maxHeartbeats 2000000 in
theorem l5Read_any (A : Option Addr) (n c : Nat) (b : List UInt8) (lr : List Fld) (q0 : Int) (r : Bool) (w : World) (hn : n ≤ 1048576) (hnc : n ≤ c) (hcm : c ≤ maxLen) (ha : Rd w 1 A n (b.map bv)) (hr : (lr, q0, r) = readO b) :
    Calls Try.prog 100 #[.slice A n c, .int .i64 0] w (MkRX w lr q0 r) := by
  obtain ⟨i0, hi, hz0, hz1, hz2⟩ := info_parts infoF
  have HR := Lib.hid hr
  have LB := Lib.hid ha.lenB
  have HCM := Lib.hid hcm
  clear hr hcm
  cases hu : readU b 0 with
  | none =>
    have HN := Lib.hid (red_no HR.out (by unfold readR; rw [hu]))
    have HU := Lib.hid hu
    clear hu
    go_enter Try.func100, Try.ntmps100
    go_wp2_with fail
    refine (specReadUvarint_none A n c b 0 _ (by omega) (ha.alloc _) (by omega) HU.out).mono ?_
    rintro e w1 ⟨rfl, b1⟩
    have d0 : w1.cell? ⟨w.heap.size, 0, none⟩ = some (.slice none 0 0) := kcell b1 (by simp)
    have f0 : w1.frozen? ⟨w.heap.size, 0, none⟩ = false := kfro b1 (by simp) (by simp [go_sem])
    have B1 : Below w.heap.size w w1 := Below.trans (al (Below.refl _ _)) (b1.mono (by simp))
    have B2 := Lib.hid (B1.setCell (p := ⟨w.heap.size, 0, none⟩) (by simp) (.slice none 0 0))
    clear b1 B1
    go_wp2
    exact bodyPost_ret (v := .tuple #[.agg #[.slice none 0 0], .int .i64 0, .bool false]) (by simp [results, Try.results100, go_sem, d0]) rfl (MkRX_no HN.out B2.out)
  | some p =>
    obtain ⟨m, nx⟩ := p
    have HU := Lib.hid hu
    have hul := readU_le hu
    clear hu
    by_cases h6 : m ≤ 6
    · have HRR : Hid (readR b = restF b [] m (nx : Int)) := by
        have : readR b = restF b [] m (nx : Int) := by
          unfold readR restF
          rw [HU.out]
          simp [h6]
        exact Lib.hid this
      go_enter Try.func100, Try.ntmps100
      go_wp2_with fail
      refine (specReadUvarint_some A n c b 0 m nx _ (by omega) (ha.alloc _) (by omega) HU.out).mono ?_
      rintro e w1 ⟨rfl, b1⟩
      have d0 : (w1.alloc (.cells #[.slice none 0 0] 28)).cell? ⟨w.heap.size, 0, none⟩ = some (.slice none 0 0) := kcell (al (Below.refl _ _)) (kcell b1 (by simp))
      have f0 : (w1.alloc (.cells #[.slice none 0 0] 28)).frozen? ⟨w.heap.size, 0, none⟩ = false := kfro (al (Below.refl _ _)) (by have := b1.size; simp at this; omega) (kfro b1 (by simp) (by simp [go_sem]))
      have B1 : Below w.heap.size w (w1.alloc (.cells #[.slice none 0 0] 28)) := al (Below.trans (al (Below.refl _ _)) (b1.mono (by simp)))
      have hw1 : w.heap.size < w1.heap.size := by have := b1.size; simp at this; omega
      have hmn : ¬ ((6 : Int) < (m : Int)) := by omega
      have hnb : nx ≤ n := by have := LB.out; omega
      clear b1
      go_wp2
      go_loopw [8, 11] (fun a i wr => ∃ (k : Nat) (x : Int) (acc : List Fld) (B : Option Addr) (p d : Nat), k ≤ m ∧ i = .int .i64 k ∧ a = .int .i64 x ∧ (0 ≤ x ∧ x ≤ n) ∧ readR b = restF b acc (m - k) x ∧ (∀ f ∈ acc, okW f) ∧ (p = k ∧ wr.ownsRow (w1.heap.size + 1) 91 2 (.slice B p d) p (fl acc)) ∧ wr.cell? ⟨w1.heap.size, 0, none⟩ = some (.slice B p d) ∧ wr.frozen? ⟨w1.heap.size, 0, none⟩ = false ∧ wr.cell? ⟨w.heap.size, 0, none⟩ = some (.slice none 0 0) ∧ wr.frozen? ⟨w.heap.size, 0, none⟩ = false ∧ (w1.heap.size + 1 ≤ wr.heap.size ∧ Below w.heap.size w wr)) (fun _ i _ => m - (intOf i).toNat)
      case atStart => exact ⟨0, nx, [], none, 0, 0, Nat.zero_le _, rfl, rfl, ⟨by omega, by omega⟩, HRR.out, fun f hf => (by cases hf), ⟨rfl, own_nilF⟩, by simp, by simp [go_sem], d0, f0, by simp, B1⟩
      case round =>
        obtain ⟨k, x, acc, B, p, d, hk, rfl, rfl, hx, hrest, hacc, ⟨hpk, ho⟩, dB, fB, dR, fR, hsz, hbel⟩ := hrel
        have HREST := Lib.hid hrest
        have HACC := Lib.hid hacc
        have HPK := Lib.hid hpk
        clear hrest hacc d0 f0 B1 hpk
        by_cases hlt : k < m
        · obtain ⟨j, hj⟩ : ∃ j, m - k = j + 1 := ⟨m - k - 1, by omega⟩
          have HJ := Lib.hid hj
          clear hj
          cases hb8 : readB b x 8 with
          | none =>
            have HB := Lib.hid hb8
            have HN := Lib.hid (red_no HR.out (by rw [HREST.out, HJ.out, restF_no hb8]))
            clear hb8
            go_wp2_with fail
            refine (specReadBytes_no A n c b x 8 _ (by omega) (ha.below hbel) (by omega) HB.out).mono ?_
            rintro e w2 ⟨A2, n2, c2, rfl, -, b2⟩
            have B3 := Lib.hid ((hbel.trans (b2.mono hbel.size)).setCell (p := ⟨w.heap.size, 0, none⟩) (by simp) (.slice none 0 0))
            replace dR := kcell b2 dR
            replace fR := kfro b2 (by omega) fR
            clear b2
            go_wp2
            exact bodyPost_ret (v := .tuple #[.agg #[.slice none 0 0], .int .i64 0, .bool false]) (by simp [results, Try.results100, go_sem, dR]) rfl (MkRX_no HN.out B3.out)
          | some pr =>
            obtain ⟨nm, q⟩ := pr
            have HB := Lib.hid hb8
            obtain ⟨c1, c2, c3, c4, -⟩ := readB_canon hb8
            clear hb8
            have hqn : q ≤ n := by have := LB.out; omega
            go_wp2_with fail
            refine (specReadBytes_yes A n c b nm x 8 q _ (by omega) hnc HCM.out (ha.below hbel) (by omega) HB.out).mono ?_
            rintro e w2 ⟨A2, n2, c2', rfl, o2, b2⟩
            have B2 := hbel.trans (b2.mono hbel.size)
            replace dR := kcell b2 dR
            replace fR := kfro b2 (by omega) fR
            replace dB := kcell b2 dB
            replace fB := kfro b2 (by omega) fB
            replace ho := own_below ho b2
            have hs2 := b2.size
            clear b2
            cases hu2 : readU b (q : Int) with
            | none =>
              have HU2 := Lib.hid hu2
              have HN := Lib.hid (red_no HR.out (by rw [HREST.out, HJ.out, restF_no2 HB.out hu2]))
              clear hu2
              go_wp2_with fail
              refine (specReadUvarint_none A n c b q _ (by omega) (ha.below B2) (by omega) HU2.out).mono ?_
              rintro e w3 ⟨rfl, b3⟩
              have B3 := Lib.hid ((B2.trans (b3.mono B2.size)).setCell (p := ⟨w.heap.size, 0, none⟩) (by simp) (.slice none 0 0))
              replace dR := kcell b3 dR
              replace fR := kfro b3 (by omega) fR
              clear b3 B2
              go_wp2
              exact bodyPost_ret (v := .tuple #[.agg #[.slice none 0 0], .int .i64 0, .bool false]) (by simp [results, Try.results100, go_sem, dR]) rfl (MkRX_no HN.out B3.out)
            | some pu =>
              obtain ⟨v, q2⟩ := pu
              have HU2 := Lib.hid hu2
              have hul2 := readU_le hu2
              have HS := Lib.hid (HREST.out.trans (by rw [HJ.out, restF_step HB.out hu2]))
              clear hu2
              go_wp2_with fail
              refine (specReadUvarint_some A n c b q v q2 _ (by omega) (ha.below B2) (by omega) HU2.out).mono ?_
              rintro e w3 ⟨rfl, b3⟩
              have B3 := B2.trans (b3.mono B2.size)
              replace dR := kcell b3 dR
              replace fR := kfro b3 (by omega) fR
              replace dB := kcell b3 dB
              replace fB := kfro b3 (by omega) fB
              replace ho := own_below ho b3
              have hs3 := b3.size
              have hcv := run_str_of w3 58 9 5 A2 n2 c2' nm Try.underlying58 Try.underlying5 Try.underlying9 (Rd.of_own (own_below o2 b3))
              clear b3 o2 B2
              go_wp2_with (at_builtin; refine wpList_pushF w3 rfl _ _ 26 (by rfl) (w1.heap.size + 1) 91 i0 (.agg #[.string ⟨#[]⟩, .int .i64 0]) 24 Try.underlying26 hi hz0 hz1 hz2 rfl B p d acc (by rfl) ho (strOf nm) v (by rfl) ?c1 ?c2 ?c3 ?_)
              case c1 => unfold maxLen; have := HPK.out; omega
              case c2 => have := HPK.out; omega
              case c3 => omega
              intro A4 p4 c4' w4 hp4 o4 b4 _
              have hs4 := b4.size
              have B4 := B3.trans (b4.mono (by omega))
              replace dR : w4.cell? ⟨w.heap.size, 0, none⟩ = _ := (b4.cell (p := ⟨w.heap.size, 0, none⟩) (by simp; omega)).trans dR
              replace fR : w4.frozen? ⟨w.heap.size, 0, none⟩ = _ := (b4.frozen (p := ⟨w.heap.size, 0, none⟩) (by simp; omega)).trans fR
              replace dB : w4.cell? ⟨w1.heap.size, 0, none⟩ = _ := (b4.cell (p := ⟨w1.heap.size, 0, none⟩) (by simp)).trans dB
              replace fB : w4.frozen? ⟨w1.heap.size, 0, none⟩ = _ := (b4.frozen (p := ⟨w1.heap.size, 0, none⟩) (by simp)).trans fB
              have O5 := Lib.hid (ownsRow_setCell_below o4 (a := ⟨w1.heap.size, 0, none⟩) (by simp) (.slice A4 p4 c4'))
              have B5 := Lib.hid (B4.setCell (p := ⟨w1.heap.size, 0, none⟩) (by simp; omega) (.slice A4 p4 c4'))
              have HP4 : Hid (p4 = k + 1) := by have h1 := HPK.out; subst h1; exact Lib.hid hp4
              have dB5 : (w4.setCell ⟨w1.heap.size, 0, none⟩ (.slice A4 p4 c4')).cell? ⟨w1.heap.size, 0, none⟩ = some (.slice A4 p4 c4') := by simp [go_sem, dB]
              have fB5 : (w4.setCell ⟨w1.heap.size, 0, none⟩ (.slice A4 p4 c4')).frozen? ⟨w1.heap.size, 0, none⟩ = false := by simp [fB]
              have dR5 : (w4.setCell ⟨w1.heap.size, 0, none⟩ (.slice A4 p4 c4')).cell? ⟨w.heap.size, 0, none⟩ = some (.slice none 0 0) := by rw [World.cell?_setCell_far w4 ⟨w1.heap.size, 0, none⟩ ⟨w.heap.size, 0, none⟩ _ (by show w1.heap.size ≠ w.heap.size; omega)]; exact dR
              have fR5 : (w4.setCell ⟨w1.heap.size, 0, none⟩ (.slice A4 p4 c4')).frozen? ⟨w.heap.size, 0, none⟩ = false := by simp [fR]
              have S5 : Hid (w1.heap.size + 1 ≤ (w4.setCell ⟨w1.heap.size, 0, none⟩ (.slice A4 p4 c4')).heap.size) := Lib.hid (by simp; omega)
              have HA5 : Hid (∀ f ∈ acc ++ [(strOf nm, (v : Int))], okW f) := Lib.hid (fun f hf => by
                rcases List.mem_append.1 hf with h | h
                · exact HACC.out f h
                · rw [List.mem_singleton] at h
                  subst h
                  exact ⟨by show (strOf nm).size ≤ _; rw [strOf_size]; omega, by show (0 : Int) ≤ (v : Int); omega, by show (v : Int) ≤ _; omega⟩)
              have DB5 := Lib.hid dB5
              have FB5 := Lib.hid fB5
              have DR5 := Lib.hid dR5
              have FR5 := Lib.hid fR5
              clear o4 b4 B4 B3 hp4 ho dB5 fB5 dR5 fR5 hcv
              go_wp2
              go_roundw
              case rel => exact ⟨k + 1, q2, _, A4, p4, c4', by omega, by go_num, rfl, ⟨by omega, by have := LB.out; omega⟩, by rw [show m - (k + 1) = j by have := HJ.out; omega]; exact HS.out, HA5.out, ⟨HP4.out, O5.out⟩, DB5.out, FB5.out, DR5.out, FR5.out, S5.out, B5.out⟩
              case measure => simp [intOf]; omega
        · obtain rfl : k = m := by omega
          have HE := Lib.hid (red_some HR.out (by rw [HREST.out, Nat.sub_self, restF_zero]))
          have hp6 : p ≤ 6 := by have := HPK.out; omega
          obtain ⟨rb, hq⟩ : ∃ rb, rb = recB acc := ⟨_, rfl⟩
          have HQ := Lib.hid hq
          clear hq
          go_wp2
          refine wp_region_held_drew (S := fun W => Below w.heap.size w W ∧ W.cell? ⟨w1.heap.size, 0, none⟩ = some (.slice B p d)) (by kernel_rfl) ?_ (fun hHeld => ?_)
          · exact ⟨hbel.drew, dB⟩
          refine takeD (i := 0) (d := some 68) (v := ?_) _ rfl rfl (by kernel_rfl) (by kernel_rfl) (by kernel_rfl) (fun _ _ _ h => h) (Or.inl ⟨by rfl, ?_⟩) (by assumption) ?_
          rotate_left
          · (intro W hSw; (try dsimp only at hSw); go_simp; try with_reducible rfl)
          try simp only [Act.put, List.setIfInBounds_toArray, List.set_cons_zero, List.set_cons_succ]
          refine takeD (i := 1) (d := some 69) (v := ?_) _ rfl rfl (by kernel_rfl) (by kernel_rfl) (by kernel_rfl) (fun _ _ _ h => h) (Or.inl ⟨by rfl, ?_⟩) (by assumption) ?_
          rotate_left
          · (intro W hSw; (try dsimp only at hSw); go_simp; try with_reducible rfl)
          try simp only [Act.put, List.setIfInBounds_toArray, List.set_cons_zero, List.set_cons_succ]
          refine takeD (i := 2) (d := some 70) (v := ?_) _ rfl rfl (by kernel_rfl) (by kernel_rfl) (by kernel_rfl) (fun _ _ _ h => h) (Or.inl ⟨by rfl, ?_⟩) (by assumption) ?_
          rotate_left
          · (intro W hSw; (try dsimp only at hSw); go_simp; try with_reducible rfl)
          try simp only [Act.put, List.setIfInBounds_toArray, List.set_cons_zero, List.set_cons_succ]
          refine wpAnyH_ready (rs := [3]) (by kernel_rfl) (by simp) ?_
          refine AllReadyH.cons rfl (fun K hK => ?_) AllReadyH.nil
          go_simp
          refine (specIsRecord_any B p d acc rb _ (by unfold maxLen; omega) ((Rd.of_own ho).drew) (okW_okF HACC.out) HQ.out).mono ?_; rintro e W1 ⟨rfl, hb⟩
          have dR1 := kcell hb dR
          have fR1 := kfro hb (by show w.heap.size < wr.heap.size; omega) fR
          have o1 := own_below (w := wr.drew) ho hb
          try go_wp2_with fail
          refine hK.out _ _ ?_ (fun hHeld3 => ?_)
          · try dsimp only
            exact ⟨hHeld.1.trans (hb.mono hHeld.1.size), kcell hb hHeld.2⟩
          clear hK K
          try simp only [Act.put, List.setIfInBounds_toArray, List.set_cons_zero, List.set_cons_succ]
          refine wpAnyH_ready (rs := [4]) (by kernel_rfl) (by simp) ?_
          refine AllReadyH.cons rfl (fun K hK => ?_) AllReadyH.nil
          go_simp
          refine hK.out _ _ ?_ (fun hHeld4 => ?_)
          · try dsimp only
            exact ⟨hHeld3.1.setCell (p := ⟨w.heap.size, 0, none⟩) (by simp) _, by rw [World.cell?_setCell_far W1 ⟨w.heap.size, 0, none⟩ ⟨w1.heap.size, 0, none⟩ _ (by show w.heap.size ≠ w1.heap.size; omega)]; exact hHeld3.2⟩
          clear hK K
          try simp only [Act.put, List.setIfInBounds_toArray, List.set_cons_zero, List.set_cons_succ]
          refine takeD (i := 5) (d := some 5) (v := ?_) _ rfl rfl (by kernel_rfl) (by kernel_rfl) (by kernel_rfl) (fun _ _ _ h => h) (Or.inl ⟨by rfl, ?_⟩) (by assumption) ?_
          rotate_left
          · (intro W hSw; (try dsimp only at hSw); go_simp; try with_reducible rfl)
          try simp only [Act.put, List.setIfInBounds_toArray, List.set_cons_zero, List.set_cons_succ]
          refine takeD (i := 6) (d := some 6) (v := ?_) _ rfl rfl (by kernel_rfl) (by kernel_rfl) (by kernel_rfl) (fun _ _ _ h => h) (Or.inl ⟨by rfl, ?_⟩) (by assumption) ?_
          rotate_left
          · (intro W hSw; (try dsimp only at hSw); go_simp; try with_reducible rfl)
          try simp only [Act.put, List.setIfInBounds_toArray, List.set_cons_zero, List.set_cons_succ]
          refine wpAnyH_done (by kernel_rfl) ?_ _
          have B4 := Lib.hid hHeld4.1
          have O4 := Lib.hid (own_base (base' := w.heap.size) (ownsRow_setCell_below o1 (a := ⟨w.heap.size, 0, none⟩) (by simp; omega) (.slice B p d)) (by omega))
          have HN : Hid ((lr, q0, r) = (acc, x, rb)) := Lib.hid (by rw [HE.out, HQ.out])
          clear hHeld hHeld3 hHeld4 o1 ho hb
          go_wp2
          exact bodyPost_ret (v := .tuple #[.agg #[.slice B p d], .int .i64 x, .bool rb]) (by simp [results, Try.results100, go_sem, dR1]) rfl (MkRX_mk HN.out O4.out B4.out)
    · have HN := Lib.hid (red_no HR.out (by unfold readR; rw [HU.out]; simp [h6]))
      have hmn : ((6 : Int) < (m : Int)) := by omega
      go_enter Try.func100, Try.ntmps100
      go_wp2_with fail
      refine (specReadUvarint_some A n c b 0 m nx _ (by omega) (ha.alloc _) (by omega) HU.out).mono ?_
      rintro e w1 ⟨rfl, b1⟩
      have d0 : w1.cell? ⟨w.heap.size, 0, none⟩ = some (.slice none 0 0) := kcell b1 (by simp)
      have f0 : w1.frozen? ⟨w.heap.size, 0, none⟩ = false := kfro b1 (by simp) (by simp [go_sem])
      have B1 : Below w.heap.size w w1 := Below.trans (al (Below.refl _ _)) (b1.mono (by simp))
      have B2 := Lib.hid (B1.setCell (p := ⟨w.heap.size, 0, none⟩) (by simp) (.slice none 0 0))
      clear b1 B1
      go_wp2
      exact bodyPost_ret (v := .tuple #[.agg #[.slice none 0 0], .int .i64 0, .bool false]) (by simp [results, Try.results100, go_sem, d0]) rfl (MkRX_no HN.out B2.out)
theorem decS_no {b : List UInt8} {lr l : List Fld} {q : Int} {r rb : Bool} (h : (lr, r) = decO (decP b)) (h2 : (l, q, rb) = readO b) (h3 : ¬ (rb = true ∧ q = (b.length : Int))) : (lr, r) = ([], false) := by
  rw [h, dec_eq]
  unfold decS
  unfold readO at h2
  cases hr : readR b with
  | none => rfl
  | some p =>
    obtain ⟨l', q'⟩ := p
    rw [hr] at h2
    simp only [Prod.mk.injEq] at h2
    obtain ⟨rfl, rfl, rfl⟩ := h2
    show decO (if recB l = true ∧ q = (b.length : Int) then some l else none) = _
    rw [if_neg h3]
    rfl
theorem decS_yes {b : List UInt8} {lr l : List Fld} {q : Int} {r rb : Bool} (h : (lr, r) = decO (decP b)) (h2 : (l, q, rb) = readO b) (h3 : rb = true ∧ q = (b.length : Int)) : (lr, r) = (l, true) := by
  rw [h, dec_eq]
  unfold decS
  unfold readO at h2
  cases hr : readR b with
  | none =>
    rw [hr] at h2
    simp only [Prod.mk.injEq] at h2
    obtain ⟨rfl, rfl, rfl⟩ := h2
    exact absurd h3.1 (by simp)
  | some p =>
    obtain ⟨l', q'⟩ := p
    rw [hr] at h2
    simp only [Prod.mk.injEq] at h2
    obtain ⟨rfl, rfl, rfl⟩ := h2
    show decO (if recB l = true ∧ q = (b.length : Int) then some l else none) = _
    rw [if_pos h3]
    rfl
theorem readO_rng (b : List UInt8) : 0 ≤ (readO b).2.1 ∧ (readO b).2.1 ≤ b.length ∧ (readO b).1.length ≤ 6 := by
  unfold readO
  cases hr : readR b with
  | none => exact ⟨Int.le_refl _, by show (0 : Int) ≤ _; omega, by simp⟩
  | some p =>
    obtain ⟨l, q⟩ := p
    have := readR_canon hr
    exact ⟨this.2.2.1, this.2.2.2.1, this.2.1⟩

set_option maxRecDepth 100000 in
set_option maxHeartbeats 1000000 in
theorem specDecodeRecord_any (A : Option Addr) (n c : Nat) (b : List UInt8) (lr : List Fld) (r : Bool) (w : World) (hn : n ≤ 1048576) (hnc : n ≤ c) (hcm : c ≤ maxLen) (ha : Rd w 1 A n (b.map bv)) (hr : (lr, r) = decO (decP b)) :
    Calls Try.prog 48 #[.slice A n c] w (MkRB w lr r) := by
  have HR := Lib.hid hr
  have LB := Lib.hid ha.lenB
  obtain ⟨l, q, rb, ho⟩ : ∃ l q rb, (l, q, rb) = readO b := ⟨_, _, _, rfl⟩
  have hq : 0 ≤ q ∧ q ≤ n := by
    have h1 := readO_rng b
    rw [← ho] at h1
    simp only at h1
    have h2 := LB.out
    exact ⟨h1.1, by have := h1.2.1; omega⟩
  have HO := Lib.hid ho
  clear hr ho
  go_enter Try.func48, Try.ntmps48
  go_wp2_with fail
  refine (l5Read_any A n c b l q rb _ hn hnc hcm (ha.alloc _) HO.out).mono ?_
  rintro e w1 ⟨B, p, d, rfl, o1, b1⟩
  have dR : (w1.alloc (.cells #[.slice B p d] 28)).cell? ⟨w.heap.size, 0, none⟩ = some (.slice none 0 0) := kcell (al (Below.refl _ _)) (kcell b1 (by simp))
  have fR : (w1.alloc (.cells #[.slice B p d] 28)).frozen? ⟨w.heap.size, 0, none⟩ = false := kfro (al (Below.refl _ _)) (by have := b1.size; simp at this; omega) (kfro b1 (by simp) (by simp [go_sem]))
  have hw1 : w.heap.size < w1.heap.size := by have := b1.size; simp at this; omega
  have d1 : w1.cell? ⟨w.heap.size, 0, none⟩ = some (.slice none 0 0) := kcell b1 (by simp)
  have B1 : Below w.heap.size w w1 := Below.trans (al (Below.refl _ _)) (b1.mono (by simp))
  have B2 := Lib.hid (al (o := .cells #[.slice B p d] 28) (B1.setCell (p := ⟨w.heap.size, 0, none⟩) (by simp) (.slice none 0 0)))
  have B3 := Lib.hid (al (o := .cells #[.slice B p d] 28) (B1.setCell (p := ⟨w.heap.size, 0, none⟩) (by simp) (.slice B p d)))
  have O3 := Lib.hid (own_base (base' := w.heap.size) (own_below (ownsRow_setCell_below o1 (a := ⟨w.heap.size, 0, none⟩) (by simp) (.slice B p d)) (al (o := .cells #[.slice B p d] 28) (Below.refl _ _))) (by simp))
  have dZ0 : ((w1.setCell ⟨w.heap.size, 0, none⟩ (.slice none 0 0)).alloc (.cells #[.slice B p d] 28)).cell? ⟨w.heap.size, 0, none⟩ = some (.slice none 0 0) := kcell (al (Below.refl _ _)) (by simp [go_sem, d1])
  have dZ1 : ((w1.setCell ⟨w.heap.size, 0, none⟩ (.slice B p d)).alloc (.cells #[.slice B p d] 28)).cell? ⟨w.heap.size, 0, none⟩ = some (.slice B p d) := kcell (al (Below.refl _ _)) (by simp [go_sem, d1])
  clear b1 B1 o1 d1
  cases rb
  · have HN := Lib.hid (decS_no HR.out HO.out (by simp))
    go_wp2
    exact bodyPost_ret (v := .tuple #[.agg #[.slice none 0 0], .bool false]) (by simp [results, Try.results48, go_sem, dZ0]) rfl (MkRB_no HN.out B2.out)
  · by_cases hqn : q = (n : Int)
    · have HN := Lib.hid (decS_yes HR.out HO.out ⟨rfl, by rw [LB.out]; exact hqn⟩)
      subst hqn
      go_wp2
      exact bodyPost_ret (v := .tuple #[.agg #[.slice B p d], .bool true]) (by simp [results, Try.results48, go_sem, dZ1]) rfl (MkRB_yes HN.out O3.out B3.out)
    · have HN := Lib.hid (decS_no HR.out HO.out (by rw [LB.out]; exact fun h => hqn h.2))
      go_wp2
      exact bodyPost_ret (v := .tuple #[.agg #[.slice none 0 0], .bool false]) (by simp [results, Try.results48, go_sem, dZ0]) rfl (MkRB_no HN.out B2.out)
end Go.Proofs.Ytbbngihmjdndoaa
