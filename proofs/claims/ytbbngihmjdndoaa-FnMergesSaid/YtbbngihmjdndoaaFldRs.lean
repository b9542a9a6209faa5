/-
  Proved: the contract of RemoveField of the reference. Conditions: the slice reads as a list.
  By an AI agent; no person has read it.
-/
import Derived.Test.YtbbngihmjdndoaaFldRm
import Derived.Test.YtbbngihmjdndoaaCatR
namespace Go.Proofs.Ytbbngihmjdndoaa
open Go.RowKit

theorem remS_skip {l : List Fld} {nm : ByteArray} {k : Nat} {f : Fld} (hx : l[k]? = some f) (h : pN nm f = true) : remS (l.take (k + 1)) nm = remS (l.take k) nm := by
  unfold remS
  rw [take_snoc hx, List.filter_append]
  simp [h]
theorem remS_keep {l : List Fld} {nm : ByteArray} {k : Nat} {f : Fld} (hx : l[k]? = some f) (h : pN nm f = false) : remS (l.take (k + 1)) nm = remS (l.take k) nm ++ [f] := by
  unfold remS
  rw [take_snoc hx, List.filter_append]
  simp [h]

set_option maxRecDepth 100000 in
set_option maxHeartbeats 2000000 in
theorem specRemoveField_any (A : Option Addr) (n c : Nat) (l : List Fld) (nm : ByteArray) (lr : List Fld) (r : Bool) (w : World) (hn : n ≤ 1048576) (ha : Rd w 2 A n (fl l)) (hok : okF l) (hr : (lr, r) = remR l nm) :
    Calls Try.prog 32 #[.agg #[.slice A n c], .string nm] w (MkRB w lr r) := by
  obtain ⟨i0, hi, hz0, hz1, hz2⟩ := info_parts infoF
  have HR := Lib.hid hr
  have LX := Lib.hid ha.lenF
  clear hr
  go_enter Try.func32, Try.ntmps32
  go_wp2
  go_loopw [7] (fun i wr => ∃ (k : Nat) (B : Option Addr) (p d : Nat), k ≤ n ∧ i = .int .i64 k ∧ (p ≤ k ∧ wr.ownsRow (w.heap.size + 3) 91 2 (.slice B p d) p (fl (remS (l.take k) nm))) ∧ wr.cell? ⟨w.heap.size, 0, none⟩ = some (.slice A n c) ∧ wr.cell? ⟨w.heap.size + 1, 0, none⟩ = some (.slice none 0 0) ∧ wr.frozen? ⟨w.heap.size + 1, 0, none⟩ = false ∧ wr.cell? ⟨w.heap.size + 1 + 1, 0, none⟩ = some (.slice B p d) ∧ wr.frozen? ⟨w.heap.size + 1 + 1, 0, none⟩ = false ∧ (w.heap.size + 3 ≤ wr.heap.size ∧ Below w.heap.size w wr)) (fun i _ => n - (intOf i).toNat)
  case atStart => exact ⟨0, none, 0, 0, Nat.zero_le _, rfl, ⟨Nat.le_refl _, own_nilF⟩, by simp [go_sem], by simp [go_sem], by simp [go_sem], by simp [go_sem], by simp [go_sem], by simp, al (al (al (Below.refl _ _)))⟩
  case round =>
    obtain ⟨k, B, p, d, hk, rfl, ⟨hpk, ho⟩, d0, dR, fR, dB, fB, hsz, hbel⟩ := hrel
    by_cases hlt : k < n
    · obtain ⟨b, o, s, x, rfl, _hb1, hx, hc0, hc1⟩ := (ha.below hbel).fld hlt
      have i1 : (0 : Int) ≤ (k : Int) := by omega
      have i2 : (k : Int) < (n : Int) := by omega
      cases hs : (s.toList == nm.toList)
      · have HK := Lib.hid (remS_keep hx (show pN nm (s, x) = false from hs))
        have hxs : Hid (l[k]? = some (s, x)) := Lib.hid hx
        clear hx
        have dB' : (wr.alloc (.cells #[.string s, .int .i64 x] 91)).cell? ⟨w.heap.size + 1 + 1, 0, none⟩ = some (.slice B p d) := kcell (al (Below.refl _ _)) dB
        go_wp2
        go_region_law (refine step_catR rfl (.tmp 25) (.tmp 31) 26 rfl (w.heap.size + 3) 91 i0 (.agg #[.string ⟨#[]⟩, .int .i64 0]) 2 24 Try.underlying26 hi hz0 hz1 hz2 rfl (by decide) B p d _ (by simp [Act.eval]) (by exact own_below ho (((Below.refl wr.heap.size wr).drew).alloc (Nat.le_refl _) _)) (some ⟨wr.heap.size, 0, none⟩) 1 1 (fl [(s, x)]) (by simp [Act.eval]) (by exact rd_new2 rfl) (ones_fl _) (by unfold maxLen; omega) (by omega) (by simp; omega) ?_; intro A4 p4 c4 w4 hp4 o4 b4; have HP4 := Lib.hid hp4; clear hp4; have dB4 : w4.cell? ⟨w.heap.size + 1 + 1, 0, none⟩ = some (.slice B p d) := (b4.cell (p := ⟨w.heap.size + 1 + 1, 0, none⟩) (by simp)).trans (by exact kcell (((Below.refl wr.heap.size wr).drew).alloc (Nat.le_refl _) _) dB); have fB4 : w4.frozen? ⟨w.heap.size + 1 + 1, 0, none⟩ = false := (b4.frozen (p := ⟨w.heap.size + 1 + 1, 0, none⟩) (by simp)).trans (by exact kfro (((Below.refl wr.heap.size wr).drew).alloc (Nat.le_refl _) _) (by omega) fB))
        all_goals
          have O5 := Lib.hid (ownsRow_setCell_below o4 (a := ⟨w.heap.size + 1 + 1, 0, none⟩) (by simp) (.slice A4 p4 c4))
          have BW : Below w.heap.size w w4 := hbel.trans (Below.trans (((Below.refl wr.heap.size wr).drew).alloc (Nat.le_refl _) (.cells #[.string s, .int .i64 x] 91) |>.mono hbel.size) (b4.mono (by omega)))
          have B5 := Lib.hid (BW.setCell (p := ⟨w.heap.size + 1 + 1, 0, none⟩) (by simp; omega) (.slice A4 p4 c4))
          have k0 : w4.cell? ⟨w.heap.size, 0, none⟩ = some (.slice (some ⟨b, o, none⟩) n c) := (b4.cell (p := ⟨w.heap.size, 0, none⟩) (by simp)).trans (by exact kcell (((Below.refl wr.heap.size wr).drew).alloc (Nat.le_refl _) _) d0)
          have kR : w4.cell? ⟨w.heap.size + 1, 0, none⟩ = some (.slice none 0 0) := (b4.cell (p := ⟨w.heap.size + 1, 0, none⟩) (by simp)).trans (by exact kcell (((Below.refl wr.heap.size wr).drew).alloc (Nat.le_refl _) _) dR)
          have jR : w4.frozen? ⟨w.heap.size + 1, 0, none⟩ = false := (b4.frozen (p := ⟨w.heap.size + 1, 0, none⟩) (by simp)).trans (by exact kfro (((Below.refl wr.heap.size wr).drew).alloc (Nat.le_refl _) _) (by omega) fR)
          have D5 : Hid ((w4.setCell ⟨w.heap.size + 1 + 1, 0, none⟩ (.slice A4 p4 c4)).cell? ⟨w.heap.size, 0, none⟩ = some (.slice (some ⟨b, o, none⟩) n c)) := Lib.hid (by rw [World.cell?_setCell_far w4 ⟨w.heap.size + 1 + 1, 0, none⟩ ⟨w.heap.size, 0, none⟩ _ (by show w.heap.size + 1 + 1 ≠ w.heap.size; omega)]; exact k0)
          have R5 : Hid ((w4.setCell ⟨w.heap.size + 1 + 1, 0, none⟩ (.slice A4 p4 c4)).cell? ⟨w.heap.size + 1, 0, none⟩ = some (.slice none 0 0)) := Lib.hid (by rw [World.cell?_setCell_far w4 ⟨w.heap.size + 1 + 1, 0, none⟩ ⟨w.heap.size + 1, 0, none⟩ _ (by show w.heap.size + 1 + 1 ≠ w.heap.size + 1; omega)]; exact kR)
          have F5 : Hid ((w4.setCell ⟨w.heap.size + 1 + 1, 0, none⟩ (.slice A4 p4 c4)).frozen? ⟨w.heap.size + 1, 0, none⟩ = false) := Lib.hid (by simp [jR])
          have G5 : Hid ((w4.setCell ⟨w.heap.size + 1 + 1, 0, none⟩ (.slice A4 p4 c4)).cell? ⟨w.heap.size + 1 + 1, 0, none⟩ = some (.slice A4 p4 c4)) := Lib.hid (by simp [go_sem, dB4])
          have H5 : Hid ((w4.setCell ⟨w.heap.size + 1 + 1, 0, none⟩ (.slice A4 p4 c4)).frozen? ⟨w.heap.size + 1 + 1, 0, none⟩ = false) := Lib.hid (by simp [fB4])
          have S5 : Hid (w.heap.size + 3 ≤ (w4.setCell ⟨w.heap.size + 1 + 1, 0, none⟩ (.slice A4 p4 c4)).heap.size) := Lib.hid (by have := b4.size; simp at this; simp; omega)
          clear o4 b4 BW k0 kR jR dB4 fB4 ho
          go_wp2
          go_roundw
          case rel => exact ⟨k + 1, A4, p4, c4, by omega, by go_num, ⟨by have := HP4.out; omega, by rw [HK.out, fl_append]; exact O5.out⟩, D5.out, R5.out, F5.out, G5.out, H5.out, S5.out, B5.out⟩
          case measure => simp [intOf]; omega
      · have HK := Lib.hid (remS_skip hx (show pN nm (s, x) = true from hs))
        clear hx
        go_wp2
        go_roundw
        case rel => exact ⟨k + 1, B, p, d, by omega, by go_num, ⟨by omega, by rw [HK.out]; exact ho⟩, d0, dR, fR, dB, fB, hsz, hbel⟩
        case measure => simp [intOf]; omega
    · obtain rfl : k = n := by omega
      have HT : Hid (remS (l.take k) nm = remS l nm) := Lib.hid (by rw [List.take_of_length_le (Nat.le_of_eq LX.out)])
      have HP : Hid ((remS l nm).length = p) := Lib.hid (by rw [← HT.out]; exact own_lenF ho)
      obtain ⟨rb, hrb⟩ : ∃ rb, rb = recB l := ⟨_, rfl⟩
      have HB := Lib.hid hrb
      clear hrb
      go_wp2_with fail
      refine (specIsRecord_any A k c l rb _ (by unfold maxLen; omega) (ha.below hbel) hok HB.out).mono ?_
      rintro e w1 ⟨rfl, b1⟩
      have B1 := hbel.trans (b1.mono hbel.size)
      replace d0 := kcell b1 d0
      replace dR := kcell b1 dR
      replace fR := kfro b1 (by omega) fR
      replace dB := kcell b1 dB
      replace fB := kfro b1 (by omega) fB
      replace ho := own_below ho b1
      have hs1 := b1.size
      clear b1
      cases rb
      · have HN := Lib.hid (HR.out.trans (rem_no HB.out.symm nm))
        go_wp2_with fail
        refine (l5Copy_any A k c l _ (by omega) (ha.below B1)).mono ?_
        rintro e w2 ⟨A2, n2, c2, rfl, o2, b2⟩
        have B2 := B1.trans (b2.mono B1.size)
        replace dR := kcell b2 dR
        replace fR := kfro b2 (by omega) fR
        have B4 := Lib.hid (B2.setCell (p := ⟨w.heap.size + 1, 0, none⟩) (by simp) (.slice A2 n2 c2))
        have O4 := Lib.hid (own_base (base' := w.heap.size) (ownsRow_setCell_below o2 (a := ⟨w.heap.size + 1, 0, none⟩) (by show w.heap.size + 1 < w1.heap.size; omega) (.slice A2 n2 c2)) (by omega))
        clear b2 o2 B2
        go_wp2
        exact bodyPost_ret (v := .tuple #[.agg #[.slice A2 n2 c2], .bool false]) (by simp [results, Try.results32, go_sem, dR]) rfl (MkRB_mk HN.out O4.out B4.out)
      · by_cases hpk2 : p = k
        · have HN : Hid ((lr, r) = (l, false)) := Lib.hid (by rw [HR.out]; unfold remR; rw [if_neg (fun h => h.2 (by rw [HP.out, hpk2, LX.out]))])
          subst hpk2
          go_wp2_with fail
          refine (l5Copy_any A p c l _ (by omega) (ha.below B1)).mono ?_
          rintro e w2 ⟨A2, n2, c2, rfl, o2, b2⟩
          have B2 := B1.trans (b2.mono B1.size)
          replace dR := kcell b2 dR
          replace fR := kfro b2 (by omega) fR
          have B4 := Lib.hid (B2.setCell (p := ⟨w.heap.size + 1, 0, none⟩) (by simp) (.slice A2 n2 c2))
          have O4 := Lib.hid (own_base (base' := w.heap.size) (ownsRow_setCell_below o2 (a := ⟨w.heap.size + 1, 0, none⟩) (by show w.heap.size + 1 < w1.heap.size; omega) (.slice A2 n2 c2)) (by omega))
          clear b2 o2 B2
          go_wp2
          exact bodyPost_ret (v := .tuple #[.agg #[.slice A2 n2 c2], .bool false]) (by simp [results, Try.results32, go_sem, dR]) rfl (MkRB_mk HN.out O4.out B4.out)
        · have HN : Hid ((lr, r) = (remS l nm, true)) := Lib.hid (by rw [HR.out]; unfold remR; rw [if_pos ⟨HB.out.symm, by rw [HP.out, LX.out]; exact hpk2⟩])
          have hpz : ¬ ((p : Int) = (k : Int)) := by omega
          have B4 := Lib.hid (B1.setCell (p := ⟨w.heap.size + 1, 0, none⟩) (by simp) (.slice B p d))
          have O4 := Lib.hid (own_base (base' := w.heap.size) (ownsRow_setCell_below ho (a := ⟨w.heap.size + 1, 0, none⟩) (by simp) (.slice B p d)) (by omega))
          clear ho
          go_wp2
          exact bodyPost_ret (v := .tuple #[.agg #[.slice B p d], .bool true]) (by simp [results, Try.results32, go_sem, dR]) rfl (MkRB_mk HN.out (by rw [← HT.out]; exact O4.out) B4.out)
end Go.Proofs.Ytbbngihmjdndoaa
