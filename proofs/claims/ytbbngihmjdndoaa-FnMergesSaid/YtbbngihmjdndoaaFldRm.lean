/-
  Proved: the contracts of RemoveField, of the program and of the reference. Conditions: the slices read as lists.
  By an AI agent; no person has read it.
-/
import Derived.Test.YtbbngihmjdndoaaFldX
import Derived.Test.YtbbngihmjdndoaaFldD
import Derived.Test.YtbbngihmjdndoaaRecS
import Derived.OneCell
namespace Go.Proofs.Ytbbngihmjdndoaa
open Go.RowKit

theorem MkRB_mk {w w1 : World} {lr l : List Fld} {r rb : Bool} {A : Option Addr} {n c : Nat} (h : (lr, r) = (l, rb)) (ho : w1.ownsRow w.heap.size 91 2 (.slice A n c) n (fl l)) (hb : Below w.heap.size w w1) : MkRB w lr r (.returned (.tuple #[.agg #[.slice A n c], .bool rb])) w1 := by
  obtain ⟨rfl, rfl⟩ := Prod.mk.inj h
  exact ⟨_, _, _, rfl, ho, hb⟩

set_option maxRecDepth 100000 in
set_option maxHeartbeats 1000000 in
theorem implRemoveField_any (A : Option Addr) (n c : Nat) (l : List Fld) (nm : ByteArray) (lr : List Fld) (r : Bool) (w : World) (hn : n ≤ 1048576) (ha : Rd w 2 A n (fl l)) (hok : okF l) (hr : (lr, r) = remR l nm) :
    Calls Try.prog 33 #[.agg #[.slice A n c], .string nm] w (MkRB w lr r) := by
  have HR := Lib.hid hr
  have LX := Lib.hid ha.lenF
  clear hr
  go_enter Try.func33, Try.ntmps33
  go_wp2_with fail
  refine (copyRecord_any A n c l _ (by omega) ((ha.alloc _).alloc _)).mono ?_
  rintro e w1 ⟨B, p, d, rfl, o1, b1⟩
  obtain rfl : n = p := by have := own_lenF o1; have := LX.out; omega
  have hw1 : w.heap.size + 2 ≤ w1.heap.size := by have := b1.size; simp at this; omega
  have d0 : (w1.alloc (.cells #[.slice B n d] 28)).cell? ⟨w.heap.size, 0, none⟩ = some (.slice A n c) := kcell (al (Below.refl _ _)) (kcell b1 (by simp))
  have dR : (w1.alloc (.cells #[.slice B n d] 28)).cell? ⟨w.heap.size + 1, 0, none⟩ = some (.slice none 0 0) := kcell (al (Below.refl _ _)) (kcell b1 (by simp [go_sem]))
  have fR : (w1.alloc (.cells #[.slice B n d] 28)).frozen? ⟨w.heap.size + 1, 0, none⟩ = false := kfro (al (Below.refl _ _)) (by omega) (kfro b1 (by simp) (by simp [go_sem]))
  have dB : (w1.alloc (.cells #[.slice B n d] 28)).cell? ⟨w1.heap.size, 0, none⟩ = some (.slice B n d) := by simp
  have fB : (w1.alloc (.cells #[.slice B n d] 28)).frozen? ⟨w1.heap.size, 0, none⟩ = false := by simp [go_sem]
  have B1 : Below w.heap.size w (w1.alloc (.cells #[.slice B n d] 28)) := al (Below.trans (al (al (Below.refl _ _))) (b1.mono (by simp; omega)))
  have o2 := own_base (own_below o1 (al (o := .cells #[.slice B n d] 28) (Below.refl w1.heap.size w1))) (by simp : w.heap.size + 2 ≤ _)
  have R1 := Lib.hid (own_rng o1)
  clear b1 o1
  obtain ⟨i, hi⟩ : ∃ i, i = idxF l nm := ⟨_, rfl⟩
  have HI := Lib.hid hi
  clear hi
  go_wp2_with fail
  refine (fieldAt_any A n c l nm i _ (by unfold maxLen; omega) (ha.below B1) HI.out).mono ?_
  rintro e w2 ⟨rfl, b2⟩
  have B2 := B1.trans (b2.mono B1.size)
  replace d0 := kcell b2 d0
  replace dR := kcell b2 dR
  replace fR := kfro b2 (by simp; omega) fR
  replace dB := kcell b2 dB
  replace fB := kfro b2 (by simp) fB
  replace o2 := own_below o2 b2
  have hs2 : w1.heap.size < w2.heap.size := by have := b2.size; simp at this; omega
  clear b2 B1
  obtain ⟨rb, hrb⟩ : ∃ rb, rb = recB l := ⟨_, rfl⟩
  have HB := Lib.hid hrb
  clear hrb
  go_wp2_with fail
  refine (implIsRecord_any A n c l rb _ (by unfold maxLen; omega) (ha.below B2) hok HB.out).mono ?_
  rintro e w3 ⟨rfl, b3⟩
  have B3 := B2.trans (b3.mono B2.size)
  replace d0 := kcell b3 d0
  replace dR := kcell b3 dR
  replace fR := kfro b3 (by omega) fR
  replace dB := kcell b3 dB
  replace fB := kfro b3 (by omega) fB
  replace o2 := own_below o2 b3
  have hs3 := b3.size
  clear b3 B2
  have B4 := Lib.hid (B3.setCell (p := ⟨w.heap.size + 1, 0, none⟩) (by simp) (.slice B n d))
  have O4 := Lib.hid (own_base (base' := w.heap.size) (ownsRow_setCell_below o2 (a := ⟨w.heap.size + 1, 0, none⟩) (by simp) (.slice B n d)) (by omega))
  cases rb
  · have HN := Lib.hid (HR.out.trans (rem_no HB.out.symm nm))
    go_wp2
    exact bodyPost_ret (v := .tuple #[.agg #[.slice B n d], .bool false]) (by simp [results, Try.results33, go_sem, dR]) rfl (MkRB_mk HN.out O4.out B4.out)
  · cases hf : l.findIdx? (pN nm) with
    | none =>
      have hi : i = -1 := by have := HI.out; rw [this]; unfold idxF; rw [hf]
      have HN : Hid ((lr, r) = (l, false)) := Lib.hid (by rw [HR.out, rem_eq HB.out.symm, hf])
      clear hf
      subst hi
      go_wp2
      exact bodyPost_ret (v := .tuple #[.agg #[.slice B n d], .bool false]) (by simp [results, Try.results33, go_sem, dR]) rfl (MkRB_mk HN.out O4.out B4.out)
    | some k =>
      have hi : i = (k : Int) := by have := HI.out; rw [this]; unfold idxF; rw [hf]
      have HN : Hid ((lr, r) = (l.eraseIdx k, true)) := Lib.hid (by rw [HR.out, rem_eq HB.out.symm, hf])
      have hk : k < n := by
        rw [List.findIdx?_eq_some_iff_getElem] at hf
        obtain ⟨h, -⟩ := hf
        have := LX.out
        omega
      clear hf
      subst hi
      obtain ⟨g, cap, hv, hgb, hglt⟩ := o2.form (by omega)
      obtain ⟨rfl, rfl⟩ : B = some ⟨g, 0, none⟩ ∧ d = cap := by injection hv; exact ⟨by assumption, by assumption⟩
      have hgb1 : g < w1.heap.size := (R1.out _ rfl).2
      have i1 : ¬ ((k : Int) < 0) := by omega
      clear hv B4 O4
      go_wp2_with fail
      refine (sliceDelete_any g n d (w.heap.size + 2) k l _ (by omega) hk o2).mono ?_
      rintro e w4 ⟨rfl, o4, g4⟩
      have B4 : Below w.heap.size w w4 := B3.trans (grown_below (A := some ⟨g, 0, none⟩) g4 B3.size (fun ad h => by injection h with h; subst h; show w.heap.size ≤ g; omega))
      replace dR := g4.cell dR (by simp; omega)
      replace fR : w4.frozen? ⟨w.heap.size + 1, 0, none⟩ = false := (World.frozen?_of_block (g4.block (w.heap.size + 1) (by omega) (by simp; omega))).trans fR
      replace dB := g4.cell dB (by simp; omega)
      replace fB : w4.frozen? ⟨w1.heap.size, 0, none⟩ = false := (World.frozen?_of_block (g4.block w1.heap.size (by omega) (by simp; omega))).trans fB
      obtain ⟨q, hq⟩ : ∃ q, q = n - 1 := ⟨_, rfl⟩
      rw [← hq] at o4 ⊢
      clear hq
      have O5 := Lib.hid (ownsRow_setCell_other o4 (a := ⟨w1.heap.size, 0, none⟩) (by simp [Value.ownBlock]; omega) (.slice (some ⟨g, 0, none⟩) q d))
      have B5 := B4.setCell (p := ⟨w1.heap.size, 0, none⟩) (by show w.heap.size ≤ w1.heap.size; omega) (.slice (some ⟨g, 0, none⟩) q d)
      have dB5 : (w4.setCell ⟨w1.heap.size, 0, none⟩ (.slice (some ⟨g, 0, none⟩) q d)).cell? ⟨w1.heap.size, 0, none⟩ = some (.slice (some ⟨g, 0, none⟩) q d) := by simp [go_sem, dB]
      have dR5 : (w4.setCell ⟨w1.heap.size, 0, none⟩ (.slice (some ⟨g, 0, none⟩) q d)).cell? ⟨w.heap.size + 1, 0, none⟩ = some (.slice none 0 0) := by rw [World.cell?_setCell_far w4 ⟨w1.heap.size, 0, none⟩ ⟨w.heap.size + 1, 0, none⟩ _ (by show w1.heap.size ≠ w.heap.size + 1; omega)]; exact dR
      have B6 := Lib.hid (B5.setCell (p := ⟨w.heap.size + 1, 0, none⟩) (by simp) (.slice (some ⟨g, 0, none⟩) q d))
      have O6 := Lib.hid (own_base (base' := w.heap.size) (ownsRow_setCell_below O5.out (a := ⟨w.heap.size + 1, 0, none⟩) (by simp) (.slice (some ⟨g, 0, none⟩) q d)) (by omega))
      clear o4 g4 B4 B5 B3 o2
      go_wp2
      exact bodyPost_ret (v := .tuple #[.agg #[.slice (some ⟨g, 0, none⟩) q d], .bool true]) (by simp [results, Try.results33, go_sem, dR5]) rfl (MkRB_mk HN.out O6.out B6.out)
end Go.Proofs.Ytbbngihmjdndoaa
