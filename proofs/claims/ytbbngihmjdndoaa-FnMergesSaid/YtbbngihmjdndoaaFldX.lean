/-
  Proved: the contract of slices.Delete of one field, in a row of the run's own. Conditions: the slice is such a row; the place is in it.
  By an AI agent; no person has read it.
-/
import Derived.Test.YtbbngihmjdndoaaFldC
import Derived.Test.YtbbngihmjdndoaaOwnR
namespace Go.Proofs.Ytbbngihmjdndoaa
open Go.RowKit

theorem fl_erase (l : List Fld) (k : Nat) : fl (l.eraseIdx k) = (fl l).take (k * 2) ++ (fl l).drop ((k + 1) * 2) := by
  rw [List.eraseIdx_eq_take_drop_succ, fl_append, fl_take]
  congr 1
  induction l generalizing k with
  | nil => simp [fl]
  | cons f l ih =>
    rw [fl_cons]
    cases k with
    | zero => simp
    | succ k =>
      rw [List.drop_succ_cons, ih k, show (k + 1 + 1) * 2 = (k + 1) * 2 + 1 + 1 by omega, List.drop_succ_cons, List.drop_succ_cons]
theorem grown_drew {w w' : World} {r : Option Nat} (h : w.drew.grownBy w' r) : w.grownBy w' r := ⟨h.os, h.tape, h.output, h.size, h.block⟩
theorem zeroF (w : World) : (zeroValue 91).run Try.prog w = .ok (.agg #[.string ⟨#[]⟩, .int .i64 0]) w := by kernel_rfl

set_option maxRecDepth 100000 in
set_option maxHeartbeats 1000000 in
theorem sliceDelete_any (g n c base k : Nat) (l : List Fld) (w : World) (hn : n ≤ 1099511627776) (hk : k < n) (ho : w.ownsRow base 91 2 (.slice (some ⟨g, 0, none⟩) n c) n (fl l)) :
    Calls Try.prog 89 #[.slice (some ⟨g, 0, none⟩) n c, .int .i64 (k : Int), .int .i64 ((k : Int) + 1)] w fun e w' => e = .returned (.slice (some ⟨g, 0, none⟩) (n - 1) c) ∧ w'.ownsRow base 91 2 (.slice (some ⟨g, 0, none⟩) (n - 1) c) (n - 1) (fl (l.eraseIdx k)) ∧ w.grownBy w' (some g) := by
  obtain ⟨i0, hi, hz0, hz1, hz2⟩ := info_parts infoF
  have hcap := own_cap ho
  unfold maxLen at hcap
  have HO := Lib.hid ho
  have HL := Lib.hid (own_lenF ho)
  have i1 : (0 : Int) ≤ (k : Int) := by omega
  have i2 : (k : Int) + 1 ≤ (n : Int) := by omega
  have i3 : (n : Int) ≤ (c : Int) := by omega
  have i5 : (k : Int) ≤ (c : Int) := by omega
  have i6 : (0 : Int) ≤ (k : Int) + 1 := by omega
  have i7 : (k : Int) + 1 ≤ (c : Int) := by omega
  have i8 : (k : Int) ≤ (k : Int) + 1 := by omega
  have i4 : ¬ ((k : Int) = (k : Int) + 1) := by omega
  have hch : Hid (w.ownsRow base 91 2 (.slice (some ⟨g, 0, none⟩) k c) k ((fl l).take (k * 2))) := own_head ho (by omega)
  have ho' := Lib.hid ho
  clear ho
  obtain ⟨A, hA, hR⟩ : ∃ A : Addr, (if c = k + 1 then (⟨g, 0, none⟩ : Addr) else ⟨g, (k + 1) * 2, none⟩) = A ∧ Hid (Rd w 2 (some A) (n - (k + 1)) ((fl l).drop ((k + 1) * 2))) := by
    by_cases h : c = k + 1
    · exact ⟨_, rfl, own_tail HO.out (by omega) (fun h2 => by omega)⟩
    · exact ⟨_, rfl, own_tail HO.out (by omega) (fun _ => by rw [if_neg h])⟩
  by_cases hck : c = k + 1
  · obtain rfl : c = k + 1 := hck
    obtain rfl : n = k + 1 := by omega
    have hR0 : Hid (Rd w 2 (some ⟨g, 0, none⟩) 0 []) := Lib.hid (⟨rfl, fun h => absurd h (by omega)⟩)
    have hE : Hid ((fl l).take (k * 2) ++ [] = fl (l.eraseIdx k)) := Lib.hid (by rw [fl_erase, List.drop_of_length_le (by rw [fl_len, HL.out]; exact Nat.le_refl _)])
    clear hA hR
    go_enter Try.func89, Try.ntmps89
    go_wp2
    go_region_law (refine step_fits rfl (.tmp 22) (.tmp 25) 26 rfl base 91 i0 2 Try.underlying26 hi hz1 g k (k + 1) ((fl l).take (k * 2)) (by simp [Act.eval, Act.put]) hch.out ⟨g, 0, none⟩ 0 0 [] (by simp [Act.eval, Act.put]) hR0.out (fun u hu => (by cases hu)) (by omega) ?_; intro p w1 hp o1 g1; have HP0 := Lib.hid hp; clear hp)
    obtain ⟨hp1, hp2⟩ : p = k ∧ p < k + 1 := by have := HP0.out; omega
    rw [hE.out] at o1
    subst hp1
    obtain ⟨w2, hclr, o2, g2⟩ := run_clear_own (P := Try.prog) 26 0 (.agg #[.string ⟨#[]⟩, .int .i64 0]) Try.underlying26 zeroF rfl (by intro v hv; simp [Value.cells] at hv; rcases hv with rfl | rfl <;> rfl) (by decide) g p (p + 1) 1 (p + 1 - p) _ o1 (by decide) (by omega)
    have O2 := Lib.hid o2
    have G2 := Lib.hid (g1.trans g2)
    have HC := Lib.hid hclr
    clear o1 g1 o2 g2 hclr hcap
    go_wp2_with (refine wpList_clear rfl (.tmp 31) 26 rfl _ rfl w2 HC.out ?_)
    go_ret
    exact ⟨rfl, O2.out, grown_drew G2.out⟩
  · rw [if_neg hck] at hA
    subst hA
    go_enter Try.func89, Try.ntmps89
    go_wp2
    go_region_law (refine step_fits rfl (.tmp 22) (.tmp 25) 26 rfl base 91 i0 2 Try.underlying26 hi hz1 g k c ((fl l).take (k * 2)) (by simp [Act.eval, Act.put]) hch.out ⟨g, (k + 1) * 2, none⟩ (n - (k + 1)) (c - (k + 1)) ((fl l).drop ((k + 1) * 2)) (by simp [Act.eval, Act.put]) hR.out (fun u hu => ones_fl l u (List.mem_of_mem_drop hu)) (by omega) ?_; intro p w1 hp o1 g1; have HP0 := Lib.hid hp; clear hp)
    obtain ⟨hp1, hp2⟩ : p + 1 = n ∧ p < c := by have := HP0.out; omega
    have HP := Lib.hid hp1
    rw [← fl_erase] at o1
    obtain ⟨w2, hclr, o2, g2⟩ := run_clear_own (P := Try.prog) 26 0 (.agg #[.string ⟨#[]⟩, .int .i64 0]) Try.underlying26 zeroF rfl (by intro v hv; simp [Value.cells] at hv; rcases hv with rfl | rfl <;> rfl) (by decide) g p c 1 (c - p) _ o1 (by decide) (by omega)
    have O2 := Lib.hid o2
    have G2 := Lib.hid (g1.trans g2)
    have HC := Lib.hid hclr
    have j1 : (0 : Int) ≤ (p : Int) := by omega
    have j2 : (p : Int) ≤ (n : Int) := by omega
    have j3 : (n : Int) ≤ (c : Int) := by omega
    have j4 : ¬ (c = p) := by omega
    have j5 : n - p = 1 := by omega
    clear o1 g1 o2 g2 hclr hp1 hcap
    go_wp2_with (refine wpList_clear rfl (.tmp 31) 26 rfl _ rfl w2 HC.out ?_)
    go_ret
    have e : n - 1 = p := by have := HP.out; omega
    rw [e]
    exact ⟨rfl, O2.out, grown_drew G2.out⟩
end Go.Proofs.Ytbbngihmjdndoaa
