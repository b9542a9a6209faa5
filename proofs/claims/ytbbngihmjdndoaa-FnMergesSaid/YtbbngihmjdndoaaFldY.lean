/-
  Proved: the contract of slices.Insert of one field, in a row of the run's own. Conditions: the slice is such a row; the place is in it or at its end; the new field lies in a new block.
  By an AI agent; no person has read it.
-/
import Derived.Test.YtbbngihmjdndoaaFldX
import Derived.Test.YtbbngihmjdndoaaCatR
import Derived.Lib.Overlaps
import Derived.Lib.AppendZeros
namespace Go.Proofs.Ytbbngihmjdndoaa
open Go.RowKit

theorem fl_drop (l : List Fld) (k : Nat) : fl (l.drop k) = (fl l).drop (k * 2) := by
  induction l generalizing k with
  | nil => simp [fl]
  | cons f l ih =>
    cases k with
    | zero => simp
    | succ k => rw [List.drop_succ_cons, ih k, fl_cons, show (k + 1) * 2 = k * 2 + 1 + 1 by omega, List.drop_succ_cons, List.drop_succ_cons]
theorem fl_ins (l : List Fld) (k : Nat) (f : Fld) : fl (l.take k ++ f :: l.drop k) = (fl l).take (k * 2) ++ (fl [f] ++ (fl l).drop (k * 2)) := by
  rw [show l.take k ++ f :: l.drop k = l.take k ++ ([f] ++ l.drop k) by simp, fl_append, fl_append, fl_take, fl_drop]

theorem grownBy_new {w w1 w2 : World} {row : Option Nat} {G : Nat} (h : w.grownBy w1 row) (h2 : w1.grownBy w2 (some G)) (hG : w.heap.size ≤ G) : w.grownBy w2 row :=
  ⟨h2.os.trans h.os, h2.tape.trans h.tape, h2.output.trans h.output, Nat.le_trans h.size h2.size, fun k hk hr => (h2.block k (Nat.lt_of_lt_of_le hk h.size) (by simp; omega)).trans (h.block k hk hr)⟩
theorem grown_of' {w w' : World} (hb : Below w.heap.size w w') (row : Option Nat) : w.grownBy w' row := ⟨hb.os, hb.tape, hb.output, hb.size, fun k hk _ => hb.block k hk⟩

set_option maxRecDepth 100000 in
set_option maxHeartbeats 1000000 in
theorem sliceInsert_end (A : Option Addr) (n c base : Nat) (l : List Fld) (nm : ByteArray) (x : Int) (w : World) (hn : n ≤ 1099511627776) (hb : base ≤ w.heap.size) (ho : w.ownsRow base 91 2 (.slice A n c) n (fl l)) :
    Calls Try.prog 104 #[.slice A n c, .int .i64 (n : Int), .slice (some ⟨w.heap.size, 0, none⟩) 1 1] (w.alloc (.cells #[.string nm, .int .i64 x] 91)) fun e w' => ∃ A' c', e = .returned (.slice A' (n + 1) c') ∧ w'.ownsRow base 91 2 (.slice A' (n + 1) c') (n + 1) (fl (l ++ [(nm, x)])) ∧ w.grownBy w' (A.map (·.block)) := by
  obtain ⟨i0, hi, hz0, hz1, hz2⟩ := info_parts infoF
  have hcap := own_cap ho
  unfold maxLen at hcap
  have i3 : (n : Int) ≤ (c : Int) := by omega
  go_enter Try.func104, Try.ntmps104
  go_wp2_with (at_builtin; refine wpList_cat _ rfl _ _ 26 (by rfl) base 91 i0 (.agg #[.string ⟨#[]⟩, .int .i64 0]) 2 24 Try.underlying26 hi hz0 hz1 hz2 rfl (by decide) A n c _ (by rfl) (ho.alloc _) (some ⟨w.heap.size, 0, none⟩) 1 1 (fl [(nm, x)]) (by rfl) (rd_new2 rfl) (ones_fl _) (by unfold maxLen; omega) (by omega) (by simp; omega) ?_; intro A1 n1 c1 w1 hn1 o1 b1 g1; rw [← fl_append] at o1; subst hn1; have O1 := Lib.hid o1; have B1 := Lib.hid ((World.grownBy_alloc w (.cells #[.string nm, .int .i64 x] 91) _).trans g1); clear o1 b1 g1)
  all_goals
    go_ret
    exact ⟨_, _, rfl, O1.out, B1.out⟩

set_option maxRecDepth 100000 in
set_option maxHeartbeats 600000 in
theorem sliceInsert_grow (g n c base k : Nat) (l : List Fld) (nm : ByteArray) (x : Int) (w : World) (hn : n ≤ 1048576) (hk : k < n) (hno : c < n + 1) (hb : base ≤ w.heap.size) (ho : w.ownsRow base 91 2 (.slice (some ⟨g, 0, none⟩) n c) n (fl l)) :
    Calls Try.prog 104 #[.slice (some ⟨g, 0, none⟩) n c, .int .i64 (k : Int), .slice (some ⟨w.heap.size, 0, none⟩) 1 1] (w.alloc (.cells #[.string nm, .int .i64 x] 91)) fun e w' => ∃ A' c', e = .returned (.slice A' (n + 1) c') ∧ w'.ownsRow base 91 2 (.slice A' (n + 1) c') (n + 1) (fl (l.take k ++ (nm, x) :: l.drop k)) ∧ w.grownBy w' (some g) := by
  obtain ⟨i0, hi, hz0, hz1, hz2⟩ := info_parts infoF
  have hcap := own_cap ho
  unfold maxLen at hcap
  obtain rfl : n = c := by omega
  have hglt := (ho.lt g rfl).2
  have hXl : (fl l).length = n * 2 := ho.1
  obtain ⟨X, hX⟩ : ∃ X, X = fl l := ⟨_, rfl⟩
  have hg0 := own_head (ho.alloc (.cells #[.string nm, .int .i64 x] 91)) (show k ≤ n by omega)
  obtain ⟨m, hm⟩ : ∃ m, m = n + 1 - k := ⟨_, rfl⟩
  obtain ⟨G, cap, w1, hr1, ⟨ys, o1⟩, b1, hG⟩ := run_make_grow (P := Try.prog) 26 3 26 i0 (.agg #[.string ⟨#[]⟩, .int .i64 0]) 24 .i64 Try.underlying26 Try.underlying3 hi hz0 hz1 hz2 rfl (by decide) g k n m _ hg0 (by omega) (by omega) (by omega) (by omega) (by simp; omega)
  obtain ⟨p, hp⟩ : ∃ p, p = k + m := ⟨_, rfl⟩
  rw [← hp] at hr1 o1
  have hmz : (m : Int) = (n : Int) + 1 - (k : Int) := by omega
  rw [hmz] at hr1
  have hp1 : p = n + 1 := by omega
  have hpc := (own_cap o1).1
  have hk1 := own_head o1 (show k ≤ p by omega)
  have hv1 : Rd w1 2 (some ⟨w.heap.size, 0, none⟩) 1 (fl [(nm, x)]) := (rd_new2 (e := 91) rfl).below b1
  obtain ⟨w2, hr2, o2, g2⟩ := run_copy_own (P := Try.prog) 26 26 3 i0 Try.underlying26 hi hz1 G k (k + 1) cap (k * 2) (p - k) (cap - k) _ hk1 (some ⟨w.heap.size, 0, none⟩) 1 1 1 (fl [(nm, x)]) (Nat.min_eq_left (by omega)) hv1 (ones_fl _) (by omega) (by omega) (by omega)
  have hGg : g ≠ G := by simp at hG; omega
  have hog1 := own_below (ho.alloc (.cells #[.string nm, .int .i64 x] 91)) b1
  have hog2 := own_grown hog1 (row := some G) g2 (fun ad h => by injection h with h; subst h; intro e; injection e with e; exact hGg e.symm)
  have ht2 : Rd w2 2 (some ⟨g, k * 2, none⟩) (n - k) ((fl l).drop (k * 2)) := own_tail hog2 (by omega) (fun _ => rfl)
  have ht2' : Rd w2.drew 2 (some ⟨g, k * 2, none⟩) (n - k) ((fl l).drop (k * 2)) := ht2
  obtain ⟨w3, hr3, o3, g3⟩ := run_copy_own (P := Try.prog) (w := w2.drew) 26 26 3 i0 Try.underlying26 hi hz1 G (k + 1) p cap ((k + 1) * 2) (p - (k + 1)) (cap - (k + 1)) _ o2 (some ⟨g, k * 2, none⟩) (n - k) (n - k) (n - k) ((fl l).drop (k * 2)) (Nat.min_eq_left (by omega)) ht2' (fun u hu => ones_fl l u (List.mem_of_mem_drop hu)) (by omega) (by omega) (by omega)
  have hlk : ((fl l).take (k * 2)).length = k * 2 := by rw [List.length_take]; omega
  have hE : ((((fl l).take (k * 2) ++ ys).take (k * 2)).take (k * 2) ++ fl [(nm, x)]).take ((k + 1) * 2) ++ (fl l).drop (k * 2) = fl (l.take k ++ (nm, x) :: l.drop k) := by
    rw [fl_ins, List.take_take, Nat.min_self, List.take_left' hlk, List.take_of_length_le (by rw [List.length_append, hlk]; simp [fl, fv]; omega), List.append_assoc]
  rw [hE] at o3
  have O3 := Lib.hid o3
  have hB3 : w.grownBy w3 (some g) := grownBy_new (grownBy_new ((World.grownBy_alloc w (.cells #[.string nm, .int .i64 x] 91) (some g)).trans (grown_of' b1 (some g))) g2 (by simp at hG; omega)) (grown_drew g3) (by simp at hG; omega)
  have B3 := Lib.hid hB3
  have H1 := Lib.hid hr1
  have H2 := Lib.hid hr2
  have H3 := Lib.hid hr3
  have HP := Lib.hid hp1
  have j0 : (0 : Int) ≤ (k : Int) := by omega
  have j1 : (k : Int) ≤ (n : Int) := by omega
  have j2 : (k : Int) ≤ (p : Int) := by omega
  have j3 : (p : Int) ≤ (cap : Int) := by omega
  have j4 : (k : Int) + 1 ≤ (p : Int) := by omega
  have j5 : ¬ (cap = k) := by omega
  have j6 : ¬ (cap = k + 1) := by omega
  have j7 : ¬ ((k : Int) = (n : Int)) := by omega
  have j8 : ¬ (n = k) := by omega
  have j9 : (0 : Int) ≤ (k : Int) + 1 := by omega
  have j10 : (0 : Int) ≤ (n : Int) + 1 - (k : Int) := by omega
  clear hg0 hr1 o1 b1 hk1 hv1 hr2 o2 g2 hog1 hog2 ht2 ht2' hr3 o3 g3 hlk hE hB3 hp hp1 hm hmz hX hcap hXl
  go_enter Try.func104, Try.ntmps104
  go_wp2_with (first
    | (at_builtin; refine Lib.wpList_append_run _ rfl _ _ _ _ rfl _ _ rfl rfl _ _ H1.out ?_)
    | (refine wpList_copyR rfl (.tmp 43) (.tmp 44) 26 26 rfl _ _ (by rfl) (by rfl) _ w2 H2.out ?_))
  have hw : IntKind.i64.wrap ((k : Int) + 1) = (k : Int) + 1 := IntWalk.i64_in _ (by omega)
  have hw2 : ((k : Int) + 1).toNat = k + 1 := by omega
  go_region_law (refine step_copyR rfl (.tmp 50) (.tmp 53) 26 26 rfl (.slice (some ⟨G, (k + 1) * 2, none⟩) (p - (k + 1)) (cap - (k + 1))) (.slice (some ⟨g, k * 2, none⟩) (n - k) (n - k)) (by simp [Act.eval, Act.put]) (by simp [Act.eval, Act.put]) _ w3 H3.out ?_)
  go_wp2
  go_ret
  have e : p = n + 1 := HP.out
  exact ⟨some ⟨G, 0, none⟩, cap, by rw [← e]; rfl, by rw [← e]; exact O3.out, B3.out⟩

theorem sizeF (w : World) : (Go.sizeOf 91).run Try.prog w = .ok 2 w := by kernel_rfl
theorem own_shape? {w : World} {base : Nat} {e : TypeId} {size g n c : Nat} {xs : List Value} (h : w.ownsRow base e size (.slice (some ⟨g, 0, none⟩) n c) n xs) : w.shape? g = some (e, c * size) := by
  rcases h.2 with ⟨hv, _⟩ | ⟨g', cap, cur, hv, hg, hh, h2, h3, h4, h5⟩
  · cases hv
  · injection hv with e1 e2 e3
    injection e1 with e1
    injection e1 with e1
    subst e1 e3
    unfold World.shape?
    rw [hh]
    simp [h4]

set_option maxRecDepth 100000 in
set_option maxHeartbeats 600000 in
theorem sliceInsert_shift (g n c base k : Nat) (l : List Fld) (nm : ByteArray) (x : Int) (w : World) (hn : n ≤ 1048576) (hk : k < n) (hroom : n + 1 ≤ c)  (ho : w.ownsRow base 91 2 (.slice (some ⟨g, 0, none⟩) n c) n (fl l)) :
    Calls Try.prog 104 #[.slice (some ⟨g, 0, none⟩) n c, .int .i64 (k : Int), .slice (some ⟨w.heap.size, 0, none⟩) 1 1] (w.alloc (.cells #[.string nm, .int .i64 x] 91)) fun e w' => ∃ A' c', e = .returned (.slice A' (n + 1) c') ∧ w'.ownsRow base 91 2 (.slice A' (n + 1) c') (n + 1) (fl (l.take k ++ (nm, x) :: l.drop k)) ∧ w.grownBy w' (some g) := by
  obtain ⟨i0, hi, hz0, hz1, hz2⟩ := info_parts infoF
  have hcap := own_cap ho
  unfold maxLen at hcap
  have hglt := ho.lt g rfl
  have hXl : (fl l).length = n * 2 := ho.1
  obtain ⟨W0, hW0⟩ : ∃ W0, W0 = w.alloc (.cells #[.string nm, .int .i64 x] 91) := ⟨_, rfl⟩
  have hg0 : W0.ownsRow base 91 2 (.slice (some ⟨g, 0, none⟩) n c) n (fl l) := by rw [hW0]; exact ho.alloc _
  have hg0' : W0.drew.ownsRow base 91 2 (.slice (some ⟨g, 0, none⟩) n c) n (fl l) := hg0
  have hv0 : Rd W0 2 (some ⟨w.heap.size, 0, none⟩) 1 (fl [(nm, x)]) := by rw [hW0]; exact rd_new2 rfl
  have hgv : w.heap.size ≠ g := by omega
  have hov : ∀ lb cb, (callFunc 145 #[.slice (some ⟨w.heap.size, 0, none⟩) 1 1, .slice (some ⟨g, (k + 1) * 2, none⟩) lb cb]).run Try.prog W0 = .ok (.value (.bool false)) W0 := fun lb cb => by
    rw [run_callFunc_extern Try.func145 (by kernel_rfl) (by kernel_rfl) (by kernel_rfl) (e := Extern.SlicesOverlaps.overlaps #[26, 26] #[4]) (by kernel_rfl),
      Lib.run_overlaps_apart W0 26 4 91 Try.underlying26 2 sizeF ⟨w.heap.size, 0, none⟩ ⟨g, (k + 1) * 2, none⟩ 1 1 lb cb hgv 91 91 2 (c * 2) (by rw [hW0]; unfold World.shape?; rw [heap_alloc_new]; rfl) (own_shape? hg0) (by omega) (by rw [hW0]; simp [go_sem]) (by rw [hW0]; simp [go_sem])]
    rfl
  have ht0 : Rd W0.drew 2 (some ⟨g, k * 2, none⟩) (n - k) ((fl l).drop (k * 2)) := own_tail hg0' (by omega) (fun _ => rfl)
  obtain ⟨w2, hr2, o2, g2⟩ := run_copy_own (P := Try.prog) (w := W0.drew) 26 26 3 i0 Try.underlying26 hi hz1 g n (n + 1) c ((k + 1) * 2) (n + 1 - (k + 1)) (c - (k + 1)) _ hg0' (some ⟨g, k * 2, none⟩) (n + 1 - k) (c - k) (n - k) ((fl l).drop (k * 2)) (by show min (n + 1 - k) (n + 1 - (k + 1)) = n - k; omega) ht0 (fun u hu => ones_fl l u (List.mem_of_mem_drop hu)) (by omega) (by omega) hroom
  have hv2 : Rd w2 2 (some ⟨w.heap.size, 0, none⟩) 1 (fl [(nm, x)]) := hv0.grown (grown_drew g2) (fun ad h => by injection h with h; subst h; intro e; injection e with e; exact hgv e.symm)
  obtain ⟨w3, hr3, o3, g3⟩ := run_copy_mid (P := Try.prog) 26 26 3 i0 Try.underlying26 hi hz1 g (n + 1) c (k * 2) (n + 1 - k) (c - k) _ o2 (some ⟨w.heap.size, 0, none⟩) 1 1 1 (fl [(nm, x)]) (Nat.min_eq_left (by omega)) hv2 (ones_fl _) (by omega)
  have hlk : ((fl l).take ((k + 1) * 2)).length = (k + 1) * 2 := by rw [List.length_take]; omega
  have hE : ((fl l).take ((k + 1) * 2) ++ (fl l).drop (k * 2)).take (k * 2) ++ fl [(nm, x)] ++ ((fl l).take ((k + 1) * 2) ++ (fl l).drop (k * 2)).drop (k * 2 + 1 * 2) = fl (l.take k ++ (nm, x) :: l.drop k) := by
    rw [fl_ins, show k * 2 + 1 * 2 = (k + 1) * 2 by omega, List.drop_left' hlk, List.take_append_of_le_length (by rw [hlk]; omega), List.take_take, Nat.min_eq_left (by omega), List.append_assoc]
  rw [hE] at o3
  have O3 := Lib.hid o3
  have hBW : w.grownBy W0 (some g) := by rw [hW0]; exact World.grownBy_alloc w _ _
  have hB3 : w.grownBy w3 (some g) := (hBW.trans (grown_drew g2)).trans g3
  have B3 := Lib.hid hB3
  have H2 := Lib.hid hr2
  have H3 := Lib.hid hr3
  have j0 : (0 : Int) ≤ (k : Int) := by omega
  have j1 : (k : Int) ≤ (n : Int) := by omega
  have j3 : (n : Int) + 1 ≤ (c : Int) := by omega
  have j4 : (k : Int) + 1 ≤ (n : Int) + 1 := by omega
  have j5 : ¬ (c = k) := by omega
  have j6 : ¬ (c = k + 1) := by omega
  have j7 : ¬ ((k : Int) = (n : Int)) := by omega
  have j8 : (k : Int) ≤ (n : Int) + 1 := by omega
  have j9 : (0 : Int) ≤ (k : Int) + 1 := by omega
  rw [← hW0]
  clear hg0 hg0' hv0 hr2 o2 g2 hv2 hr3 o3 g3 hlk hE hBW hB3 hcap hXl ht0 hW0
  go_enter Try.func104, Try.ntmps104
  go_wp2_with (first
    | (simp only [hov])
    | (refine wpList_copyR rfl (.tmp 80) (.tmp 81) 26 26 rfl _ _ (by rfl) (by rfl) _ w3 H3.out ?_))
  have hw : IntKind.i64.wrap ((k : Int) + 1) = (k : Int) + 1 := IntWalk.i64_in _ (by omega)
  have hw2 : ((k : Int) + 1).toNat = k + 1 := by omega
  go_region_law (refine step_copyR rfl (.tmp 73) (.tmp 76) 26 26 rfl (.slice (some ⟨g, (k + 1) * 2, none⟩) (n + 1 - (k + 1)) (c - (k + 1))) (.slice (some ⟨g, k * 2, none⟩) (n + 1 - k) (c - k)) (by simp [Act.eval, Act.put]) (by simp [Act.eval, Act.put]) _ w2 H2.out ?_)
  go_wp2_with (refine wpList_copyR rfl (.tmp 80) (.tmp 81) 26 26 rfl (.slice (some ⟨g, k * 2, none⟩) (n + 1 - k) (c - k)) (.slice (some ⟨w.heap.size, 0, none⟩) 1 1) (by rfl) (by rfl) _ w3 H3.out ?_)
  go_ret
  exact ⟨some ⟨g, 0, none⟩, c, rfl, O3.out, B3.out⟩

/-- Inserted at any place, in any row of the run's own. -/
theorem sliceInsert_any (A : Option Addr) (n c base k : Nat) (l : List Fld) (nm : ByteArray) (x : Int) (w : World) (hn : n ≤ 1048576) (hk : k ≤ n) (hb : base ≤ w.heap.size) (ho : w.ownsRow base 91 2 (.slice A n c) n (fl l)) :
    Calls Try.prog 104 #[.slice A n c, .int .i64 (k : Int), .slice (some ⟨w.heap.size, 0, none⟩) 1 1] (w.alloc (.cells #[.string nm, .int .i64 x] 91)) fun e w' => ∃ A' c', e = .returned (.slice A' (n + 1) c') ∧ w'.ownsRow base 91 2 (.slice A' (n + 1) c') (n + 1) (fl (l.take k ++ (nm, x) :: l.drop k)) ∧ w.grownBy w' (A.map (·.block)) := by
  rcases Nat.lt_or_ge k n with h | h
  · obtain ⟨g, cap, hv, _, _⟩ := ho.form (by omega)
    injection hv with e1 e2 e3
    subst e1
    rcases Nat.lt_or_ge c (n + 1) with h2 | h2
    · exact sliceInsert_grow g n c base k l nm x w hn h h2 hb ho
    · exact sliceInsert_shift g n c base k l nm x w hn h h2 ho
  · obtain rfl : n = k := by omega
    have hl := own_lenF ho
    refine (sliceInsert_end A n c base l nm x w (by omega) hb ho).mono fun e w' h => ?_
    rw [List.take_of_length_le (by omega), List.drop_of_length_le (by omega)]
    exact h
end Go.Proofs.Ytbbngihmjdndoaa
